/- The contracts of when and cell. -/
import Derived.Test.YtkkjfjeniaiaiaaC4
namespace Go.Proofs.Ytkkjfjeniaiaiaa
open Go.Ev Go.Proofs Go.Rock
attribute [local irreducible] At AtH

abbrev Ax := Int × Int × Int
def xL (a : Ax) : List Value := [I a.1, I a.2.1, I a.2.2]
def axs (v : Vo) (r : Ra) : List Ax := [(r.x, r.dx, v.nx), (r.y, r.dy, v.ny), (r.z, r.dz, v.nz)]
def celX (v : Vo) (r : Ra) (a c : Int) (x : Ax) : Int := celA (tk r) v.sz x.1 x.2.1 x.2.2 a c
def crX (v : Vo) (r : Ra) (x : Ax) : List Int := crA (tk r) v.sz x.1 x.2.1 x.2.2.toNat
theorem crs_axs (v : Vo) (r : Ra) : (axs v r).flatMap (crX v r) = crs v r := by simp [axs, crX, crs]
theorem axs_get (v : Vo) (r : Ra) {j : Nat} (h : j < 3) : ∃ a, (axs v r)[j]? = some a ∧ ((aL v r).drop (j * 3)).take 3 = xL a := by
  match j, h with
  | 0, _ => exact ⟨_, rfl, rfl⟩
  | 1, _ => exact ⟨_, rfl, rfl⟩
  | 2, _ => exact ⟨_, rfl, rfl⟩
theorem axs_ok {v : Vo} {r : Ra} (hv : VoOk v) (hr : RaOk r) {a : Ax} (h : a ∈ axs v r) : (-100000 ≤ a.1 ∧ a.1 ≤ 100000) ∧ (-60 ≤ a.2.1 ∧ a.2.1 ≤ 60) ∧ (1 ≤ a.2.2 ∧ a.2.2 ≤ 12) ∧ (a.2.1 ≠ 0 → a.2.1 ∣ tk r) := by
  unfold VoOk at hv
  unfold RaOk at hr
  simp only [axs, List.mem_cons, List.not_mem_nil, or_false] at h
  rcases h with rfl | rfl | rfl
  · exact ⟨hr.1, hr.2.2.2.1, hv.1, fun h => tk_dx h⟩
  · exact ⟨hr.2.1, hr.2.2.2.2.1, hv.2.1, fun h => tk_dy h⟩
  · exact ⟨hr.2.2.1, hr.2.2.2.2.2.1, hv.2.2.1, fun h => tk_dz h⟩
theorem when_any (v : Vo) (r : Ra) (a : Ax) (pl : Int) (w : World) (hv : VoOk v) (hr : RaOk r) (ha : a ∈ axs v r) (h0 : a.2.1 ≠ 0) (hp : 0 ≤ pl) (hp' : pl ≤ 12000) :
    Ret Try.prog 90 [.agg (wL v r).toArray, .agg (xL a).toArray, .int .i64 pl] w fun x w' => x = .int .i64 ((pl - a.1) * (tk r / a.2.1)) ∧ Chg No w w' := by
  obtain ⟨h1, h2, h3, h4⟩ := axs_ok hv hr ha
  have t0 := tk_pos r
  have t1 := tk_le hr
  refine enter Try.func90 rfl Try.ntmps90 rfl ?_
  refine go T_ok 200 rfl ?_
  refine bx rfl rfl rfl (cs := wL v r) rfl ?_
  intro g1 u1 hg1 hs1 q1 B1
  refine go T_ok 200 rfl ?_
  refine bx rfl rfl rfl (cs := xL a) rfl ?_
  intro g2 u2 hg2 hs2 q2 B2
  have B1 := B1.no q2
  refine go T_ok 200 rfl ?_
  repeat (first | (refine ld T_ok rfl rfl rfl rfl (Bk.get B1 rfl) ?_; refine go T_ok 200 rfl ?_) | (refine ld T_ok rfl rfl rfl rfl (Bk.get B2 rfl) ?_; refine go T_ok 200 rfl ?_) | (refine guardA (b := true) rfl rfl rfl rfl (fun _ => ?_) (fun e => by cases e); refine go T_ok 200 rfl ?_) | (refine guardA (b := false) rfl rfl rfl rfl (fun e => by cases e) (fun _ => ?_); refine go T_ok 200 rfl ?_) | (refine condT rfl rfl ?_; refine go T_ok 200 rfl ?_) | (refine condF rfl rfl ?_; refine go T_ok 200 rfl ?_))
  have e1 : w64 (pl - a.1) = pl - a.1 := w64_id (by omega) (by omega)
  have n1 : ((pl - a.1) * tk r).natAbs ≤ 112000 * 216000 := by
    rw [Int.natAbs_mul]
    exact Nat.mul_le_mul (by omega) (by omega)
  have e2 : w64 ((pl - a.1) * tk r) = (pl - a.1) * tk r := w64_id (by omega) (by omega)
  rw [e1, e2]
  refine quo rfl rfl rfl rfl h0 ?_
  rw [tdiv_exact (h4 h0)]
  have n2 : ((pl - a.1) * (tk r / a.2.1)).natAbs ≤ 112000 * 216000 := by
    rw [Int.natAbs_mul]
    exact Nat.mul_le_mul (by omega) (by have := natAbs_ediv_le (d := a.2.1) t0; omega)
  have e3 : w64 ((pl - a.1) * (tk r / a.2.1)) = (pl - a.1) * (tk r / a.2.1) := w64_id (by omega) (by omega)
  rw [e3]
  refine go T_ok 200 rfl ?_
  exact ret (ret1 (v := .int .i64 _) Try.results90 rfl ⟨rfl, q1.trans q2⟩)

theorem celA_p {t sz b d m a c p : Int} (hp : 2 * b * t + d * (a + c) = p) (ht : 0 < t) (hs : 0 < sz) : (p < 0 → celA t sz b d m a c = -1) ∧ (0 ≤ p → m ≤ p / (2 * t * sz) → celA t sz b d m a c = -1) ∧ (0 ≤ p → p / (2 * t * sz) < m → celA t sz b d m a c = p / (2 * t * sz) ∧ 0 ≤ celA t sz b d m a c) := by
  have hp' : 2 * t * b + d * (a + c) = p := by
    rw [← hp, Int.mul_assoc 2 t b, Int.mul_comm t b, Int.mul_assoc 2 b t]
  unfold celA
  rw [hp']
  have h3 : 0 < 2 * t * sz := Int.mul_pos (by omega) hs
  have key : m ≤ p / (2 * t * sz) ↔ 2 * t * sz * m ≤ p := by
    rw [Int.le_ediv_iff_mul_le h3, Int.mul_comm m]
  refine ⟨fun h => if_pos (.inl h), fun _ h => if_pos (.inr (key.1 h)), fun h0 h => ?_⟩
  have hn : ¬ (p < 0 ∨ 2 * t * sz * m ≤ p) := by
    rintro (h5 | h5)
    · omega
    · have := key.2 h5; omega
  rw [if_neg hn]
  exact ⟨rfl, Int.ediv_nonneg h0 (by omega)⟩
theorem cel_neg {v : Vo} {r : Ra} {a c : Int} {x : Ax} (hx : x ∈ axs v r) (h : celX v r a c x = -1) : cel v r a c = -1 := by
  unfold cel
  rw [if_neg]
  rintro ⟨h1, h2, h3⟩
  simp only [axs, List.mem_cons, List.not_mem_nil, or_false] at hx
  rcases hx with rfl | rfl | rfl
  · unfold celX at h; simp only at h; omega
  · unfold celX at h; simp only at h; omega
  · unfold celX at h; simp only at h; omega
set_option maxHeartbeats 4000000 in
theorem cell_any (v : Vo) (r : Ra) (a c : Int) (w : World) (hv : VoOk v) (hr : RaOk r) (ha : 0 ≤ a) (ha' : a ≤ 24192000000) (hc : 0 ≤ c) (hc' : c ≤ 24192000000) :
    Ret Try.prog 88 [.agg (wL v r).toArray, .int .i64 a, .int .i64 c] w fun x w' => x = .int .i64 (cel v r a c) ∧ Chg No w w' := by
  have t0 := tk_pos r
  have t1 := tk_le hr
  have hsz : 1 ≤ v.sz ∧ v.sz ≤ 1000 := hv.2.2.2.2
  refine enter Try.func88 rfl Try.ntmps88 rfl ?_
  refine go T_ok 200 rfl ?_
  refine bx rfl rfl rfl (cs := wL v r) rfl ?_
  intro g1 u1 hg1 hs1 q1 B1
  refine go T_ok 200 rfl ?_
  refine nw rfl rfl (z := .agg #[I 0, I 0, I 0]) (by kernel_rfl) (cs := [I 0, I 0, I 0]) rfl ?_
  intro g2 u2 hg2 hs2 q2 B2
  have B1 := B1.no q2
  refine go T_ok 200 rfl ?_
  refine ldArr T_ok rfl rfl rfl rfl (cs := aL v r) rfl (B1.sub 4 (aL v r) rfl) ?_
  refine go T_ok 200 rfl ?_
  have q12 := q1.trans q2
  refine loop [1, 2, 3, 7, 12, 13] (fun j : Nat => [.int .i64 a, .int .i64 c, .pointer (some ⟨g1, 0, none⟩), .pointer (some ⟨g2, 0, none⟩), .agg (aL v r).toArray, .int .i64 (j : Int)])
    (fun j w' => j ≤ 3 ∧ Chg No w w' ∧ u2.heap.size ≤ w'.heap.size ∧ Bk w' g1 103 (wL v r) ∧ ∃ cs, Bk w' g2 130 cs ∧ cs.length = 3 ∧ ∀ i, i < j → ∀ x, (axs v r)[i]? = some x → 0 ≤ celX v r a c x ∧ cs[i]? = some (I (celX v r a c x))) (fun j => 3 - j) 0 (fun _ => rfl) rfl
    ⟨by omega, q12, Nat.le_refl _, B1, _, B2, rfl, fun i hi => by omega⟩ ?_
  rintro j τ w1 ⟨hj, q3, hsz1, B1, cs, B2, hcs, hI⟩
  refine go T_ok 200 rfl ?_
  refine condD rfl (fun hlt => ?_) (fun hlt => ?_)
  · have hlt : j < 3 := by omega
    obtain ⟨x, hx, hxv⟩ := axs_get v r hlt
    have hxm := List.mem_of_getElem? hx
    obtain ⟨h1, h2, h3, _⟩ := axs_ok hv hr hxm
    refine go T_ok 200 rfl ?_
    refine ixS T_ok rfl rfl rfl rfl rfl j rfl hlt hxv ?_
    refine go T_ok 200 rfl ?_
    refine nw rfl rfl (z := .agg #[I 0, I 0, I 0]) (by kernel_rfl) (cs := [I 0, I 0, I 0]) rfl ?_
    intro g4 u4 hg4 hs4 q4 B4
    refine go T_ok 200 rfl ?_
    refine stA T_ok rfl rfl rfl rfl (vs := xL x) rfl rfl rfl B4 rfl ?_
    intro u5 q5 B5 hs5
    have B5 : Bk u5 g4 100 (xL x) := B5
    have g1lt := B1.lt
    have g2lt := B2.lt
    have q45 : Chg No w1 u5 := q4.step q5 (fun k hk e => by omega)
    have B1 := B1.no q45
    have B2 := B2.no q45
    have q35 := q3.trans q45
    clear q4 q5 B4
    have n0 : (2 * x.1 * tk r).natAbs ≤ 200000 * 216000 := by
      rw [Int.natAbs_mul]
      exact Nat.mul_le_mul (by omega) (by omega)
    have n1 : (x.2.1 * (a + c)).natAbs ≤ 60 * 48384000000 := by
      rw [Int.natAbs_mul]
      exact Nat.mul_le_mul (by omega) (by omega)
    have m1 := mul_bd (a := 2 * tk r) (b := v.sz) (by omega) (by omega) (by omega : 2 * tk r ≤ 432000) hsz.2
    have e1 : w64 (2 * x.1) = 2 * x.1 := w64_id (by omega) (by omega)
    have e2 : w64 (2 * x.1 * tk r) = 2 * x.1 * tk r := w64_id (by omega) (by omega)
    have e3 : w64 (a + c) = a + c := w64_id (by omega) (by omega)
    have e4 : w64 (x.2.1 * (a + c)) = x.2.1 * (a + c) := w64_id (by omega) (by omega)
    have e5 : w64 (2 * x.1 * tk r + x.2.1 * (a + c)) = 2 * x.1 * tk r + x.2.1 * (a + c) := w64_id (by omega) (by omega)
    have e6 : w64 (2 * tk r) = 2 * tk r := w64_id (by omega) (by omega)
    have e7 : w64 (2 * tk r * v.sz) = 2 * tk r * v.sz := w64_id (by omega) (by omega)
    have e8 : w64 ((j : Int) + 1) = ((j + 1 : Nat) : Int) := w64_id (by omega) (by omega)
    have h00 : 0 < 2 * tk r * v.sz := Int.mul_pos (by omega) (by omega)
    obtain ⟨p, hp⟩ : ∃ p, 2 * x.1 * tk r + x.2.1 * (a + c) = p := ⟨_, rfl⟩
    have hcel := celA_p (m := x.2.2) hp t0 (by omega : 0 < v.sz)
    refine go T_ok 200 rfl ?_
    repeat (first | (refine ld T_ok rfl rfl rfl rfl (Bk.get B1 rfl) ?_; refine go T_ok 200 rfl ?_) | (refine ld T_ok rfl rfl rfl rfl (Bk.get B5 rfl) ?_; refine go T_ok 200 rfl ?_) | (refine guardA (b := true) rfl rfl rfl rfl (fun _ => ?_) (fun e => by cases e); refine go T_ok 200 rfl ?_) | (refine guardA (b := false) rfl rfl rfl rfl (fun e => by cases e) (fun _ => ?_); refine go T_ok 200 rfl ?_) | (refine condT rfl rfl ?_; refine go T_ok 200 rfl ?_) | (refine condF rfl rfl ?_; refine go T_ok 200 rfl ?_))
    rw [e1, e2, e3, e4, e5, hp]
    rw [hp] at e5
    refine condD rfl (fun hneg => ?_) (fun hneg => ?_)
    · refine go T_ok 200 rfl ?_
      exact ret (ret1 (v := .int .i64 (-1)) Try.results88 rfl ⟨congrArg I (cel_neg hxm (hcel.1 hneg)).symm, q35⟩)
    · have hneg : 0 ≤ p := by omega
      refine go T_ok 200 rfl ?_
      repeat (first | (refine ld T_ok rfl rfl rfl rfl (Bk.get B1 rfl) ?_; refine go T_ok 200 rfl ?_) | (refine guardA (b := true) rfl rfl rfl rfl (fun _ => ?_) (fun e => by cases e); refine go T_ok 200 rfl ?_) | (refine guardA (b := false) rfl rfl rfl rfl (fun e => by cases e) (fun _ => ?_); refine go T_ok 200 rfl ?_) | (refine condT rfl rfl ?_; refine go T_ok 200 rfl ?_) | (refine condF rfl rfl ?_; refine go T_ok 200 rfl ?_))
      rw [e6, e7]
      refine quoN rfl rfl rfl rfl hneg (by omega) h00 ?_
      refine go T_ok 200 rfl ?_
      refine idxA T_ok rfl rfl rfl rfl rfl j rfl hlt ?_
      refine go T_ok 200 rfl ?_
      rw [show 0 + j * 1 = j by omega]
      refine st T_ok rfl rfl rfl rfl (v := .int .i64 (p / (2 * tk r * v.sz))) rfl rfl B2 (Nat.blt_eq.mpr (by rw [lenL_eq]; omega)) ?_
      intro u6 q6 B6 hs6
      have hne1 : ¬ g1 = g2 := by omega
      have hne5 : ¬ g4 = g2 := by omega
      have B1 := B1.keep q6 hne1
      have B5 := B5.keep q6 hne5
      have q36 : Chg No w u6 := q35.step q6 (fun k hk e => by have := q1.size; omega)
      refine go T_ok 200 rfl ?_
      refine draw mixed (fun w' => Chg No u6 w') ([0,1,2,3,4,5].map (fun i => (i, true))) rfl (by kernel_rfl) (Chg.drew _) ?_
      refine goH T_ok 200 rfl ?_
      refine quietH rfl (fun w' hS => r_idxA T_ok rfl rfl rfl rfl j rfl hlt) ?_
      refine goH T_ok 200 rfl ?_
      refine quietH rfl (fun w' hS => r_load T_ok rfl rfl rfl ((B6.no hS).getE (v := .int .i64 (p / (2 * tk r * v.sz))) (by rw [show 0 + j * 1 = j by omega]; simp [hcs, hlt]))) ?_
      refine goH T_ok 200 rfl ?_
      refine goH T_ok 200 rfl ?_
      repeat (first | (refine quietH rfl (fun w' hS => r_load T_ok rfl rfl rfl (Bk.get (B5.no hS) rfl)) ?_; refine goH T_ok 200 rfl ?_))
      refine endH ?_
      refine go T_ok 200 rfl ?_
      refine condD rfl (fun hge => ?_) (fun hge => ?_)
      · refine go T_ok 200 rfl ?_
        exact ret (ret1 (v := .int .i64 (-1)) Try.results88 rfl ⟨congrArg I (cel_neg hxm (hcel.2.1 hneg hge)).symm, q36.trans (Chg.drew _)⟩)
      · obtain ⟨hc1, hc2⟩ := hcel.2.2 hneg (by omega)
        refine go T_ok 200 rfl ?_
        rw [e8]
        refine round ⟨j + 1, rfl, ⟨by omega, q36.trans (Chg.drew _), by have := q45.size; show _ ≤ u6.drew.heap.size; show _ ≤ u6.heap.size; omega, B1.no (Chg.drew _), _, B6.no (Chg.drew _), by simpa using hcs, fun i hi y hy => ?_⟩, by omega⟩
        rcases Nat.lt_or_ge i j with h5 | h5
        · obtain ⟨h6, h7⟩ := hI i h5 y hy
          exact ⟨h6, by rw [List.getElem?_set_ne (by omega)]; exact h7⟩
        · have : i = j := by omega
          subst this
          rw [hx] at hy
          cases hy
          refine ⟨hc2, ?_⟩
          rw [List.getElem?_set_self (by omega)]
          exact congrArg (fun z => some (I z)) hc1.symm
  · have hj3 : j = 3 := by omega
    subst hj3
    obtain ⟨x0, y0⟩ := hI 0 (by omega) _ rfl
    obtain ⟨x1, y1⟩ := hI 1 (by omega) _ rfl
    obtain ⟨x2, y2⟩ := hI 2 (by omega) _ rfl
    have hcel : cel v r a c = (celX v r a c (r.z, r.dz, v.nz) * v.ny + celX v r a c (r.y, r.dy, v.ny)) * v.nx + celX v r a c (r.x, r.dx, v.nx) := by
      unfold cel
      rw [if_pos ⟨x0, x1, x2⟩]
      rfl
    have b0 := celA_bd t0 (by omega) x0
    have b1 := celA_bd t0 (by omega) x1
    have b2 := celA_bd t0 (by omega) x2
    have hv' := hv
    unfold VoOk at hv'
    have f0 : celX v r a c (r.x, r.dx, v.nx) < v.nx := b0
    have f1 : celX v r a c (r.y, r.dy, v.ny) < v.ny := b1
    have f2 : celX v r a c (r.z, r.dz, v.nz) < v.nz := b2
    have m1 := mul_bd (a := celX v r a c (r.z, r.dz, v.nz)) (b := v.ny) (A := 12) (B := 12) x2 (by omega) (by omega) (by omega)
    have m2 := mul_bd (a := celX v r a c (r.z, r.dz, v.nz) * v.ny + celX v r a c (r.y, r.dy, v.ny)) (b := v.nx) (A := 156) (B := 12) (by omega) (by omega) (by omega) (by omega)
    have e1 : w64 (celX v r a c (r.z, r.dz, v.nz) * v.ny) = celX v r a c (r.z, r.dz, v.nz) * v.ny := w64_id (by omega) (by omega)
    have e2 : w64 (celX v r a c (r.z, r.dz, v.nz) * v.ny + celX v r a c (r.y, r.dy, v.ny)) = celX v r a c (r.z, r.dz, v.nz) * v.ny + celX v r a c (r.y, r.dy, v.ny) := w64_id (by omega) (by omega)
    have e3 : w64 ((celX v r a c (r.z, r.dz, v.nz) * v.ny + celX v r a c (r.y, r.dy, v.ny)) * v.nx) = (celX v r a c (r.z, r.dz, v.nz) * v.ny + celX v r a c (r.y, r.dy, v.ny)) * v.nx := w64_id (by omega) (by omega)
    have e4 : w64 ((celX v r a c (r.z, r.dz, v.nz) * v.ny + celX v r a c (r.y, r.dy, v.ny)) * v.nx + celX v r a c (r.x, r.dx, v.nx)) = (celX v r a c (r.z, r.dz, v.nz) * v.ny + celX v r a c (r.y, r.dy, v.ny)) * v.nx + celX v r a c (r.x, r.dx, v.nx) := w64_id (by omega) (by omega)
    refine go T_ok 200 rfl ?_
    refine idxA T_ok rfl rfl rfl rfl rfl 2 rfl (by omega) ?_
    refine go T_ok 200 rfl ?_
    refine ld T_ok rfl rfl rfl rfl (B2.getE y2) ?_
    refine go T_ok 200 rfl ?_
    refine go T_ok 200 rfl ?_
    repeat (first | (refine ld T_ok rfl rfl rfl rfl (Bk.get B1 rfl) ?_; refine go T_ok 200 rfl ?_) | (refine guardA (b := true) rfl rfl rfl rfl (fun _ => ?_) (fun e => by cases e); refine go T_ok 200 rfl ?_) | (refine guardA (b := false) rfl rfl rfl rfl (fun e => by cases e) (fun _ => ?_); refine go T_ok 200 rfl ?_) | (refine condT rfl rfl ?_; refine go T_ok 200 rfl ?_) | (refine condF rfl rfl ?_; refine go T_ok 200 rfl ?_))
    rw [e1]
    refine idxA T_ok rfl rfl rfl rfl rfl 1 rfl (by omega) ?_
    refine go T_ok 200 rfl ?_
    refine ld T_ok rfl rfl rfl rfl (B2.getE y1) ?_
    refine go T_ok 200 rfl ?_
    rw [e2]
    refine go T_ok 200 rfl ?_
    repeat (first | (refine ld T_ok rfl rfl rfl rfl (Bk.get B1 rfl) ?_; refine go T_ok 200 rfl ?_) | (refine guardA (b := true) rfl rfl rfl rfl (fun _ => ?_) (fun e => by cases e); refine go T_ok 200 rfl ?_) | (refine guardA (b := false) rfl rfl rfl rfl (fun e => by cases e) (fun _ => ?_); refine go T_ok 200 rfl ?_) | (refine condT rfl rfl ?_; refine go T_ok 200 rfl ?_) | (refine condF rfl rfl ?_; refine go T_ok 200 rfl ?_))
    rw [e3]
    refine idxA T_ok rfl rfl rfl rfl rfl 0 rfl (by omega) ?_
    refine go T_ok 200 rfl ?_
    refine ld T_ok rfl rfl rfl rfl (B2.getE y0) ?_
    refine go T_ok 200 rfl ?_
    rw [e4]
    refine go T_ok 200 rfl ?_
    exact ret (ret1 (v := .int .i64 _) Try.results88 rfl ⟨congrArg I hcel.symm, q3⟩)
end Go.Proofs.Ytkkjfjeniaiaiaa
