/- The walk of RockClears. -/
import Derived.Test.YtkkjfjeniaiaiaaL3
import Derived.Test.YtkkjfjeniaiaiaaS4
namespace Go.Proofs.Ytkkjfjeniaiaiaa
open Go.Ev Go.Proofs Go.Rock
attribute [local irreducible] At AtH
def lowL (g k : List Int) : List Int := List.zipWith (fun a b => a * b / 100) g k
theorem lowL_get {g k : List Int} {j : Nat} {a b : Int} (ha : g[j]? = some a) (hb : k[j]? = some b) : (lowL g k)[j]? = some (a * b / 100) := by
  unfold lowL
  rw [List.getElem?_zipWith, ha, hb]
theorem low1 {a b : Int} (ha : 0 ≤ a) (hb : 0 ≤ b) (hb' : b ≤ 100) : 0 ≤ a * b / 100 ∧ a * b / 100 ≤ a := by
  have h1 := Int.mul_nonneg ha hb
  have h2 := Int.mul_le_mul_of_nonneg_left hb' ha
  omega
theorem lowL_ok {v : Vo} {g k : List Int} (hg : GrOk v g) (hl : k.length = g.length) (hk : ∀ b ∈ k, 0 ≤ b ∧ b ≤ 100) : GrOk v (lowL g k) ∧ GLe (lowL g k) g := by
  have hlen : (lowL g k).length = g.length := by unfold lowL; rw [List.length_zipWith]; omega
  refine ⟨⟨fun h hh => ?_, by rw [hlen]; exact hg.2⟩, fun i => ?_⟩
  · obtain ⟨j, hj, rfl⟩ := List.getElem_of_mem hh
    have hj : j < g.length := by omega
    have ha := List.getElem?_eq_getElem hj
    have hb := List.getElem?_eq_getElem (by omega : j < k.length)
    have hc := lowL_get ha hb
    rw [List.getElem?_eq_getElem (by omega)] at hc
    rw [Option.some.inj hc]
    have h1 := hg.1 _ (List.getElem_mem hj)
    have h2 := hk _ (List.getElem_mem (by omega : j < k.length))
    have := low1 h1.1 h2.1 h2.2
    omega
  · rw [List.getD_eq_getElem?_getD, List.getD_eq_getElem?_getD]
    by_cases hj : i < g.length
    · have ha := List.getElem?_eq_getElem hj
      have hb := List.getElem?_eq_getElem (by omega : i < k.length)
      rw [lowL_get ha hb, ha]
      have h1 := hg.1 _ (List.getElem_mem hj)
      have h2 := hk _ (List.getElem_mem (by omega : i < k.length))
      exact (low1 h1.1 h2.1 h2.2).2
    · rw [List.getElem?_eq_none (by omega), List.getElem?_eq_none (by omega)]
      exact Int.le_refl _
theorem clr_len {v : Vo} {r : Ra} {g : List Int} {d : Int} : (clr v r g d = true → (chs (cutS (und v (rz r d) g) (pcs v (rz r d)))).length = 0) ∧ (clr v r g d = false → 0 < (chs (cutS (und v (rz r d) g) (pcs v (rz r d)))).length) := by
  unfold clr
  rw [chs_len]
  generalize cutS (und v (rz r d) g) (pcs v (rz r d)) = L
  cases L <;> simp
set_option maxRecDepth 20000 in
set_option maxHeartbeats 8000000 in
theorem walk_RockClears (v : Vo) (g : Sli Int) (r : Ra) (stp : Int) (kp : Sli Int) (w0 : World) (_hv : VoI v) (hg : InI w0 g) (_hr : RaI r) (_hst : I64 stp) (hkp : InI w0 kp) :
    Ret Try.prog 6 [.agg (vL v).toArray, .slice g.A g.l.length g.c, .agg (rL r).toArray, .int .i64 stp, .slice kp.A kp.l.length kp.c] w0 fun x w' => x = .bool true ∧ Chg No w0 w' := by
  refine enter Try.func6 rfl Try.ntmps6 rfl ?_
  refine go T_ok 200 rfl ?_
  refine bx rfl rfl rfl (cs := vL v) rfl ?_
  intro g1 u1 hg1 hs1 q1 B1
  refine go T_ok 200 rfl ?_
  refine bx rfl rfl rfl (cs := rL r) rfl ?_
  intro g2 u2 hg2 hs2 q2 B2
  have hg12 : g1 < g2 := by have := B1.lt; omega
  have B1 := B1.no q2
  have q := q1.trans q2
  have Sg := hg.sl.no q
  have Sk := hkp.sl.no q
  refine go T_ok 200 rfl ?_
  repeat (first | (refine ldA T_ok rfl rfl rfl rfl rfl (Bk.all B1) ?_; refine go T_ok 200 rfl ?_) | (refine ldA T_ok rfl rfl rfl rfl rfl (Bk.all B2) ?_; refine go T_ok 200 rfl ?_) | (refine ld T_ok rfl rfl rfl rfl (Bk.get B1 rfl) ?_; refine go T_ok 200 rfl ?_) | (refine ld T_ok rfl rfl rfl rfl (Bk.get B2 rfl) ?_; refine go T_ok 200 rfl ?_) | (refine guardA (b := true) rfl rfl rfl rfl (fun _ => ?_) (fun e => by cases e); refine go T_ok 200 rfl ?_) | (refine guardA (b := false) rfl rfl rfl rfl (fun e => by cases e) (fun _ => ?_); refine go T_ok 200 rfl ?_) | (refine condT rfl rfl ?_; refine go T_ok 200 rfl ?_) | (refine condF rfl rfl ?_; refine go T_ok 200 rfl ?_))
  refine call rfl rfl rfl (ok _ (by decide) rfl) (rVolume_any v _) ?_
  rintro x w ⟨rfl, qk⟩
  have B1 := B1.no qk
  have B2 := B2.no qk
  have Sg := Sg.no qk
  have Sk := Sk.no qk
  have q := q.trans qk
  by_cases hv : VoOk v
  case neg =>
    rw [decide_eq_false hv]
    refine go T_ok 200 rfl ?_
    repeat (first | (refine guardA (b := true) rfl rfl rfl rfl (fun _ => ?_) (fun e => by cases e); refine go T_ok 200 rfl ?_) | (refine guardA (b := false) rfl rfl rfl rfl (fun e => by cases e) (fun _ => ?_); refine go T_ok 200 rfl ?_) | (refine condT rfl rfl ?_; refine go T_ok 200 rfl ?_) | (refine condF rfl rfl ?_; refine go T_ok 200 rfl ?_))
    refine call rfl rfl rfl (ok _ (by decide) rfl) (known_any _) ?_
    rintro v wk ⟨rfl, qk⟩
    refine go T_ok 200 rfl ?_
    exact ret (ret1 (v := .bool true) Try.results6 rfl ⟨rfl, q.trans qk⟩)
  rw [decide_eq_true hv]
  refine go T_ok 200 rfl ?_
  repeat (first | (refine ldA T_ok rfl rfl rfl rfl rfl (Bk.all B1) ?_; refine go T_ok 200 rfl ?_) | (refine ldA T_ok rfl rfl rfl rfl rfl (Bk.all B2) ?_; refine go T_ok 200 rfl ?_) | (refine ld T_ok rfl rfl rfl rfl (Bk.get B1 rfl) ?_; refine go T_ok 200 rfl ?_) | (refine ld T_ok rfl rfl rfl rfl (Bk.get B2 rfl) ?_; refine go T_ok 200 rfl ?_) | (refine guardA (b := true) rfl rfl rfl rfl (fun _ => ?_) (fun e => by cases e); refine go T_ok 200 rfl ?_) | (refine guardA (b := false) rfl rfl rfl rfl (fun e => by cases e) (fun _ => ?_); refine go T_ok 200 rfl ?_) | (refine condT rfl rfl ?_; refine go T_ok 200 rfl ?_) | (refine condF rfl rfl ?_; refine go T_ok 200 rfl ?_))
  refine call rfl rfl rfl (ok _ (by decide) rfl) (rRay_any r _) ?_
  rintro x w ⟨rfl, qk⟩
  have B1 := B1.no qk
  have B2 := B2.no qk
  have Sg := Sg.no qk
  have Sk := Sk.no qk
  have q := q.trans qk
  by_cases hr : RaOk r
  case neg =>
    rw [decide_eq_false hr]
    refine go T_ok 200 rfl ?_
    repeat (first | (refine guardA (b := true) rfl rfl rfl rfl (fun _ => ?_) (fun e => by cases e); refine go T_ok 200 rfl ?_) | (refine guardA (b := false) rfl rfl rfl rfl (fun e => by cases e) (fun _ => ?_); refine go T_ok 200 rfl ?_) | (refine condT rfl rfl ?_; refine go T_ok 200 rfl ?_) | (refine condF rfl rfl ?_; refine go T_ok 200 rfl ?_))
    refine call rfl rfl rfl (ok _ (by decide) rfl) (known_any _) ?_
    rintro v wk ⟨rfl, qk⟩
    refine go T_ok 200 rfl ?_
    exact ret (ret1 (v := .bool true) Try.results6 rfl ⟨rfl, q.trans qk⟩)
  rw [decide_eq_true hr]
  refine go T_ok 200 rfl ?_
  repeat (first | (refine ldA T_ok rfl rfl rfl rfl rfl (Bk.all B1) ?_; refine go T_ok 200 rfl ?_) | (refine ldA T_ok rfl rfl rfl rfl rfl (Bk.all B2) ?_; refine go T_ok 200 rfl ?_) | (refine ld T_ok rfl rfl rfl rfl (Bk.get B1 rfl) ?_; refine go T_ok 200 rfl ?_) | (refine ld T_ok rfl rfl rfl rfl (Bk.get B2 rfl) ?_; refine go T_ok 200 rfl ?_) | (refine guardA (b := true) rfl rfl rfl rfl (fun _ => ?_) (fun e => by cases e); refine go T_ok 200 rfl ?_) | (refine guardA (b := false) rfl rfl rfl rfl (fun e => by cases e) (fun _ => ?_); refine go T_ok 200 rfl ?_) | (refine condT rfl rfl ?_; refine go T_ok 200 rfl ?_) | (refine condF rfl rfl ?_; refine go T_ok 200 rfl ?_))
  refine call rfl rfl rfl (ok _ (by decide) rfl) (rGround_any v g.l g.A g.c _ _ hv hg.ml Sg) ?_
  rintro x w ⟨rfl, qk⟩
  have B1 := B1.no qk
  have B2 := B2.no qk
  have Sg := Sg.no qk
  have Sk := Sk.no qk
  have q := q.trans qk
  by_cases hgr : GrOk v g.l
  case neg =>
    rw [decide_eq_false hgr]
    refine go T_ok 200 rfl ?_
    repeat (first | (refine guardA (b := true) rfl rfl rfl rfl (fun _ => ?_) (fun e => by cases e); refine go T_ok 200 rfl ?_) | (refine guardA (b := false) rfl rfl rfl rfl (fun e => by cases e) (fun _ => ?_); refine go T_ok 200 rfl ?_) | (refine condT rfl rfl ?_; refine go T_ok 200 rfl ?_) | (refine condF rfl rfl ?_; refine go T_ok 200 rfl ?_))
    refine call rfl rfl rfl (ok _ (by decide) rfl) (known_any _) ?_
    rintro v wk ⟨rfl, qk⟩
    refine go T_ok 200 rfl ?_
    exact ret (ret1 (v := .bool true) Try.results6 rfl ⟨rfl, q.trans qk⟩)
  rw [decide_eq_true hgr]
  have hxy0 := vo_xy hv
  have hgl := hgr.2
  refine go T_ok 200 rfl ?_
  repeat (first | (refine ldA T_ok rfl rfl rfl rfl rfl (Bk.all B1) ?_; refine go T_ok 200 rfl ?_) | (refine ldA T_ok rfl rfl rfl rfl rfl (Bk.all B2) ?_; refine go T_ok 200 rfl ?_) | (refine ld T_ok rfl rfl rfl rfl (Bk.get B1 rfl) ?_; refine go T_ok 200 rfl ?_) | (refine ld T_ok rfl rfl rfl rfl (Bk.get B2 rfl) ?_; refine go T_ok 200 rfl ?_) | (refine guardA (b := true) rfl rfl rfl rfl (fun _ => ?_) (fun e => by cases e); refine go T_ok 200 rfl ?_) | (refine guardA (b := false) rfl rfl rfl rfl (fun e => by cases e) (fun _ => ?_); refine go T_ok 200 rfl ?_) | (refine condT rfl rfl ?_; refine go T_ok 200 rfl ?_) | (refine condF rfl rfl ?_; refine go T_ok 200 rfl ?_))
  refine guard rfl rfl rfl (fun hx => ?_) (fun hx => ?_)
  · have hx : r.dx = 0 := by simpa using hx
    refine go T_ok 200 rfl ?_
    repeat (first | (refine ldA T_ok rfl rfl rfl rfl rfl (Bk.all B1) ?_; refine go T_ok 200 rfl ?_) | (refine ldA T_ok rfl rfl rfl rfl rfl (Bk.all B2) ?_; refine go T_ok 200 rfl ?_) | (refine ld T_ok rfl rfl rfl rfl (Bk.get B1 rfl) ?_; refine go T_ok 200 rfl ?_) | (refine ld T_ok rfl rfl rfl rfl (Bk.get B2 rfl) ?_; refine go T_ok 200 rfl ?_) | (refine guardA (b := true) rfl rfl rfl rfl (fun _ => ?_) (fun e => by cases e); refine go T_ok 200 rfl ?_) | (refine guardA (b := false) rfl rfl rfl rfl (fun e => by cases e) (fun _ => ?_); refine go T_ok 200 rfl ?_) | (refine condT rfl rfl ?_; refine go T_ok 200 rfl ?_) | (refine condF rfl rfl ?_; refine go T_ok 200 rfl ?_))
    refine guard rfl rfl rfl (fun hy => ?_) (fun hy => ?_)
    · skip
      refine go T_ok 200 rfl ?_
      repeat (first | (refine guardA (b := true) rfl rfl rfl rfl (fun _ => ?_) (fun e => by cases e); refine go T_ok 200 rfl ?_) | (refine guardA (b := false) rfl rfl rfl rfl (fun e => by cases e) (fun _ => ?_); refine go T_ok 200 rfl ?_) | (refine condT rfl rfl ?_; refine go T_ok 200 rfl ?_) | (refine condF rfl rfl ?_; refine go T_ok 200 rfl ?_))
      refine call rfl rfl rfl (ok _ (by decide) rfl) (known_any _) ?_
      rintro v wk ⟨rfl, qk⟩
      refine go T_ok 200 rfl ?_
      exact ret (ret1 (v := .bool true) Try.results6 rfl ⟨rfl, q.trans qk⟩)
    · have hxy : r.dx ≠ 0 ∨ r.dy ≠ 0 := .inr (by simpa using hy)
      refine go T_ok 200 rfl ?_
      repeat (first | (refine ldA T_ok rfl rfl rfl rfl rfl (Bk.all B1) ?_; refine go T_ok 200 rfl ?_) | (refine ldA T_ok rfl rfl rfl rfl rfl (Bk.all B2) ?_; refine go T_ok 200 rfl ?_) | (refine ld T_ok rfl rfl rfl rfl (Bk.get B1 rfl) ?_; refine go T_ok 200 rfl ?_) | (refine ld T_ok rfl rfl rfl rfl (Bk.get B2 rfl) ?_; refine go T_ok 200 rfl ?_) | (refine guardA (b := true) rfl rfl rfl rfl (fun _ => ?_) (fun e => by cases e); refine go T_ok 200 rfl ?_) | (refine guardA (b := false) rfl rfl rfl rfl (fun e => by cases e) (fun _ => ?_); refine go T_ok 200 rfl ?_) | (refine condT rfl rfl ?_; refine go T_ok 200 rfl ?_) | (refine condF rfl rfl ?_; refine go T_ok 200 rfl ?_))
      refine guardD rfl rfl rfl (fun h1 => ?_) (fun h1 => ?_)
      · skip
        refine go T_ok 200 rfl ?_
        repeat (first | (refine guardA (b := true) rfl rfl rfl rfl (fun _ => ?_) (fun e => by cases e); refine go T_ok 200 rfl ?_) | (refine guardA (b := false) rfl rfl rfl rfl (fun e => by cases e) (fun _ => ?_); refine go T_ok 200 rfl ?_) | (refine condT rfl rfl ?_; refine go T_ok 200 rfl ?_) | (refine condF rfl rfl ?_; refine go T_ok 200 rfl ?_))
        refine call rfl rfl rfl (ok _ (by decide) rfl) (known_any _) ?_
        rintro v wk ⟨rfl, qk⟩
        refine go T_ok 200 rfl ?_
        exact ret (ret1 (v := .bool true) Try.results6 rfl ⟨rfl, q.trans qk⟩)
      refine go T_ok 200 rfl ?_
      repeat (first | (refine ldA T_ok rfl rfl rfl rfl rfl (Bk.all B1) ?_; refine go T_ok 200 rfl ?_) | (refine ldA T_ok rfl rfl rfl rfl rfl (Bk.all B2) ?_; refine go T_ok 200 rfl ?_) | (refine ld T_ok rfl rfl rfl rfl (Bk.get B1 rfl) ?_; refine go T_ok 200 rfl ?_) | (refine ld T_ok rfl rfl rfl rfl (Bk.get B2 rfl) ?_; refine go T_ok 200 rfl ?_) | (refine guardA (b := true) rfl rfl rfl rfl (fun _ => ?_) (fun e => by cases e); refine go T_ok 200 rfl ?_) | (refine guardA (b := false) rfl rfl rfl rfl (fun e => by cases e) (fun _ => ?_); refine go T_ok 200 rfl ?_) | (refine condT rfl rfl ?_; refine go T_ok 200 rfl ?_) | (refine condF rfl rfl ?_; refine go T_ok 200 rfl ?_))
      refine guardD rfl rfl rfl (fun h2 => ?_) (fun h2 => ?_)
      · skip
        refine go T_ok 200 rfl ?_
        repeat (first | (refine guardA (b := true) rfl rfl rfl rfl (fun _ => ?_) (fun e => by cases e); refine go T_ok 200 rfl ?_) | (refine guardA (b := false) rfl rfl rfl rfl (fun e => by cases e) (fun _ => ?_); refine go T_ok 200 rfl ?_) | (refine condT rfl rfl ?_; refine go T_ok 200 rfl ?_) | (refine condF rfl rfl ?_; refine go T_ok 200 rfl ?_))
        refine call rfl rfl rfl (ok _ (by decide) rfl) (known_any _) ?_
        rintro v wk ⟨rfl, qk⟩
        refine go T_ok 200 rfl ?_
        exact ret (ret1 (v := .bool true) Try.results6 rfl ⟨rfl, q.trans qk⟩)
      refine go T_ok 200 rfl ?_
      refine cond rfl (fun h3 => ?_) (fun h3 => ?_)
      · refine go T_ok 200 rfl ?_
        refine call rfl rfl rfl (ok _ (by decide) rfl) (known_any _) ?_
        rintro v wk ⟨rfl, qk⟩
        refine go T_ok 200 rfl ?_
        exact ret (ret1 (v := .bool true) Try.results6 rfl ⟨rfl, q.trans qk⟩)
      have h3 : kp.l.length = g.l.length := by
        have h3 : (kp.l.length : Int) = (g.l.length : Int) := by simpa using h3
        omega
      refine go T_ok 200 rfl ?_
      refine loop [1, 3, 4, 5, 7, 11, 12] (fun p : Nat × Value => [.slice g.A g.l.length g.c, .int .i64 stp, .slice kp.A kp.l.length kp.c, .pointer (some ⟨g1, 0, none⟩), .pointer (some ⟨g2, 0, none⟩), p.2, .int .i64 (p.1 : Int)])
        (fun p w' => p.1 ≤ kp.l.length ∧ Chg No w0 w' ∧ Bk w' g1 23 (vL v) ∧ Bk w' g2 26 (rL r) ∧ w'.ownsRow (g2 + 1) 3 1 p.2 p.1 (iL ((lowL g.l kp.l).take p.1)) ∧ ∀ b ∈ kp.l.take p.1, 0 ≤ b ∧ b ≤ 100) (fun p => kp.l.length - p.1) (0, .slice none 0 0) (fun _ => rfl) rfl ⟨by show 0 ≤ _; omega, q, B1, B2, own_nil, fun a h => by simp at h⟩ ?_
      rintro ⟨j, out⟩ τ w ⟨hj, q, B1, B2, o2, hI⟩
      simp only at hj o2 hI
      obtain ⟨Ao, co, rfl⟩ := own_form o2
      have Sg := hg.sl.no q
      have Sk := hkp.sl.no q
      refine go T_ok 200 rfl ?_
      refine condD rfl (fun hlt => ?_) (fun hlt => ?_)
      · have hlt : j < kp.l.length := by omega
        obtain ⟨a, ha⟩ : ∃ a, g.l[j]? = some a := ⟨_, List.getElem?_eq_getElem (by omega)⟩
        obtain ⟨b, hb⟩ : ∃ a, kp.l[j]? = some a := ⟨_, List.getElem?_eq_getElem hlt⟩
        obtain ⟨bk, ok_, hAk, hbk, hck0⟩ := hkp.sl.elI hb
        obtain ⟨bg, og, hAg, hbg, hcg0⟩ := hg.sl.elI ha
        have hck := (q.cell (a := ⟨bk, ok_ + j * 1, none⟩) hbk (fun h => h)).trans hck0
        have ha0 := hgr.1 a (List.mem_of_getElem? ha)
        have hzs := vo_zs hv
        have e3 : w64 ((j : Int) + 1) = ((j + 1 : Nat) : Int) := w64_id (by omega) (by omega)
        rw [hAk, hAg]
        refine go T_ok 200 rfl ?_
        refine idx T_ok rfl rfl rfl rfl rfl j rfl hlt ?_
        refine go T_ok 200 rfl ?_
        refine ld T_ok rfl rfl rfl rfl (hck) ?_
        refine go T_ok 200 rfl ?_
        refine guardD rfl rfl rfl (fun h4 => ?_) (fun h4 => ?_)
        · skip
          refine go T_ok 200 rfl ?_
          repeat (first | (refine guardA (b := true) rfl rfl rfl rfl (fun _ => ?_) (fun e => by cases e); refine go T_ok 200 rfl ?_) | (refine guardA (b := false) rfl rfl rfl rfl (fun e => by cases e) (fun _ => ?_); refine go T_ok 200 rfl ?_) | (refine condT rfl rfl ?_; refine go T_ok 200 rfl ?_) | (refine condF rfl rfl ?_; refine go T_ok 200 rfl ?_))
          refine call rfl rfl rfl (ok _ (by decide) rfl) (known_any _) ?_
          rintro v wk ⟨rfl, qk⟩
          refine go T_ok 200 rfl ?_
          exact ret (ret1 (v := .bool true) Try.results6 rfl ⟨rfl, q.trans qk⟩)
        refine go T_ok 200 rfl ?_
        refine idx T_ok rfl rfl rfl rfl rfl j rfl hlt ?_
        refine go T_ok 200 rfl ?_
        refine ld T_ok rfl rfl rfl rfl (hck) ?_
        refine go T_ok 200 rfl ?_
        refine condD rfl (fun h5 => ?_) (fun h5 => ?_)
        · refine go T_ok 200 rfl ?_
          refine call rfl rfl rfl (ok _ (by decide) rfl) (known_any _) ?_
          rintro v wk ⟨rfl, qk⟩
          refine go T_ok 200 rfl ?_
          exact ret (ret1 (v := .bool true) Try.results6 rfl ⟨rfl, q.trans qk⟩)
        have hb0 : 0 ≤ b ∧ b ≤ 100 := by omega
        have m1 := Int.mul_nonneg ha0.1 hb0.1
        have m2 := Int.mul_le_mul_of_nonneg_left hb0.2 ha0.1
        have e4 : w64 (a * b) = a * b := w64_id (by omega) (by omega)
        have hget := lowL_get ha hb
        have kk : ∀ w', Chg No w0 w' → w'.cell? ⟨bk, ok_ + j * 1, none⟩ = some (I b) := fun w' hS => (hS.cell (a := ⟨bk, ok_ + j * 1, none⟩) hbk (fun h => h)).trans hck0
        have kg : ∀ w', Chg No w0 w' → w'.cell? ⟨bg, og + j * 1, none⟩ = some (I a) := fun w' hS => (hS.cell (a := ⟨bg, og + j * 1, none⟩) hbg (fun h => h)).trans hcg0
        refine go T_ok 200 rfl ?_
        refine draw mixed (fun w' => Chg No w0 w') ([0,1,2,3,4,5,6,7,8,9,10].map (fun i => (i, true)) ++ [(11, false)] ++ [(12, false)] ++ [13].map (fun i => (i, true))) rfl (by kernel_rfl) (q.trans (Chg.drew _)) ?_
        refine goH T_ok 200 rfl ?_
        refine quietH rfl (fun w' hS => r_idx T_ok rfl rfl rfl rfl j rfl (by omega)) ?_
        refine goH T_ok 200 rfl ?_
        refine quietH rfl (fun w' hS => r_load T_ok rfl rfl rfl (kg w' hS)) ?_
        refine goH T_ok 200 rfl ?_
        refine quietH rfl (fun w' hS => r_idx T_ok rfl rfl rfl rfl j rfl hlt) ?_
        refine goH T_ok 200 rfl ?_
        refine quietH rfl (fun w' hS => r_load T_ok rfl rfl rfl (kk w' hS)) ?_
        refine goH T_ok 200 rfl ?_
        rw [e4]
        refine quietH rfl (fun w' hS => r_quoN rfl rfl rfl m1 (by omega) (by omega)) ?_
        refine goH T_ok 200 rfl ?_
        have o3 := own_no o2 (Chg.drew w)
        have yB := B2.lt
        have yB1 := B1.lt
        have yg : g1 < g2 := hg12
        have ysz := (Chg.drew w).size
        refine rowE T_ok rfl rfl rfl rfl rfl rfl (cs := [I (a * b / 100)]) rfl ?_
        intro g8 w8 hg8 hs8 p8 B8
        have q8 := (q.trans (Chg.drew _)).trans p8
        refine ⟨q8, ?_⟩
        have o4 := own_no o3 p8
        refine goH T_ok 200 rfl ?_
        refine appSE T_ok rfl rfl rfl rfl rfl o4 (B8.sl (sz := 1) (m := 1) rfl) rfl (by have := hkp.ml; unfold maxLen at *; omega) (by omega) (by omega) ?_
        intro A9 c9 w9 o9 p9 _
        have q9 := q8.step p9 (fun k hk e => by have := own_ge o4 e; have := q.size; omega)
        refine ⟨q9, ?_⟩
        refine goH T_ok 200 rfl ?_
        refine endH ?_
        refine go T_ok 200 rfl ?_
        rw [e3]
        have hfl : iL ((lowL g.l kp.l).take j) ++ [I (a * b / 100)] = iL ((lowL g.l kp.l).take (j + 1)) := by rw [take_snoc hget]; simp [iL]
        rw [hfl] at o9
        have n1 : ∀ k, (Value.slice Ao j co).ownBlock = some k → g2 + 1 ≤ k := fun k e => own_ge o4 e
        refine round ⟨(j + 1, _), rfl, ⟨by show j + 1 ≤ _; omega, q9, ((B1.no (Chg.drew w)).no p8).keep p9 (fun e => by have := n1 _ e; omega), ((B2.no (Chg.drew w)).no p8).keep p9 (fun e => by have := n1 _ e; omega), o9, fun x hx => ?_⟩, by show _ - (j + 1) < _ - j; omega⟩
        rw [take_snoc hb, List.mem_append, List.mem_singleton] at hx
        rcases hx with hx | rfl
        · exact hI x hx
        · exact hb0
      · have hjl : j = kp.l.length := by omega
        rw [hjl, List.take_length] at hI
        obtain ⟨hlo, hle⟩ := lowL_ok hgr h3 hI
        have hll : (lowL g.l kp.l).length = kp.l.length := by have := hlo.2; omega
        obtain rfl : j = (lowL g.l kp.l).length := by omega
        rw [List.take_length] at o2
        have So := own_slN o2
        have hf : hzn v r (lowL g.l kp.l) ≤ hzn v r g.l := hzI_mono (fun x hx => clr_mono hv hle x hx) _ _
        have s1 := hzI_spec (clr v r g.l) 121 61
        have s2 := hzI_spec (clr v r (lowL g.l kp.l)) 121 61
        have hd : hzn v r g.l = hzI (clr v r g.l) 121 61 := rfl
        have hd2 : hzn v r (lowL g.l kp.l) = hzI (clr v r (lowL g.l kp.l)) 121 61 := rfl
        rw [← hd] at s1
        rw [← hd2] at s2
        refine go T_ok 200 rfl ?_
        repeat (first | (refine ldA T_ok rfl rfl rfl rfl rfl (Bk.all B1) ?_; refine go T_ok 200 rfl ?_) | (refine ldA T_ok rfl rfl rfl rfl rfl (Bk.all B2) ?_; refine go T_ok 200 rfl ?_) | (refine ld T_ok rfl rfl rfl rfl (Bk.get B1 rfl) ?_; refine go T_ok 200 rfl ?_) | (refine ld T_ok rfl rfl rfl rfl (Bk.get B2 rfl) ?_; refine go T_ok 200 rfl ?_) | (refine guardA (b := true) rfl rfl rfl rfl (fun _ => ?_) (fun e => by cases e); refine go T_ok 200 rfl ?_) | (refine guardA (b := false) rfl rfl rfl rfl (fun e => by cases e) (fun _ => ?_); refine go T_ok 200 rfl ?_) | (refine condT rfl rfl ?_; refine go T_ok 200 rfl ?_) | (refine condF rfl rfl ?_; refine go T_ok 200 rfl ?_))
        refine call rfl rfl rfl (ok _ (by decide) rfl) (Horizon_any v r g.l g.A g.c _ _ hg.ml Sg) ?_
        rintro x w ⟨rfl, qk⟩
        have B1 := B1.no qk
        have B2 := B2.no qk
        have Sg := Sg.no qk
        have Sk := Sk.no qk
        have So := So.no qk
        have q := q.trans qk
        refine go T_ok 200 rfl ?_
        repeat (first | (refine ldA T_ok rfl rfl rfl rfl rfl (Bk.all B1) ?_; refine go T_ok 200 rfl ?_) | (refine ldA T_ok rfl rfl rfl rfl rfl (Bk.all B2) ?_; refine go T_ok 200 rfl ?_) | (refine ld T_ok rfl rfl rfl rfl (Bk.get B1 rfl) ?_; refine go T_ok 200 rfl ?_) | (refine ld T_ok rfl rfl rfl rfl (Bk.get B2 rfl) ?_; refine go T_ok 200 rfl ?_) | (refine guardA (b := true) rfl rfl rfl rfl (fun _ => ?_) (fun e => by cases e); refine go T_ok 200 rfl ?_) | (refine guardA (b := false) rfl rfl rfl rfl (fun e => by cases e) (fun _ => ?_); refine go T_ok 200 rfl ?_) | (refine condT rfl rfl ?_; refine go T_ok 200 rfl ?_) | (refine condF rfl rfl ?_; refine go T_ok 200 rfl ?_))
        refine call rfl rfl rfl (ok _ (by decide) rfl) (Horizon_any v r (lowL g.l kp.l) _ _ _ _ (by have := hkp.ml; omega) So) ?_
        rintro x w ⟨rfl, qk⟩
        have B1 := B1.no qk
        have B2 := B2.no qk
        have Sg := Sg.no qk
        have Sk := Sk.no qk
        have So := So.no qk
        have q := q.trans qk
        have hO : hzR v r g.l = if 60 < hzn v r g.l then (0, 5) else (hzn v r g.l, 0) := by unfold hzR; rw [if_pos ⟨⟨hv, hr, hgr⟩, hxy⟩]
        have hO2 : hzR v r (lowL g.l kp.l) = if 60 < hzn v r (lowL g.l kp.l) then (0, 5) else (hzn v r (lowL g.l kp.l), 0) := by unfold hzR; rw [if_pos ⟨⟨hv, hr, hlo⟩, hxy⟩]
        by_cases h9 : 60 < hzn v r g.l
        · rw [if_pos h9] at hO
          rw [hO]
          refine go T_ok 200 rfl ?_
          repeat (first | (refine guardA (b := true) rfl rfl rfl rfl (fun _ => ?_) (fun e => by cases e); refine go T_ok 200 rfl ?_) | (refine guardA (b := false) rfl rfl rfl rfl (fun e => by cases e) (fun _ => ?_); refine go T_ok 200 rfl ?_) | (refine condT rfl rfl ?_; refine go T_ok 200 rfl ?_) | (refine condF rfl rfl ?_; refine go T_ok 200 rfl ?_))
          refine go T_ok 200 rfl ?_
          repeat (first | (refine ldA T_ok rfl rfl rfl rfl rfl (Bk.all B1) ?_; refine go T_ok 200 rfl ?_) | (refine ldA T_ok rfl rfl rfl rfl rfl (Bk.all B2) ?_; refine go T_ok 200 rfl ?_) | (refine ld T_ok rfl rfl rfl rfl (Bk.get B1 rfl) ?_; refine go T_ok 200 rfl ?_) | (refine ld T_ok rfl rfl rfl rfl (Bk.get B2 rfl) ?_; refine go T_ok 200 rfl ?_) | (refine guardA (b := true) rfl rfl rfl rfl (fun _ => ?_) (fun e => by cases e); refine go T_ok 200 rfl ?_) | (refine guardA (b := false) rfl rfl rfl rfl (fun e => by cases e) (fun _ => ?_); refine go T_ok 200 rfl ?_) | (refine condT rfl rfl ?_; refine go T_ok 200 rfl ?_) | (refine condF rfl rfl ?_; refine go T_ok 200 rfl ?_))
          have yB1 := B1.lt
          have yB2 := B2.lt
          have ySg := Sg.2.1
          have ySk := Sk.2.1
          have ySo := So.2.1
          have yq := q.size
          refine nw rfl rfl (z := .agg #[I 0, I 0, I 0, I 0, I 0, I 0]) (by kernel_rfl) (cs := [I 0, I 0, I 0, I 0, I 0, I 0]) rfl ?_
          intro g3 w hg3 hs3 qk B3
          have B1 := B1.no qk
          have B2 := B2.no qk
          have Sg := Sg.no qk
          have Sk := Sk.no qk
          have So := So.no qk
          have q := q.trans qk
          refine go T_ok 200 rfl ?_
          refine stA T_ok rfl rfl rfl rfl (vs := rL r) rfl rfl rfl B3 rfl ?_
          intro w qk B3 hz3
          have B3 : Bk w g3 26 (rL r) := B3
          have B1 := Bk.keep B1 qk (by omega)
          have B2 := Bk.keep B2 qk (by omega)
          have Sg := Sl.keep Sg qk (fun k hk e => by omega)
          have Sk := Sl.keep Sk qk (fun k hk e => by omega)
          have So := Sl.keep So qk (fun k hk e => by omega)
          have q := q.step qk (fun k hk e => by omega)
          refine go T_ok 200 rfl ?_
          refine st T_ok rfl rfl rfl rfl (v := I 60) rfl rfl B3 rfl ?_
          intro w qk B3 hz3
          have B3 : Bk w g3 26 (rL (rz r 60)) := B3
          have B1 := Bk.keep B1 qk (by omega)
          have B2 := Bk.keep B2 qk (by omega)
          have Sg := Sl.keep Sg qk (fun k hk e => by omega)
          have Sk := Sl.keep Sk qk (fun k hk e => by omega)
          have So := Sl.keep So qk (fun k hk e => by omega)
          have q := q.step qk (fun k hk e => by omega)
          have hc := s1.2.2.2 (by omega)
          have hcl := clr_len.2 (show clr v r g.l 60 = false by rw [← hc]; congr 1; omega)
          have hU : unR v (rz r 60) g.l = (0, chs (cutS (und v (rz r 60) g.l) (pcs v (rz r 60)))) := by unfold unR; rw [if_pos ⟨hv, rz_ok hr hxy (by omega) (by omega), hgr⟩]
          refine go T_ok 200 rfl ?_
          repeat (first | (refine ldA T_ok rfl rfl rfl rfl rfl (Bk.all B1) ?_; refine go T_ok 200 rfl ?_) | (refine ldA T_ok rfl rfl rfl rfl rfl (Bk.all B2) ?_; refine go T_ok 200 rfl ?_) | (refine ldA T_ok rfl rfl rfl rfl rfl (Bk.all B3) ?_; refine go T_ok 200 rfl ?_) | (refine ld T_ok rfl rfl rfl rfl (Bk.get B1 rfl) ?_; refine go T_ok 200 rfl ?_) | (refine ld T_ok rfl rfl rfl rfl (Bk.get B2 rfl) ?_; refine go T_ok 200 rfl ?_) | (refine ld T_ok rfl rfl rfl rfl (Bk.get B3 rfl) ?_; refine go T_ok 200 rfl ?_) | (refine guardA (b := true) rfl rfl rfl rfl (fun _ => ?_) (fun e => by cases e); refine go T_ok 200 rfl ?_) | (refine guardA (b := false) rfl rfl rfl rfl (fun e => by cases e) (fun _ => ?_); refine go T_ok 200 rfl ?_) | (refine condT rfl rfl ?_; refine go T_ok 200 rfl ?_) | (refine condF rfl rfl ?_; refine go T_ok 200 rfl ?_))
          refine call rfl rfl rfl (ok _ (by decide) rfl) (Under_any v (rz r 60) g.l g.A g.c _ _ hg.ml Sg) ?_
          rintro x w ⟨A3, c3, e3, l3, rfl, S3, qk, j3⟩
          have B1 := B1.no qk
          have B2 := B2.no qk
          have Sg := Sg.no qk
          have Sk := Sk.no qk
          have So := So.no qk
          have B3 := B3.no qk
          have q := q.trans qk
          rw [hU] at j3
          cases j3
          refine go T_ok 200 rfl ?_
          repeat (first | (refine ldA T_ok rfl rfl rfl rfl rfl (Bk.all B1) ?_; refine go T_ok 200 rfl ?_) | (refine ldA T_ok rfl rfl rfl rfl rfl (Bk.all B2) ?_; refine go T_ok 200 rfl ?_) | (refine ldA T_ok rfl rfl rfl rfl rfl (Bk.all B3) ?_; refine go T_ok 200 rfl ?_) | (refine ld T_ok rfl rfl rfl rfl (Bk.get B1 rfl) ?_; refine go T_ok 200 rfl ?_) | (refine ld T_ok rfl rfl rfl rfl (Bk.get B2 rfl) ?_; refine go T_ok 200 rfl ?_) | (refine ld T_ok rfl rfl rfl rfl (Bk.get B3 rfl) ?_; refine go T_ok 200 rfl ?_) | (refine guardA (b := true) rfl rfl rfl rfl (fun _ => ?_) (fun e => by cases e); refine go T_ok 200 rfl ?_) | (refine guardA (b := false) rfl rfl rfl rfl (fun e => by cases e) (fun _ => ?_); refine go T_ok 200 rfl ?_) | (refine condT rfl rfl ?_; refine go T_ok 200 rfl ?_) | (refine condF rfl rfl ?_; refine go T_ok 200 rfl ?_))
          refine guardD rfl rfl rfl (fun _ => ?_) (fun h => absurd (by omega) h)
          refine go T_ok 200 rfl ?_
          repeat (first | (refine guardA (b := true) rfl rfl rfl rfl (fun _ => ?_) (fun e => by cases e); refine go T_ok 200 rfl ?_) | (refine guardA (b := false) rfl rfl rfl rfl (fun e => by cases e) (fun _ => ?_); refine go T_ok 200 rfl ?_) | (refine condT rfl rfl ?_; refine go T_ok 200 rfl ?_) | (refine condF rfl rfl ?_; refine go T_ok 200 rfl ?_))
          refine call rfl rfl rfl (ok _ (by decide) rfl) (known_any _) ?_
          rintro v wk ⟨rfl, qk⟩
          refine go T_ok 200 rfl ?_
          exact ret (ret1 (v := .bool true) Try.results6 rfl ⟨rfl, q.trans qk⟩)
        · rw [if_neg h9] at hO
          rw [if_neg (by omega)] at hO2
          rw [hO, hO2]
          refine go T_ok 200 rfl ?_
          repeat (first | (refine guardA (b := true) rfl rfl rfl rfl (fun _ => ?_) (fun e => by cases e); refine go T_ok 200 rfl ?_) | (refine guardA (b := false) rfl rfl rfl rfl (fun e => by cases e) (fun _ => ?_); refine go T_ok 200 rfl ?_) | (refine condT rfl rfl ?_; refine go T_ok 200 rfl ?_) | (refine condF rfl rfl ?_; refine go T_ok 200 rfl ?_))
          refine guardA (b := false) rfl rfl rfl (congrArg Value.bool (decide_eq_false (by omega))) (fun e => by cases e) (fun _ => ?_)
          refine go T_ok 200 rfl ?_
          repeat (first | (refine guardA (b := true) rfl rfl rfl rfl (fun _ => ?_) (fun e => by cases e); refine go T_ok 200 rfl ?_) | (refine guardA (b := false) rfl rfl rfl rfl (fun e => by cases e) (fun _ => ?_); refine go T_ok 200 rfl ?_) | (refine condT rfl rfl ?_; refine go T_ok 200 rfl ?_) | (refine condF rfl rfl ?_; refine go T_ok 200 rfl ?_))
          refine guardA (b := false) rfl rfl rfl (congrArg Value.bool (decide_eq_false (by omega))) (fun e => by cases e) (fun _ => ?_)
          refine go T_ok 200 rfl ?_
          refine condF rfl (decide_eq_false (by omega)) ?_
          refine go T_ok 200 rfl ?_
          repeat (first | (refine ldA T_ok rfl rfl rfl rfl rfl (Bk.all B1) ?_; refine go T_ok 200 rfl ?_) | (refine ldA T_ok rfl rfl rfl rfl rfl (Bk.all B2) ?_; refine go T_ok 200 rfl ?_) | (refine ld T_ok rfl rfl rfl rfl (Bk.get B1 rfl) ?_; refine go T_ok 200 rfl ?_) | (refine ld T_ok rfl rfl rfl rfl (Bk.get B2 rfl) ?_; refine go T_ok 200 rfl ?_) | (refine guardA (b := true) rfl rfl rfl rfl (fun _ => ?_) (fun e => by cases e); refine go T_ok 200 rfl ?_) | (refine guardA (b := false) rfl rfl rfl rfl (fun e => by cases e) (fun _ => ?_); refine go T_ok 200 rfl ?_) | (refine condT rfl rfl ?_; refine go T_ok 200 rfl ?_) | (refine condF rfl rfl ?_; refine go T_ok 200 rfl ?_))
          have yB1 := B1.lt
          have yB2 := B2.lt
          have ySg := Sg.2.1
          have ySk := Sk.2.1
          have ySo := So.2.1
          have yq := q.size
          refine nw rfl rfl (z := .agg #[I 0, I 0, I 0, I 0, I 0, I 0]) (by kernel_rfl) (cs := [I 0, I 0, I 0, I 0, I 0, I 0]) rfl ?_
          intro g3 w hg3 hs3 qk B3
          have B1 := B1.no qk
          have B2 := B2.no qk
          have Sg := Sg.no qk
          have Sk := Sk.no qk
          have So := So.no qk
          have q := q.trans qk
          refine go T_ok 200 rfl ?_
          refine stA T_ok rfl rfl rfl rfl (vs := rL r) rfl rfl rfl B3 rfl ?_
          intro w qk B3 hz3
          have B3 : Bk w g3 26 (rL r) := B3
          have B1 := Bk.keep B1 qk (by omega)
          have B2 := Bk.keep B2 qk (by omega)
          have Sg := Sl.keep Sg qk (fun k hk e => by omega)
          have Sk := Sl.keep Sk qk (fun k hk e => by omega)
          have So := Sl.keep So qk (fun k hk e => by omega)
          have q := q.step qk (fun k hk e => by omega)
          refine go T_ok 200 rfl ?_
          refine st T_ok rfl rfl rfl rfl (v := I (max (hzn v r g.l) stp)) rfl rfl B3 rfl ?_
          intro w qk B3 hz3
          have B3 : Bk w g3 26 (rL (rz r (max (hzn v r g.l) stp))) := B3
          have B1 := Bk.keep B1 qk (by omega)
          have B2 := Bk.keep B2 qk (by omega)
          have Sg := Sl.keep Sg qk (fun k hk e => by omega)
          have Sk := Sl.keep Sk qk (fun k hk e => by omega)
          have So := Sl.keep So qk (fun k hk e => by omega)
          have q := q.step qk (fun k hk e => by omega)
          have hc := s1.2.2.1 (max (hzn v r g.l) stp) (by omega) (by omega)
          have hcl := clr_len.1 hc
          have hU : unR v (rz r (max (hzn v r g.l) stp)) g.l = (0, chs (cutS (und v (rz r (max (hzn v r g.l) stp)) g.l) (pcs v (rz r (max (hzn v r g.l) stp))))) := by unfold unR; rw [if_pos ⟨hv, rz_ok hr hxy (by omega) (by omega), hgr⟩]
          refine go T_ok 200 rfl ?_
          repeat (first | (refine ldA T_ok rfl rfl rfl rfl rfl (Bk.all B1) ?_; refine go T_ok 200 rfl ?_) | (refine ldA T_ok rfl rfl rfl rfl rfl (Bk.all B2) ?_; refine go T_ok 200 rfl ?_) | (refine ldA T_ok rfl rfl rfl rfl rfl (Bk.all B3) ?_; refine go T_ok 200 rfl ?_) | (refine ld T_ok rfl rfl rfl rfl (Bk.get B1 rfl) ?_; refine go T_ok 200 rfl ?_) | (refine ld T_ok rfl rfl rfl rfl (Bk.get B2 rfl) ?_; refine go T_ok 200 rfl ?_) | (refine ld T_ok rfl rfl rfl rfl (Bk.get B3 rfl) ?_; refine go T_ok 200 rfl ?_) | (refine guardA (b := true) rfl rfl rfl rfl (fun _ => ?_) (fun e => by cases e); refine go T_ok 200 rfl ?_) | (refine guardA (b := false) rfl rfl rfl rfl (fun e => by cases e) (fun _ => ?_); refine go T_ok 200 rfl ?_) | (refine condT rfl rfl ?_; refine go T_ok 200 rfl ?_) | (refine condF rfl rfl ?_; refine go T_ok 200 rfl ?_))
          refine call rfl rfl rfl (ok _ (by decide) rfl) (Under_any v (rz r (max (hzn v r g.l) stp)) g.l g.A g.c _ _ hg.ml Sg) ?_
          rintro x w ⟨A3, c3, e3, l3, rfl, S3, qk, j3⟩
          have B1 := B1.no qk
          have B2 := B2.no qk
          have Sg := Sg.no qk
          have Sk := Sk.no qk
          have So := So.no qk
          have B3 := B3.no qk
          have q := q.trans qk
          rw [hU] at j3
          cases j3
          rw [hcl]
          refine go T_ok 200 rfl ?_
          repeat (first | (refine ldA T_ok rfl rfl rfl rfl rfl (Bk.all B1) ?_; refine go T_ok 200 rfl ?_) | (refine ldA T_ok rfl rfl rfl rfl rfl (Bk.all B2) ?_; refine go T_ok 200 rfl ?_) | (refine ldA T_ok rfl rfl rfl rfl rfl (Bk.all B3) ?_; refine go T_ok 200 rfl ?_) | (refine ld T_ok rfl rfl rfl rfl (Bk.get B1 rfl) ?_; refine go T_ok 200 rfl ?_) | (refine ld T_ok rfl rfl rfl rfl (Bk.get B2 rfl) ?_; refine go T_ok 200 rfl ?_) | (refine ld T_ok rfl rfl rfl rfl (Bk.get B3 rfl) ?_; refine go T_ok 200 rfl ?_) | (refine guardA (b := true) rfl rfl rfl rfl (fun _ => ?_) (fun e => by cases e); refine go T_ok 200 rfl ?_) | (refine guardA (b := false) rfl rfl rfl rfl (fun e => by cases e) (fun _ => ?_); refine go T_ok 200 rfl ?_) | (refine condT rfl rfl ?_; refine go T_ok 200 rfl ?_) | (refine condF rfl rfl ?_; refine go T_ok 200 rfl ?_))
          refine cond rfl (fun h6 => ?_) (fun h6 => ?_)
          · refine go T_ok 200 rfl ?_
            refine call rfl rfl rfl (ok _ (by decide) rfl) (known_any _) ?_
            rintro v wk ⟨rfl, qk⟩
            refine go T_ok 200 rfl ?_
            exact ret (ret1 (v := .bool true) Try.results6 rfl ⟨rfl, q.trans qk⟩)
          have h6 : hzn v r g.l ≠ -60 := by simpa using h6
          have e5 : w64 (hzn v r g.l - 1) = hzn v r g.l - 1 := w64_id (by omega) (by omega)
          refine go T_ok 200 rfl ?_
          rw [e5]
          refine st T_ok rfl rfl rfl rfl (v := I (hzn v r g.l - 1)) rfl rfl B3 rfl ?_
          intro w qk B3 hz3
          have B3 : Bk w g3 26 (rL (rz r (hzn v r g.l - 1))) := B3
          have B1 := Bk.keep B1 qk (by omega)
          have B2 := Bk.keep B2 qk (by omega)
          have Sg := Sl.keep Sg qk (fun k hk e => by omega)
          have Sk := Sl.keep Sk qk (fun k hk e => by omega)
          have So := Sl.keep So qk (fun k hk e => by omega)
          have q := q.step qk (fun k hk e => by omega)
          have hc := s1.2.2.2 (by omega)
          have hcl := clr_len.2 hc
          have hU : unR v (rz r (hzn v r g.l - 1)) g.l = (0, chs (cutS (und v (rz r (hzn v r g.l - 1)) g.l) (pcs v (rz r (hzn v r g.l - 1))))) := by unfold unR; rw [if_pos ⟨hv, rz_ok hr hxy (by omega) (by omega), hgr⟩]
          refine go T_ok 200 rfl ?_
          repeat (first | (refine ldA T_ok rfl rfl rfl rfl rfl (Bk.all B1) ?_; refine go T_ok 200 rfl ?_) | (refine ldA T_ok rfl rfl rfl rfl rfl (Bk.all B2) ?_; refine go T_ok 200 rfl ?_) | (refine ldA T_ok rfl rfl rfl rfl rfl (Bk.all B3) ?_; refine go T_ok 200 rfl ?_) | (refine ld T_ok rfl rfl rfl rfl (Bk.get B1 rfl) ?_; refine go T_ok 200 rfl ?_) | (refine ld T_ok rfl rfl rfl rfl (Bk.get B2 rfl) ?_; refine go T_ok 200 rfl ?_) | (refine ld T_ok rfl rfl rfl rfl (Bk.get B3 rfl) ?_; refine go T_ok 200 rfl ?_) | (refine guardA (b := true) rfl rfl rfl rfl (fun _ => ?_) (fun e => by cases e); refine go T_ok 200 rfl ?_) | (refine guardA (b := false) rfl rfl rfl rfl (fun e => by cases e) (fun _ => ?_); refine go T_ok 200 rfl ?_) | (refine condT rfl rfl ?_; refine go T_ok 200 rfl ?_) | (refine condF rfl rfl ?_; refine go T_ok 200 rfl ?_))
          refine call rfl rfl rfl (ok _ (by decide) rfl) (Under_any v (rz r (hzn v r g.l - 1)) g.l g.A g.c _ _ hg.ml Sg) ?_
          rintro x w ⟨A3, c3, e3, l3, rfl, S3, qk, j3⟩
          have B1 := B1.no qk
          have B2 := B2.no qk
          have Sg := Sg.no qk
          have Sk := Sk.no qk
          have So := So.no qk
          have B3 := B3.no qk
          have q := q.trans qk
          rw [hU] at j3
          cases j3
          refine go T_ok 200 rfl ?_
          repeat (first | (refine ldA T_ok rfl rfl rfl rfl rfl (Bk.all B1) ?_; refine go T_ok 200 rfl ?_) | (refine ldA T_ok rfl rfl rfl rfl rfl (Bk.all B2) ?_; refine go T_ok 200 rfl ?_) | (refine ldA T_ok rfl rfl rfl rfl rfl (Bk.all B3) ?_; refine go T_ok 200 rfl ?_) | (refine ld T_ok rfl rfl rfl rfl (Bk.get B1 rfl) ?_; refine go T_ok 200 rfl ?_) | (refine ld T_ok rfl rfl rfl rfl (Bk.get B2 rfl) ?_; refine go T_ok 200 rfl ?_) | (refine ld T_ok rfl rfl rfl rfl (Bk.get B3 rfl) ?_; refine go T_ok 200 rfl ?_) | (refine guardA (b := true) rfl rfl rfl rfl (fun _ => ?_) (fun e => by cases e); refine go T_ok 200 rfl ?_) | (refine guardA (b := false) rfl rfl rfl rfl (fun e => by cases e) (fun _ => ?_); refine go T_ok 200 rfl ?_) | (refine condT rfl rfl ?_; refine go T_ok 200 rfl ?_) | (refine condF rfl rfl ?_; refine go T_ok 200 rfl ?_))
          refine guardD rfl rfl rfl (fun _ => ?_) (fun h => absurd (by omega) h)
          refine go T_ok 200 rfl ?_
          repeat (first | (refine guardA (b := true) rfl rfl rfl rfl (fun _ => ?_) (fun e => by cases e); refine go T_ok 200 rfl ?_) | (refine guardA (b := false) rfl rfl rfl rfl (fun e => by cases e) (fun _ => ?_); refine go T_ok 200 rfl ?_) | (refine condT rfl rfl ?_; refine go T_ok 200 rfl ?_) | (refine condF rfl rfl ?_; refine go T_ok 200 rfl ?_))
          refine call rfl rfl rfl (ok _ (by decide) rfl) (known_any _) ?_
          rintro v wk ⟨rfl, qk⟩
          refine go T_ok 200 rfl ?_
          exact ret (ret1 (v := .bool true) Try.results6 rfl ⟨rfl, q.trans qk⟩)
  · have hxy : r.dx ≠ 0 ∨ r.dy ≠ 0 := .inl (by simpa using hx)
    refine go T_ok 200 rfl ?_
    repeat (first | (refine ldA T_ok rfl rfl rfl rfl rfl (Bk.all B1) ?_; refine go T_ok 200 rfl ?_) | (refine ldA T_ok rfl rfl rfl rfl rfl (Bk.all B2) ?_; refine go T_ok 200 rfl ?_) | (refine ld T_ok rfl rfl rfl rfl (Bk.get B1 rfl) ?_; refine go T_ok 200 rfl ?_) | (refine ld T_ok rfl rfl rfl rfl (Bk.get B2 rfl) ?_; refine go T_ok 200 rfl ?_) | (refine guardA (b := true) rfl rfl rfl rfl (fun _ => ?_) (fun e => by cases e); refine go T_ok 200 rfl ?_) | (refine guardA (b := false) rfl rfl rfl rfl (fun e => by cases e) (fun _ => ?_); refine go T_ok 200 rfl ?_) | (refine condT rfl rfl ?_; refine go T_ok 200 rfl ?_) | (refine condF rfl rfl ?_; refine go T_ok 200 rfl ?_))
    refine guardD rfl rfl rfl (fun h1 => ?_) (fun h1 => ?_)
    · skip
      refine go T_ok 200 rfl ?_
      repeat (first | (refine guardA (b := true) rfl rfl rfl rfl (fun _ => ?_) (fun e => by cases e); refine go T_ok 200 rfl ?_) | (refine guardA (b := false) rfl rfl rfl rfl (fun e => by cases e) (fun _ => ?_); refine go T_ok 200 rfl ?_) | (refine condT rfl rfl ?_; refine go T_ok 200 rfl ?_) | (refine condF rfl rfl ?_; refine go T_ok 200 rfl ?_))
      refine call rfl rfl rfl (ok _ (by decide) rfl) (known_any _) ?_
      rintro v wk ⟨rfl, qk⟩
      refine go T_ok 200 rfl ?_
      exact ret (ret1 (v := .bool true) Try.results6 rfl ⟨rfl, q.trans qk⟩)
    refine go T_ok 200 rfl ?_
    repeat (first | (refine ldA T_ok rfl rfl rfl rfl rfl (Bk.all B1) ?_; refine go T_ok 200 rfl ?_) | (refine ldA T_ok rfl rfl rfl rfl rfl (Bk.all B2) ?_; refine go T_ok 200 rfl ?_) | (refine ld T_ok rfl rfl rfl rfl (Bk.get B1 rfl) ?_; refine go T_ok 200 rfl ?_) | (refine ld T_ok rfl rfl rfl rfl (Bk.get B2 rfl) ?_; refine go T_ok 200 rfl ?_) | (refine guardA (b := true) rfl rfl rfl rfl (fun _ => ?_) (fun e => by cases e); refine go T_ok 200 rfl ?_) | (refine guardA (b := false) rfl rfl rfl rfl (fun e => by cases e) (fun _ => ?_); refine go T_ok 200 rfl ?_) | (refine condT rfl rfl ?_; refine go T_ok 200 rfl ?_) | (refine condF rfl rfl ?_; refine go T_ok 200 rfl ?_))
    refine guardD rfl rfl rfl (fun h2 => ?_) (fun h2 => ?_)
    · skip
      refine go T_ok 200 rfl ?_
      repeat (first | (refine guardA (b := true) rfl rfl rfl rfl (fun _ => ?_) (fun e => by cases e); refine go T_ok 200 rfl ?_) | (refine guardA (b := false) rfl rfl rfl rfl (fun e => by cases e) (fun _ => ?_); refine go T_ok 200 rfl ?_) | (refine condT rfl rfl ?_; refine go T_ok 200 rfl ?_) | (refine condF rfl rfl ?_; refine go T_ok 200 rfl ?_))
      refine call rfl rfl rfl (ok _ (by decide) rfl) (known_any _) ?_
      rintro v wk ⟨rfl, qk⟩
      refine go T_ok 200 rfl ?_
      exact ret (ret1 (v := .bool true) Try.results6 rfl ⟨rfl, q.trans qk⟩)
    refine go T_ok 200 rfl ?_
    refine cond rfl (fun h3 => ?_) (fun h3 => ?_)
    · refine go T_ok 200 rfl ?_
      refine call rfl rfl rfl (ok _ (by decide) rfl) (known_any _) ?_
      rintro v wk ⟨rfl, qk⟩
      refine go T_ok 200 rfl ?_
      exact ret (ret1 (v := .bool true) Try.results6 rfl ⟨rfl, q.trans qk⟩)
    have h3 : kp.l.length = g.l.length := by
      have h3 : (kp.l.length : Int) = (g.l.length : Int) := by simpa using h3
      omega
    refine go T_ok 200 rfl ?_
    refine loop [1, 3, 4, 5, 7, 11, 12] (fun p : Nat × Value => [.slice g.A g.l.length g.c, .int .i64 stp, .slice kp.A kp.l.length kp.c, .pointer (some ⟨g1, 0, none⟩), .pointer (some ⟨g2, 0, none⟩), p.2, .int .i64 (p.1 : Int)])
      (fun p w' => p.1 ≤ kp.l.length ∧ Chg No w0 w' ∧ Bk w' g1 23 (vL v) ∧ Bk w' g2 26 (rL r) ∧ w'.ownsRow (g2 + 1) 3 1 p.2 p.1 (iL ((lowL g.l kp.l).take p.1)) ∧ ∀ b ∈ kp.l.take p.1, 0 ≤ b ∧ b ≤ 100) (fun p => kp.l.length - p.1) (0, .slice none 0 0) (fun _ => rfl) rfl ⟨by show 0 ≤ _; omega, q, B1, B2, own_nil, fun a h => by simp at h⟩ ?_
    rintro ⟨j, out⟩ τ w ⟨hj, q, B1, B2, o2, hI⟩
    simp only at hj o2 hI
    obtain ⟨Ao, co, rfl⟩ := own_form o2
    have Sg := hg.sl.no q
    have Sk := hkp.sl.no q
    refine go T_ok 200 rfl ?_
    refine condD rfl (fun hlt => ?_) (fun hlt => ?_)
    · have hlt : j < kp.l.length := by omega
      obtain ⟨a, ha⟩ : ∃ a, g.l[j]? = some a := ⟨_, List.getElem?_eq_getElem (by omega)⟩
      obtain ⟨b, hb⟩ : ∃ a, kp.l[j]? = some a := ⟨_, List.getElem?_eq_getElem hlt⟩
      obtain ⟨bk, ok_, hAk, hbk, hck0⟩ := hkp.sl.elI hb
      obtain ⟨bg, og, hAg, hbg, hcg0⟩ := hg.sl.elI ha
      have hck := (q.cell (a := ⟨bk, ok_ + j * 1, none⟩) hbk (fun h => h)).trans hck0
      have ha0 := hgr.1 a (List.mem_of_getElem? ha)
      have hzs := vo_zs hv
      have e3 : w64 ((j : Int) + 1) = ((j + 1 : Nat) : Int) := w64_id (by omega) (by omega)
      rw [hAk, hAg]
      refine go T_ok 200 rfl ?_
      refine idx T_ok rfl rfl rfl rfl rfl j rfl hlt ?_
      refine go T_ok 200 rfl ?_
      refine ld T_ok rfl rfl rfl rfl (hck) ?_
      refine go T_ok 200 rfl ?_
      refine guardD rfl rfl rfl (fun h4 => ?_) (fun h4 => ?_)
      · skip
        refine go T_ok 200 rfl ?_
        repeat (first | (refine guardA (b := true) rfl rfl rfl rfl (fun _ => ?_) (fun e => by cases e); refine go T_ok 200 rfl ?_) | (refine guardA (b := false) rfl rfl rfl rfl (fun e => by cases e) (fun _ => ?_); refine go T_ok 200 rfl ?_) | (refine condT rfl rfl ?_; refine go T_ok 200 rfl ?_) | (refine condF rfl rfl ?_; refine go T_ok 200 rfl ?_))
        refine call rfl rfl rfl (ok _ (by decide) rfl) (known_any _) ?_
        rintro v wk ⟨rfl, qk⟩
        refine go T_ok 200 rfl ?_
        exact ret (ret1 (v := .bool true) Try.results6 rfl ⟨rfl, q.trans qk⟩)
      refine go T_ok 200 rfl ?_
      refine idx T_ok rfl rfl rfl rfl rfl j rfl hlt ?_
      refine go T_ok 200 rfl ?_
      refine ld T_ok rfl rfl rfl rfl (hck) ?_
      refine go T_ok 200 rfl ?_
      refine condD rfl (fun h5 => ?_) (fun h5 => ?_)
      · refine go T_ok 200 rfl ?_
        refine call rfl rfl rfl (ok _ (by decide) rfl) (known_any _) ?_
        rintro v wk ⟨rfl, qk⟩
        refine go T_ok 200 rfl ?_
        exact ret (ret1 (v := .bool true) Try.results6 rfl ⟨rfl, q.trans qk⟩)
      have hb0 : 0 ≤ b ∧ b ≤ 100 := by omega
      have m1 := Int.mul_nonneg ha0.1 hb0.1
      have m2 := Int.mul_le_mul_of_nonneg_left hb0.2 ha0.1
      have e4 : w64 (a * b) = a * b := w64_id (by omega) (by omega)
      have hget := lowL_get ha hb
      have kk : ∀ w', Chg No w0 w' → w'.cell? ⟨bk, ok_ + j * 1, none⟩ = some (I b) := fun w' hS => (hS.cell (a := ⟨bk, ok_ + j * 1, none⟩) hbk (fun h => h)).trans hck0
      have kg : ∀ w', Chg No w0 w' → w'.cell? ⟨bg, og + j * 1, none⟩ = some (I a) := fun w' hS => (hS.cell (a := ⟨bg, og + j * 1, none⟩) hbg (fun h => h)).trans hcg0
      refine go T_ok 200 rfl ?_
      refine draw mixed (fun w' => Chg No w0 w') ([0,1,2,3,4,5,6,7,8,9,10].map (fun i => (i, true)) ++ [(11, false)] ++ [(12, false)] ++ [13].map (fun i => (i, true))) rfl (by kernel_rfl) (q.trans (Chg.drew _)) ?_
      refine goH T_ok 200 rfl ?_
      refine quietH rfl (fun w' hS => r_idx T_ok rfl rfl rfl rfl j rfl (by omega)) ?_
      refine goH T_ok 200 rfl ?_
      refine quietH rfl (fun w' hS => r_load T_ok rfl rfl rfl (kg w' hS)) ?_
      refine goH T_ok 200 rfl ?_
      refine quietH rfl (fun w' hS => r_idx T_ok rfl rfl rfl rfl j rfl hlt) ?_
      refine goH T_ok 200 rfl ?_
      refine quietH rfl (fun w' hS => r_load T_ok rfl rfl rfl (kk w' hS)) ?_
      refine goH T_ok 200 rfl ?_
      rw [e4]
      refine quietH rfl (fun w' hS => r_quoN rfl rfl rfl m1 (by omega) (by omega)) ?_
      refine goH T_ok 200 rfl ?_
      have o3 := own_no o2 (Chg.drew w)
      have yB := B2.lt
      have yB1 := B1.lt
      have yg : g1 < g2 := hg12
      have ysz := (Chg.drew w).size
      refine rowE T_ok rfl rfl rfl rfl rfl rfl (cs := [I (a * b / 100)]) rfl ?_
      intro g8 w8 hg8 hs8 p8 B8
      have q8 := (q.trans (Chg.drew _)).trans p8
      refine ⟨q8, ?_⟩
      have o4 := own_no o3 p8
      refine goH T_ok 200 rfl ?_
      refine appSE T_ok rfl rfl rfl rfl rfl o4 (B8.sl (sz := 1) (m := 1) rfl) rfl (by have := hkp.ml; unfold maxLen at *; omega) (by omega) (by omega) ?_
      intro A9 c9 w9 o9 p9 _
      have q9 := q8.step p9 (fun k hk e => by have := own_ge o4 e; have := q.size; omega)
      refine ⟨q9, ?_⟩
      refine goH T_ok 200 rfl ?_
      refine endH ?_
      refine go T_ok 200 rfl ?_
      rw [e3]
      have hfl : iL ((lowL g.l kp.l).take j) ++ [I (a * b / 100)] = iL ((lowL g.l kp.l).take (j + 1)) := by rw [take_snoc hget]; simp [iL]
      rw [hfl] at o9
      have n1 : ∀ k, (Value.slice Ao j co).ownBlock = some k → g2 + 1 ≤ k := fun k e => own_ge o4 e
      refine round ⟨(j + 1, _), rfl, ⟨by show j + 1 ≤ _; omega, q9, ((B1.no (Chg.drew w)).no p8).keep p9 (fun e => by have := n1 _ e; omega), ((B2.no (Chg.drew w)).no p8).keep p9 (fun e => by have := n1 _ e; omega), o9, fun x hx => ?_⟩, by show _ - (j + 1) < _ - j; omega⟩
      rw [take_snoc hb, List.mem_append, List.mem_singleton] at hx
      rcases hx with hx | rfl
      · exact hI x hx
      · exact hb0
    · have hjl : j = kp.l.length := by omega
      rw [hjl, List.take_length] at hI
      obtain ⟨hlo, hle⟩ := lowL_ok hgr h3 hI
      have hll : (lowL g.l kp.l).length = kp.l.length := by have := hlo.2; omega
      obtain rfl : j = (lowL g.l kp.l).length := by omega
      rw [List.take_length] at o2
      have So := own_slN o2
      have hf : hzn v r (lowL g.l kp.l) ≤ hzn v r g.l := hzI_mono (fun x hx => clr_mono hv hle x hx) _ _
      have s1 := hzI_spec (clr v r g.l) 121 61
      have s2 := hzI_spec (clr v r (lowL g.l kp.l)) 121 61
      have hd : hzn v r g.l = hzI (clr v r g.l) 121 61 := rfl
      have hd2 : hzn v r (lowL g.l kp.l) = hzI (clr v r (lowL g.l kp.l)) 121 61 := rfl
      rw [← hd] at s1
      rw [← hd2] at s2
      refine go T_ok 200 rfl ?_
      repeat (first | (refine ldA T_ok rfl rfl rfl rfl rfl (Bk.all B1) ?_; refine go T_ok 200 rfl ?_) | (refine ldA T_ok rfl rfl rfl rfl rfl (Bk.all B2) ?_; refine go T_ok 200 rfl ?_) | (refine ld T_ok rfl rfl rfl rfl (Bk.get B1 rfl) ?_; refine go T_ok 200 rfl ?_) | (refine ld T_ok rfl rfl rfl rfl (Bk.get B2 rfl) ?_; refine go T_ok 200 rfl ?_) | (refine guardA (b := true) rfl rfl rfl rfl (fun _ => ?_) (fun e => by cases e); refine go T_ok 200 rfl ?_) | (refine guardA (b := false) rfl rfl rfl rfl (fun e => by cases e) (fun _ => ?_); refine go T_ok 200 rfl ?_) | (refine condT rfl rfl ?_; refine go T_ok 200 rfl ?_) | (refine condF rfl rfl ?_; refine go T_ok 200 rfl ?_))
      refine call rfl rfl rfl (ok _ (by decide) rfl) (Horizon_any v r g.l g.A g.c _ _ hg.ml Sg) ?_
      rintro x w ⟨rfl, qk⟩
      have B1 := B1.no qk
      have B2 := B2.no qk
      have Sg := Sg.no qk
      have Sk := Sk.no qk
      have So := So.no qk
      have q := q.trans qk
      refine go T_ok 200 rfl ?_
      repeat (first | (refine ldA T_ok rfl rfl rfl rfl rfl (Bk.all B1) ?_; refine go T_ok 200 rfl ?_) | (refine ldA T_ok rfl rfl rfl rfl rfl (Bk.all B2) ?_; refine go T_ok 200 rfl ?_) | (refine ld T_ok rfl rfl rfl rfl (Bk.get B1 rfl) ?_; refine go T_ok 200 rfl ?_) | (refine ld T_ok rfl rfl rfl rfl (Bk.get B2 rfl) ?_; refine go T_ok 200 rfl ?_) | (refine guardA (b := true) rfl rfl rfl rfl (fun _ => ?_) (fun e => by cases e); refine go T_ok 200 rfl ?_) | (refine guardA (b := false) rfl rfl rfl rfl (fun e => by cases e) (fun _ => ?_); refine go T_ok 200 rfl ?_) | (refine condT rfl rfl ?_; refine go T_ok 200 rfl ?_) | (refine condF rfl rfl ?_; refine go T_ok 200 rfl ?_))
      refine call rfl rfl rfl (ok _ (by decide) rfl) (Horizon_any v r (lowL g.l kp.l) _ _ _ _ (by have := hkp.ml; omega) So) ?_
      rintro x w ⟨rfl, qk⟩
      have B1 := B1.no qk
      have B2 := B2.no qk
      have Sg := Sg.no qk
      have Sk := Sk.no qk
      have So := So.no qk
      have q := q.trans qk
      have hO : hzR v r g.l = if 60 < hzn v r g.l then (0, 5) else (hzn v r g.l, 0) := by unfold hzR; rw [if_pos ⟨⟨hv, hr, hgr⟩, hxy⟩]
      have hO2 : hzR v r (lowL g.l kp.l) = if 60 < hzn v r (lowL g.l kp.l) then (0, 5) else (hzn v r (lowL g.l kp.l), 0) := by unfold hzR; rw [if_pos ⟨⟨hv, hr, hlo⟩, hxy⟩]
      by_cases h9 : 60 < hzn v r g.l
      · rw [if_pos h9] at hO
        rw [hO]
        refine go T_ok 200 rfl ?_
        repeat (first | (refine guardA (b := true) rfl rfl rfl rfl (fun _ => ?_) (fun e => by cases e); refine go T_ok 200 rfl ?_) | (refine guardA (b := false) rfl rfl rfl rfl (fun e => by cases e) (fun _ => ?_); refine go T_ok 200 rfl ?_) | (refine condT rfl rfl ?_; refine go T_ok 200 rfl ?_) | (refine condF rfl rfl ?_; refine go T_ok 200 rfl ?_))
        refine go T_ok 200 rfl ?_
        repeat (first | (refine ldA T_ok rfl rfl rfl rfl rfl (Bk.all B1) ?_; refine go T_ok 200 rfl ?_) | (refine ldA T_ok rfl rfl rfl rfl rfl (Bk.all B2) ?_; refine go T_ok 200 rfl ?_) | (refine ld T_ok rfl rfl rfl rfl (Bk.get B1 rfl) ?_; refine go T_ok 200 rfl ?_) | (refine ld T_ok rfl rfl rfl rfl (Bk.get B2 rfl) ?_; refine go T_ok 200 rfl ?_) | (refine guardA (b := true) rfl rfl rfl rfl (fun _ => ?_) (fun e => by cases e); refine go T_ok 200 rfl ?_) | (refine guardA (b := false) rfl rfl rfl rfl (fun e => by cases e) (fun _ => ?_); refine go T_ok 200 rfl ?_) | (refine condT rfl rfl ?_; refine go T_ok 200 rfl ?_) | (refine condF rfl rfl ?_; refine go T_ok 200 rfl ?_))
        have yB1 := B1.lt
        have yB2 := B2.lt
        have ySg := Sg.2.1
        have ySk := Sk.2.1
        have ySo := So.2.1
        have yq := q.size
        refine nw rfl rfl (z := .agg #[I 0, I 0, I 0, I 0, I 0, I 0]) (by kernel_rfl) (cs := [I 0, I 0, I 0, I 0, I 0, I 0]) rfl ?_
        intro g3 w hg3 hs3 qk B3
        have B1 := B1.no qk
        have B2 := B2.no qk
        have Sg := Sg.no qk
        have Sk := Sk.no qk
        have So := So.no qk
        have q := q.trans qk
        refine go T_ok 200 rfl ?_
        refine stA T_ok rfl rfl rfl rfl (vs := rL r) rfl rfl rfl B3 rfl ?_
        intro w qk B3 hz3
        have B3 : Bk w g3 26 (rL r) := B3
        have B1 := Bk.keep B1 qk (by omega)
        have B2 := Bk.keep B2 qk (by omega)
        have Sg := Sl.keep Sg qk (fun k hk e => by omega)
        have Sk := Sl.keep Sk qk (fun k hk e => by omega)
        have So := Sl.keep So qk (fun k hk e => by omega)
        have q := q.step qk (fun k hk e => by omega)
        refine go T_ok 200 rfl ?_
        refine st T_ok rfl rfl rfl rfl (v := I 60) rfl rfl B3 rfl ?_
        intro w qk B3 hz3
        have B3 : Bk w g3 26 (rL (rz r 60)) := B3
        have B1 := Bk.keep B1 qk (by omega)
        have B2 := Bk.keep B2 qk (by omega)
        have Sg := Sl.keep Sg qk (fun k hk e => by omega)
        have Sk := Sl.keep Sk qk (fun k hk e => by omega)
        have So := Sl.keep So qk (fun k hk e => by omega)
        have q := q.step qk (fun k hk e => by omega)
        have hc := s1.2.2.2 (by omega)
        have hcl := clr_len.2 (show clr v r g.l 60 = false by rw [← hc]; congr 1; omega)
        have hU : unR v (rz r 60) g.l = (0, chs (cutS (und v (rz r 60) g.l) (pcs v (rz r 60)))) := by unfold unR; rw [if_pos ⟨hv, rz_ok hr hxy (by omega) (by omega), hgr⟩]
        refine go T_ok 200 rfl ?_
        repeat (first | (refine ldA T_ok rfl rfl rfl rfl rfl (Bk.all B1) ?_; refine go T_ok 200 rfl ?_) | (refine ldA T_ok rfl rfl rfl rfl rfl (Bk.all B2) ?_; refine go T_ok 200 rfl ?_) | (refine ldA T_ok rfl rfl rfl rfl rfl (Bk.all B3) ?_; refine go T_ok 200 rfl ?_) | (refine ld T_ok rfl rfl rfl rfl (Bk.get B1 rfl) ?_; refine go T_ok 200 rfl ?_) | (refine ld T_ok rfl rfl rfl rfl (Bk.get B2 rfl) ?_; refine go T_ok 200 rfl ?_) | (refine ld T_ok rfl rfl rfl rfl (Bk.get B3 rfl) ?_; refine go T_ok 200 rfl ?_) | (refine guardA (b := true) rfl rfl rfl rfl (fun _ => ?_) (fun e => by cases e); refine go T_ok 200 rfl ?_) | (refine guardA (b := false) rfl rfl rfl rfl (fun e => by cases e) (fun _ => ?_); refine go T_ok 200 rfl ?_) | (refine condT rfl rfl ?_; refine go T_ok 200 rfl ?_) | (refine condF rfl rfl ?_; refine go T_ok 200 rfl ?_))
        refine call rfl rfl rfl (ok _ (by decide) rfl) (Under_any v (rz r 60) g.l g.A g.c _ _ hg.ml Sg) ?_
        rintro x w ⟨A3, c3, e3, l3, rfl, S3, qk, j3⟩
        have B1 := B1.no qk
        have B2 := B2.no qk
        have Sg := Sg.no qk
        have Sk := Sk.no qk
        have So := So.no qk
        have B3 := B3.no qk
        have q := q.trans qk
        rw [hU] at j3
        cases j3
        refine go T_ok 200 rfl ?_
        repeat (first | (refine ldA T_ok rfl rfl rfl rfl rfl (Bk.all B1) ?_; refine go T_ok 200 rfl ?_) | (refine ldA T_ok rfl rfl rfl rfl rfl (Bk.all B2) ?_; refine go T_ok 200 rfl ?_) | (refine ldA T_ok rfl rfl rfl rfl rfl (Bk.all B3) ?_; refine go T_ok 200 rfl ?_) | (refine ld T_ok rfl rfl rfl rfl (Bk.get B1 rfl) ?_; refine go T_ok 200 rfl ?_) | (refine ld T_ok rfl rfl rfl rfl (Bk.get B2 rfl) ?_; refine go T_ok 200 rfl ?_) | (refine ld T_ok rfl rfl rfl rfl (Bk.get B3 rfl) ?_; refine go T_ok 200 rfl ?_) | (refine guardA (b := true) rfl rfl rfl rfl (fun _ => ?_) (fun e => by cases e); refine go T_ok 200 rfl ?_) | (refine guardA (b := false) rfl rfl rfl rfl (fun e => by cases e) (fun _ => ?_); refine go T_ok 200 rfl ?_) | (refine condT rfl rfl ?_; refine go T_ok 200 rfl ?_) | (refine condF rfl rfl ?_; refine go T_ok 200 rfl ?_))
        refine guardD rfl rfl rfl (fun _ => ?_) (fun h => absurd (by omega) h)
        refine go T_ok 200 rfl ?_
        repeat (first | (refine guardA (b := true) rfl rfl rfl rfl (fun _ => ?_) (fun e => by cases e); refine go T_ok 200 rfl ?_) | (refine guardA (b := false) rfl rfl rfl rfl (fun e => by cases e) (fun _ => ?_); refine go T_ok 200 rfl ?_) | (refine condT rfl rfl ?_; refine go T_ok 200 rfl ?_) | (refine condF rfl rfl ?_; refine go T_ok 200 rfl ?_))
        refine call rfl rfl rfl (ok _ (by decide) rfl) (known_any _) ?_
        rintro v wk ⟨rfl, qk⟩
        refine go T_ok 200 rfl ?_
        exact ret (ret1 (v := .bool true) Try.results6 rfl ⟨rfl, q.trans qk⟩)
      · rw [if_neg h9] at hO
        rw [if_neg (by omega)] at hO2
        rw [hO, hO2]
        refine go T_ok 200 rfl ?_
        repeat (first | (refine guardA (b := true) rfl rfl rfl rfl (fun _ => ?_) (fun e => by cases e); refine go T_ok 200 rfl ?_) | (refine guardA (b := false) rfl rfl rfl rfl (fun e => by cases e) (fun _ => ?_); refine go T_ok 200 rfl ?_) | (refine condT rfl rfl ?_; refine go T_ok 200 rfl ?_) | (refine condF rfl rfl ?_; refine go T_ok 200 rfl ?_))
        refine guardA (b := false) rfl rfl rfl (congrArg Value.bool (decide_eq_false (by omega))) (fun e => by cases e) (fun _ => ?_)
        refine go T_ok 200 rfl ?_
        repeat (first | (refine guardA (b := true) rfl rfl rfl rfl (fun _ => ?_) (fun e => by cases e); refine go T_ok 200 rfl ?_) | (refine guardA (b := false) rfl rfl rfl rfl (fun e => by cases e) (fun _ => ?_); refine go T_ok 200 rfl ?_) | (refine condT rfl rfl ?_; refine go T_ok 200 rfl ?_) | (refine condF rfl rfl ?_; refine go T_ok 200 rfl ?_))
        refine guardA (b := false) rfl rfl rfl (congrArg Value.bool (decide_eq_false (by omega))) (fun e => by cases e) (fun _ => ?_)
        refine go T_ok 200 rfl ?_
        refine condF rfl (decide_eq_false (by omega)) ?_
        refine go T_ok 200 rfl ?_
        repeat (first | (refine ldA T_ok rfl rfl rfl rfl rfl (Bk.all B1) ?_; refine go T_ok 200 rfl ?_) | (refine ldA T_ok rfl rfl rfl rfl rfl (Bk.all B2) ?_; refine go T_ok 200 rfl ?_) | (refine ld T_ok rfl rfl rfl rfl (Bk.get B1 rfl) ?_; refine go T_ok 200 rfl ?_) | (refine ld T_ok rfl rfl rfl rfl (Bk.get B2 rfl) ?_; refine go T_ok 200 rfl ?_) | (refine guardA (b := true) rfl rfl rfl rfl (fun _ => ?_) (fun e => by cases e); refine go T_ok 200 rfl ?_) | (refine guardA (b := false) rfl rfl rfl rfl (fun e => by cases e) (fun _ => ?_); refine go T_ok 200 rfl ?_) | (refine condT rfl rfl ?_; refine go T_ok 200 rfl ?_) | (refine condF rfl rfl ?_; refine go T_ok 200 rfl ?_))
        have yB1 := B1.lt
        have yB2 := B2.lt
        have ySg := Sg.2.1
        have ySk := Sk.2.1
        have ySo := So.2.1
        have yq := q.size
        refine nw rfl rfl (z := .agg #[I 0, I 0, I 0, I 0, I 0, I 0]) (by kernel_rfl) (cs := [I 0, I 0, I 0, I 0, I 0, I 0]) rfl ?_
        intro g3 w hg3 hs3 qk B3
        have B1 := B1.no qk
        have B2 := B2.no qk
        have Sg := Sg.no qk
        have Sk := Sk.no qk
        have So := So.no qk
        have q := q.trans qk
        refine go T_ok 200 rfl ?_
        refine stA T_ok rfl rfl rfl rfl (vs := rL r) rfl rfl rfl B3 rfl ?_
        intro w qk B3 hz3
        have B3 : Bk w g3 26 (rL r) := B3
        have B1 := Bk.keep B1 qk (by omega)
        have B2 := Bk.keep B2 qk (by omega)
        have Sg := Sl.keep Sg qk (fun k hk e => by omega)
        have Sk := Sl.keep Sk qk (fun k hk e => by omega)
        have So := Sl.keep So qk (fun k hk e => by omega)
        have q := q.step qk (fun k hk e => by omega)
        refine go T_ok 200 rfl ?_
        refine st T_ok rfl rfl rfl rfl (v := I (max (hzn v r g.l) stp)) rfl rfl B3 rfl ?_
        intro w qk B3 hz3
        have B3 : Bk w g3 26 (rL (rz r (max (hzn v r g.l) stp))) := B3
        have B1 := Bk.keep B1 qk (by omega)
        have B2 := Bk.keep B2 qk (by omega)
        have Sg := Sl.keep Sg qk (fun k hk e => by omega)
        have Sk := Sl.keep Sk qk (fun k hk e => by omega)
        have So := Sl.keep So qk (fun k hk e => by omega)
        have q := q.step qk (fun k hk e => by omega)
        have hc := s1.2.2.1 (max (hzn v r g.l) stp) (by omega) (by omega)
        have hcl := clr_len.1 hc
        have hU : unR v (rz r (max (hzn v r g.l) stp)) g.l = (0, chs (cutS (und v (rz r (max (hzn v r g.l) stp)) g.l) (pcs v (rz r (max (hzn v r g.l) stp))))) := by unfold unR; rw [if_pos ⟨hv, rz_ok hr hxy (by omega) (by omega), hgr⟩]
        refine go T_ok 200 rfl ?_
        repeat (first | (refine ldA T_ok rfl rfl rfl rfl rfl (Bk.all B1) ?_; refine go T_ok 200 rfl ?_) | (refine ldA T_ok rfl rfl rfl rfl rfl (Bk.all B2) ?_; refine go T_ok 200 rfl ?_) | (refine ldA T_ok rfl rfl rfl rfl rfl (Bk.all B3) ?_; refine go T_ok 200 rfl ?_) | (refine ld T_ok rfl rfl rfl rfl (Bk.get B1 rfl) ?_; refine go T_ok 200 rfl ?_) | (refine ld T_ok rfl rfl rfl rfl (Bk.get B2 rfl) ?_; refine go T_ok 200 rfl ?_) | (refine ld T_ok rfl rfl rfl rfl (Bk.get B3 rfl) ?_; refine go T_ok 200 rfl ?_) | (refine guardA (b := true) rfl rfl rfl rfl (fun _ => ?_) (fun e => by cases e); refine go T_ok 200 rfl ?_) | (refine guardA (b := false) rfl rfl rfl rfl (fun e => by cases e) (fun _ => ?_); refine go T_ok 200 rfl ?_) | (refine condT rfl rfl ?_; refine go T_ok 200 rfl ?_) | (refine condF rfl rfl ?_; refine go T_ok 200 rfl ?_))
        refine call rfl rfl rfl (ok _ (by decide) rfl) (Under_any v (rz r (max (hzn v r g.l) stp)) g.l g.A g.c _ _ hg.ml Sg) ?_
        rintro x w ⟨A3, c3, e3, l3, rfl, S3, qk, j3⟩
        have B1 := B1.no qk
        have B2 := B2.no qk
        have Sg := Sg.no qk
        have Sk := Sk.no qk
        have So := So.no qk
        have B3 := B3.no qk
        have q := q.trans qk
        rw [hU] at j3
        cases j3
        rw [hcl]
        refine go T_ok 200 rfl ?_
        repeat (first | (refine ldA T_ok rfl rfl rfl rfl rfl (Bk.all B1) ?_; refine go T_ok 200 rfl ?_) | (refine ldA T_ok rfl rfl rfl rfl rfl (Bk.all B2) ?_; refine go T_ok 200 rfl ?_) | (refine ldA T_ok rfl rfl rfl rfl rfl (Bk.all B3) ?_; refine go T_ok 200 rfl ?_) | (refine ld T_ok rfl rfl rfl rfl (Bk.get B1 rfl) ?_; refine go T_ok 200 rfl ?_) | (refine ld T_ok rfl rfl rfl rfl (Bk.get B2 rfl) ?_; refine go T_ok 200 rfl ?_) | (refine ld T_ok rfl rfl rfl rfl (Bk.get B3 rfl) ?_; refine go T_ok 200 rfl ?_) | (refine guardA (b := true) rfl rfl rfl rfl (fun _ => ?_) (fun e => by cases e); refine go T_ok 200 rfl ?_) | (refine guardA (b := false) rfl rfl rfl rfl (fun e => by cases e) (fun _ => ?_); refine go T_ok 200 rfl ?_) | (refine condT rfl rfl ?_; refine go T_ok 200 rfl ?_) | (refine condF rfl rfl ?_; refine go T_ok 200 rfl ?_))
        refine cond rfl (fun h6 => ?_) (fun h6 => ?_)
        · refine go T_ok 200 rfl ?_
          refine call rfl rfl rfl (ok _ (by decide) rfl) (known_any _) ?_
          rintro v wk ⟨rfl, qk⟩
          refine go T_ok 200 rfl ?_
          exact ret (ret1 (v := .bool true) Try.results6 rfl ⟨rfl, q.trans qk⟩)
        have h6 : hzn v r g.l ≠ -60 := by simpa using h6
        have e5 : w64 (hzn v r g.l - 1) = hzn v r g.l - 1 := w64_id (by omega) (by omega)
        refine go T_ok 200 rfl ?_
        rw [e5]
        refine st T_ok rfl rfl rfl rfl (v := I (hzn v r g.l - 1)) rfl rfl B3 rfl ?_
        intro w qk B3 hz3
        have B3 : Bk w g3 26 (rL (rz r (hzn v r g.l - 1))) := B3
        have B1 := Bk.keep B1 qk (by omega)
        have B2 := Bk.keep B2 qk (by omega)
        have Sg := Sl.keep Sg qk (fun k hk e => by omega)
        have Sk := Sl.keep Sk qk (fun k hk e => by omega)
        have So := Sl.keep So qk (fun k hk e => by omega)
        have q := q.step qk (fun k hk e => by omega)
        have hc := s1.2.2.2 (by omega)
        have hcl := clr_len.2 hc
        have hU : unR v (rz r (hzn v r g.l - 1)) g.l = (0, chs (cutS (und v (rz r (hzn v r g.l - 1)) g.l) (pcs v (rz r (hzn v r g.l - 1))))) := by unfold unR; rw [if_pos ⟨hv, rz_ok hr hxy (by omega) (by omega), hgr⟩]
        refine go T_ok 200 rfl ?_
        repeat (first | (refine ldA T_ok rfl rfl rfl rfl rfl (Bk.all B1) ?_; refine go T_ok 200 rfl ?_) | (refine ldA T_ok rfl rfl rfl rfl rfl (Bk.all B2) ?_; refine go T_ok 200 rfl ?_) | (refine ldA T_ok rfl rfl rfl rfl rfl (Bk.all B3) ?_; refine go T_ok 200 rfl ?_) | (refine ld T_ok rfl rfl rfl rfl (Bk.get B1 rfl) ?_; refine go T_ok 200 rfl ?_) | (refine ld T_ok rfl rfl rfl rfl (Bk.get B2 rfl) ?_; refine go T_ok 200 rfl ?_) | (refine ld T_ok rfl rfl rfl rfl (Bk.get B3 rfl) ?_; refine go T_ok 200 rfl ?_) | (refine guardA (b := true) rfl rfl rfl rfl (fun _ => ?_) (fun e => by cases e); refine go T_ok 200 rfl ?_) | (refine guardA (b := false) rfl rfl rfl rfl (fun e => by cases e) (fun _ => ?_); refine go T_ok 200 rfl ?_) | (refine condT rfl rfl ?_; refine go T_ok 200 rfl ?_) | (refine condF rfl rfl ?_; refine go T_ok 200 rfl ?_))
        refine call rfl rfl rfl (ok _ (by decide) rfl) (Under_any v (rz r (hzn v r g.l - 1)) g.l g.A g.c _ _ hg.ml Sg) ?_
        rintro x w ⟨A3, c3, e3, l3, rfl, S3, qk, j3⟩
        have B1 := B1.no qk
        have B2 := B2.no qk
        have Sg := Sg.no qk
        have Sk := Sk.no qk
        have So := So.no qk
        have B3 := B3.no qk
        have q := q.trans qk
        rw [hU] at j3
        cases j3
        refine go T_ok 200 rfl ?_
        repeat (first | (refine ldA T_ok rfl rfl rfl rfl rfl (Bk.all B1) ?_; refine go T_ok 200 rfl ?_) | (refine ldA T_ok rfl rfl rfl rfl rfl (Bk.all B2) ?_; refine go T_ok 200 rfl ?_) | (refine ldA T_ok rfl rfl rfl rfl rfl (Bk.all B3) ?_; refine go T_ok 200 rfl ?_) | (refine ld T_ok rfl rfl rfl rfl (Bk.get B1 rfl) ?_; refine go T_ok 200 rfl ?_) | (refine ld T_ok rfl rfl rfl rfl (Bk.get B2 rfl) ?_; refine go T_ok 200 rfl ?_) | (refine ld T_ok rfl rfl rfl rfl (Bk.get B3 rfl) ?_; refine go T_ok 200 rfl ?_) | (refine guardA (b := true) rfl rfl rfl rfl (fun _ => ?_) (fun e => by cases e); refine go T_ok 200 rfl ?_) | (refine guardA (b := false) rfl rfl rfl rfl (fun e => by cases e) (fun _ => ?_); refine go T_ok 200 rfl ?_) | (refine condT rfl rfl ?_; refine go T_ok 200 rfl ?_) | (refine condF rfl rfl ?_; refine go T_ok 200 rfl ?_))
        refine guardD rfl rfl rfl (fun _ => ?_) (fun h => absurd (by omega) h)
        refine go T_ok 200 rfl ?_
        repeat (first | (refine guardA (b := true) rfl rfl rfl rfl (fun _ => ?_) (fun e => by cases e); refine go T_ok 200 rfl ?_) | (refine guardA (b := false) rfl rfl rfl rfl (fun e => by cases e) (fun _ => ?_); refine go T_ok 200 rfl ?_) | (refine condT rfl rfl ?_; refine go T_ok 200 rfl ?_) | (refine condF rfl rfl ?_; refine go T_ok 200 rfl ?_))
        refine call rfl rfl rfl (ok _ (by decide) rfl) (known_any _) ?_
        rintro v wk ⟨rfl, qk⟩
        refine go T_ok 200 rfl ?_
        exact ret (ret1 (v := .bool true) Try.results6 rfl ⟨rfl, q.trans qk⟩)
end Go.Proofs.Ytkkjfjeniaiaiaa
