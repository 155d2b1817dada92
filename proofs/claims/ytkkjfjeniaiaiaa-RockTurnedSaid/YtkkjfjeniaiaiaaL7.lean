/- The walk of RockTurned. -/
import Derived.Test.YtkkjfjeniaiaiaaL3
import Derived.Test.YtkkjfjeniaiaiaaS5
namespace Go.Proofs.Ytkkjfjeniaiaiaa
open Go.Ev Go.Proofs Go.Rock
attribute [local irreducible] At AtH
def mirH (v : Vo) (p : Int × Int) : Int × Int := (mirC v p.1, p.2)
theorem chs_turn (v : Vo) (l : List Pc) : chs (l.map (mirT v)) = (chs l).map (mirH v) := by
  unfold chs
  rw [List.map_map, List.map_map]
  rfl
set_option maxRecDepth 20000 in
set_option maxHeartbeats 8000000 in
theorem walk_RockTurned (v : Vo) (r : Ra) (w0 : World) (_hv : VoI v) (_hr : RaI r) :
    Ret Try.prog 7 [.agg (vL v).toArray, .agg (rL r).toArray] w0 fun x w' => x = .bool true ∧ Chg No w0 w' := by
  refine enter Try.func7 rfl Try.ntmps7 rfl ?_
  refine go T_ok 200 rfl ?_
  refine bx rfl rfl rfl (cs := vL v) rfl ?_
  intro g1 u1 hg1 hs1 q1 B1
  refine go T_ok 200 rfl ?_
  refine bx rfl rfl rfl (cs := rL r) rfl ?_
  intro g2 u2 hg2 hs2 q2 B2
  have hg12 : g1 < g2 := by have := B1.lt; omega
  have B1 := B1.no q2
  have q := q1.trans q2
  refine go T_ok 200 rfl ?_
  repeat (first | (refine ldA T_ok rfl rfl rfl rfl rfl (Bk.all B1) ?_; refine go T_ok 200 rfl ?_) | (refine ldA T_ok rfl rfl rfl rfl rfl (Bk.all B2) ?_; refine go T_ok 200 rfl ?_) | (refine ld T_ok rfl rfl rfl rfl (Bk.get B1 rfl) ?_; refine go T_ok 200 rfl ?_) | (refine ld T_ok rfl rfl rfl rfl (Bk.get B2 rfl) ?_; refine go T_ok 200 rfl ?_) | (refine guardA (b := true) rfl rfl rfl rfl (fun _ => ?_) (fun e => by cases e); refine go T_ok 200 rfl ?_) | (refine guardA (b := false) rfl rfl rfl rfl (fun e => by cases e) (fun _ => ?_); refine go T_ok 200 rfl ?_) | (refine condT rfl rfl ?_; refine go T_ok 200 rfl ?_) | (refine condF rfl rfl ?_; refine go T_ok 200 rfl ?_))
  refine call rfl rfl rfl (ok _ (by decide) rfl) (rVolume_any v _) ?_
  rintro x w ⟨rfl, qk⟩
  have B1 := B1.no qk
  have B2 := B2.no qk
  have q := q.trans qk
  by_cases hv : VoOk v
  case neg =>
    rw [decide_eq_false hv]
    refine go T_ok 200 rfl ?_
    repeat (first | (refine guardA (b := true) rfl rfl rfl rfl (fun _ => ?_) (fun e => by cases e); refine go T_ok 200 rfl ?_) | (refine guardA (b := false) rfl rfl rfl rfl (fun e => by cases e) (fun _ => ?_); refine go T_ok 200 rfl ?_) | (refine condT rfl rfl ?_; refine go T_ok 200 rfl ?_) | (refine condF rfl rfl ?_; refine go T_ok 200 rfl ?_))
    refine call rfl rfl rfl (ok _ (by decide) rfl) (known_any _) ?_
    rintro v wk ⟨rfl, qk⟩
    refine go T_ok 200 rfl ?_
    exact ret (ret1 (v := .bool true) Try.results7 rfl ⟨rfl, q.trans qk⟩)
  rw [decide_eq_true hv]
  refine go T_ok 200 rfl ?_
  repeat (first | (refine ldA T_ok rfl rfl rfl rfl rfl (Bk.all B1) ?_; refine go T_ok 200 rfl ?_) | (refine ldA T_ok rfl rfl rfl rfl rfl (Bk.all B2) ?_; refine go T_ok 200 rfl ?_) | (refine ld T_ok rfl rfl rfl rfl (Bk.get B1 rfl) ?_; refine go T_ok 200 rfl ?_) | (refine ld T_ok rfl rfl rfl rfl (Bk.get B2 rfl) ?_; refine go T_ok 200 rfl ?_) | (refine guardA (b := true) rfl rfl rfl rfl (fun _ => ?_) (fun e => by cases e); refine go T_ok 200 rfl ?_) | (refine guardA (b := false) rfl rfl rfl rfl (fun e => by cases e) (fun _ => ?_); refine go T_ok 200 rfl ?_) | (refine condT rfl rfl ?_; refine go T_ok 200 rfl ?_) | (refine condF rfl rfl ?_; refine go T_ok 200 rfl ?_))
  refine call rfl rfl rfl (ok _ (by decide) rfl) (rRay_any r _) ?_
  rintro x w ⟨rfl, qk⟩
  have B1 := B1.no qk
  have B2 := B2.no qk
  have q := q.trans qk
  by_cases hr : RaOk r
  case neg =>
    rw [decide_eq_false hr]
    refine go T_ok 200 rfl ?_
    repeat (first | (refine guardA (b := true) rfl rfl rfl rfl (fun _ => ?_) (fun e => by cases e); refine go T_ok 200 rfl ?_) | (refine guardA (b := false) rfl rfl rfl rfl (fun e => by cases e) (fun _ => ?_); refine go T_ok 200 rfl ?_) | (refine condT rfl rfl ?_; refine go T_ok 200 rfl ?_) | (refine condF rfl rfl ?_; refine go T_ok 200 rfl ?_))
    refine call rfl rfl rfl (ok _ (by decide) rfl) (known_any _) ?_
    rintro v wk ⟨rfl, qk⟩
    refine go T_ok 200 rfl ?_
    exact ret (ret1 (v := .bool true) Try.results7 rfl ⟨rfl, q.trans qk⟩)
  rw [decide_eq_true hr]
  have hvo := hv
  unfold VoOk at hvo
  have hro := hr
  unfold RaOk at hro
  have m1 := mul_bd (a := v.nx) (b := v.sz) (A := 12) (B := 1000) (by omega) (by omega) (by omega) (by omega)
  have e1 : w64 (v.nx * v.sz) = v.nx * v.sz := w64_id (by omega) (by omega)
  have e2 : w64 (v.nx * v.sz - r.x) = v.nx * v.sz - r.x := w64_id (by omega) (by omega)
  have e3 : w64 (0 - r.dx) = -r.dx := by rw [w64_id (by omega) (by omega)]; omega
  refine go T_ok 200 rfl ?_
  repeat (first | (refine ldA T_ok rfl rfl rfl rfl rfl (Bk.all B1) ?_; refine go T_ok 200 rfl ?_) | (refine ldA T_ok rfl rfl rfl rfl rfl (Bk.all B2) ?_; refine go T_ok 200 rfl ?_) | (refine ld T_ok rfl rfl rfl rfl (Bk.get B1 rfl) ?_; refine go T_ok 200 rfl ?_) | (refine ld T_ok rfl rfl rfl rfl (Bk.get B2 rfl) ?_; refine go T_ok 200 rfl ?_) | (refine guardA (b := true) rfl rfl rfl rfl (fun _ => ?_) (fun e => by cases e); refine go T_ok 200 rfl ?_) | (refine guardA (b := false) rfl rfl rfl rfl (fun e => by cases e) (fun _ => ?_); refine go T_ok 200 rfl ?_) | (refine condT rfl rfl ?_; refine go T_ok 200 rfl ?_) | (refine condF rfl rfl ?_; refine go T_ok 200 rfl ?_))
  refine guard rfl rfl rfl (fun hx => ?_) (fun hx => ?_)
  · have hx : r.dx = 0 := by simpa using hx
    refine go T_ok 200 rfl ?_
    repeat (first | (refine ldA T_ok rfl rfl rfl rfl rfl (Bk.all B1) ?_; refine go T_ok 200 rfl ?_) | (refine ldA T_ok rfl rfl rfl rfl rfl (Bk.all B2) ?_; refine go T_ok 200 rfl ?_) | (refine ld T_ok rfl rfl rfl rfl (Bk.get B1 rfl) ?_; refine go T_ok 200 rfl ?_) | (refine ld T_ok rfl rfl rfl rfl (Bk.get B2 rfl) ?_; refine go T_ok 200 rfl ?_) | (refine guardA (b := true) rfl rfl rfl rfl (fun _ => ?_) (fun e => by cases e); refine go T_ok 200 rfl ?_) | (refine guardA (b := false) rfl rfl rfl rfl (fun e => by cases e) (fun _ => ?_); refine go T_ok 200 rfl ?_) | (refine condT rfl rfl ?_; refine go T_ok 200 rfl ?_) | (refine condF rfl rfl ?_; refine go T_ok 200 rfl ?_))
    refine rem rfl rfl rfl rfl (by omega) ?_
    refine go T_ok 200 rfl ?_
    refine cond rfl (fun hy => ?_) (fun hy => ?_)
    · refine go T_ok 200 rfl ?_
      refine call rfl rfl rfl (ok _ (by decide) rfl) (known_any _) ?_
      rintro v wk ⟨rfl, qk⟩
      refine go T_ok 200 rfl ?_
      exact ret (ret1 (v := .bool true) Try.results7 rfl ⟨rfl, q.trans qk⟩)
    · have hdv : r.dx = 0 → ¬ v.sz ∣ r.x := fun _ hd => by
        have : r.x.tmod v.sz ≠ 0 := by simpa using hy
        exact this (Int.tmod_eq_zero_of_dvd hd)
      have yq := q.size
      refine go T_ok 200 rfl ?_
      repeat (first | (refine ldA T_ok rfl rfl rfl rfl rfl (Bk.all B1) ?_; refine go T_ok 200 rfl ?_) | (refine ldA T_ok rfl rfl rfl rfl rfl (Bk.all B2) ?_; refine go T_ok 200 rfl ?_) | (refine ld T_ok rfl rfl rfl rfl (Bk.get B1 rfl) ?_; refine go T_ok 200 rfl ?_) | (refine ld T_ok rfl rfl rfl rfl (Bk.get B2 rfl) ?_; refine go T_ok 200 rfl ?_) | (refine guardA (b := true) rfl rfl rfl rfl (fun _ => ?_) (fun e => by cases e); refine go T_ok 200 rfl ?_) | (refine guardA (b := false) rfl rfl rfl rfl (fun e => by cases e) (fun _ => ?_); refine go T_ok 200 rfl ?_) | (refine condT rfl rfl ?_; refine go T_ok 200 rfl ?_) | (refine condF rfl rfl ?_; refine go T_ok 200 rfl ?_))
      have yB1 := B1.lt
      have yB2 := B2.lt
      have yq := q.size
      refine nw rfl rfl (z := .agg #[I 0, I 0, I 0, I 0, I 0, I 0]) (by kernel_rfl) (cs := [I 0, I 0, I 0, I 0, I 0, I 0]) rfl ?_
      intro g3 w hg3 hs3 qk B3
      have B1 := B1.no qk
      have B2 := B2.no qk
      have q := q.trans qk
      refine go T_ok 200 rfl ?_
      refine stA T_ok rfl rfl rfl rfl (vs := rL r) rfl rfl rfl B3 rfl ?_
      intro w qk B3 hz3
      have B3 : Bk w g3 26 (rL r) := B3
      have B1 := Bk.keep B1 qk (by omega)
      have B2 := Bk.keep B2 qk (by omega)
      have q := q.step qk (fun k hk e => by omega)
      refine go T_ok 200 rfl ?_
      refine draw mixed (fun w' => Chg (fun k => k = g3) w w') ([0,1,2,3,4,5,6,7,8,9,10,11].map (fun i => (i, true)) ++ [(12, false)] ++ [13].map (fun i => (i, true)) ++ [(14, false)]) rfl (by kernel_rfl) ((Chg.drew _).mono (fun _ _ h => h.elim)) ?_
      have y1 := B1.lt
      have y2 := B2.lt
      refine goH T_ok 200 rfl ?_
      repeat (first | (refine quietH rfl (fun w' hS => r_load T_ok rfl rfl rfl (Bk.get (B1.keep hS (by omega)) rfl)) ?_; refine goH T_ok 200 rfl ?_) | (refine quietH rfl (fun w' hS => r_load T_ok rfl rfl rfl (Bk.get (B2.keep hS (by omega)) rfl)) ?_; refine goH T_ok 200 rfl ?_))
      rw [e1, e2, e3]
      have B3 := B3.no (Chg.drew w)
      have qd : Chg (fun k => k = g3) w w.drew := (Chg.drew _).mono (fun _ _ h => h.elim)
      refine storeE T_ok rfl rfl rfl rfl (v := I (v.nx * v.sz - r.x)) rfl rfl B3 rfl ?_
      intro w1 p5 B3 hz5
      have qd := qd.trans p5
      refine ⟨qd, ?_⟩
      refine goH T_ok 200 rfl ?_
      refine storeE T_ok rfl rfl rfl rfl (v := I (-r.dx)) rfl rfl B3 rfl ?_
      intro w1 p5 B3 hz5
      have qd := qd.trans p5
      refine ⟨qd, ?_⟩
      refine goH T_ok 200 rfl ?_
      refine endH ?_
      have B3 : Bk w1 g3 26 (rL (rT v r)) := B3
      have qk := qd
      have B1 := Bk.keep B1 qk (by omega)
      have B2 := Bk.keep B2 qk (by omega)
      have q := q.step qk (fun k hk e => by omega)
      clear qd
      refine go T_ok 200 rfl ?_
      refine ldA T_ok rfl rfl rfl rfl rfl B3.all ?_
      refine go T_ok 200 rfl ?_
      refine call rfl rfl rfl (ok _ (by decide) rfl) (rRay_any (rT v r) _) ?_
      rintro x w ⟨rfl, qk⟩
      have B1 := B1.no qk
      have B2 := B2.no qk
      have B3 := B3.no qk
      have q := q.trans qk
      by_cases hr2 : RaOk (rT v r)
      case neg =>
        rw [decide_eq_false hr2]
        refine go T_ok 200 rfl ?_
        repeat (first | (refine guardA (b := true) rfl rfl rfl rfl (fun _ => ?_) (fun e => by cases e); refine go T_ok 200 rfl ?_) | (refine guardA (b := false) rfl rfl rfl rfl (fun e => by cases e) (fun _ => ?_); refine go T_ok 200 rfl ?_) | (refine condT rfl rfl ?_; refine go T_ok 200 rfl ?_) | (refine condF rfl rfl ?_; refine go T_ok 200 rfl ?_))
        refine call rfl rfl rfl (ok _ (by decide) rfl) (known_any _) ?_
        rintro v wk ⟨rfl, qk⟩
        refine go T_ok 200 rfl ?_
        exact ret (ret1 (v := .bool true) Try.results7 rfl ⟨rfl, q.trans qk⟩)
      rw [decide_eq_true hr2]
      have k1 : chR v r = (0, chs (pcs v r)) := by unfold chR; rw [if_pos ⟨hv, hr⟩]
      have k2 : chR v (rT v r) = (0, (chs (pcs v r)).map (mirH v)) := by unfold chR; rw [if_pos ⟨hv, hr2⟩, pcs_turn hv hdv, chs_turn]
      have n1 : (chs (pcs v r)).length ≤ 40 := by rw [chs_len]; exact pcs_len r hv
      have d1 : ∀ p ∈ chs (pcs v r), 0 ≤ p.1 ∧ p.1 < 600 := by
        intro p hp
        obtain ⟨q, hq, rfl⟩ := List.mem_map.1 hp
        have h := mem_pcs hv hq
        have := vo_xyz hv
        show 0 ≤ q.c ∧ q.c < 600
        omega
      generalize chs (pcs v r) = L1 at k1 k2 d1 n1
      refine go T_ok 200 rfl ?_
      repeat (first | (refine ldA T_ok rfl rfl rfl rfl rfl (Bk.all B1) ?_; refine go T_ok 200 rfl ?_) | (refine ldA T_ok rfl rfl rfl rfl rfl (Bk.all B2) ?_; refine go T_ok 200 rfl ?_) | (refine ldA T_ok rfl rfl rfl rfl rfl (Bk.all B3) ?_; refine go T_ok 200 rfl ?_) | (refine ld T_ok rfl rfl rfl rfl (Bk.get B1 rfl) ?_; refine go T_ok 200 rfl ?_) | (refine ld T_ok rfl rfl rfl rfl (Bk.get B2 rfl) ?_; refine go T_ok 200 rfl ?_) | (refine ld T_ok rfl rfl rfl rfl (Bk.get B3 rfl) ?_; refine go T_ok 200 rfl ?_) | (refine guardA (b := true) rfl rfl rfl rfl (fun _ => ?_) (fun e => by cases e); refine go T_ok 200 rfl ?_) | (refine guardA (b := false) rfl rfl rfl rfl (fun e => by cases e) (fun _ => ?_); refine go T_ok 200 rfl ?_) | (refine condT rfl rfl ?_; refine go T_ok 200 rfl ?_) | (refine condF rfl rfl ?_; refine go T_ok 200 rfl ?_))
      refine call rfl rfl rfl (ok _ (by decide) rfl) (Chords_any v r _) ?_
      rintro x w ⟨A1, c1, e1, l1, rfl, S1, qk, j1⟩
      have B1 := B1.no qk
      have B2 := B2.no qk
      have B3 := B3.no qk
      have q := q.trans qk
      rw [k1] at j1
      cases j1
      refine go T_ok 200 rfl ?_
      refine ldA T_ok rfl rfl rfl rfl rfl B1.all ?_
      refine go T_ok 200 rfl ?_
      refine ldA T_ok rfl rfl rfl rfl rfl B3.all ?_
      refine go T_ok 200 rfl ?_
      refine call rfl rfl rfl (ok _ (by decide) rfl) (Chords_any v (rT v r) _) ?_
      rintro x w ⟨A2, c2, e2, l2, rfl, S2, qk, j2⟩
      have B1 := B1.no qk
      have B2 := B2.no qk
      have B3 := B3.no qk
      have S1 := S1.no qk
      have q := q.trans qk
      rw [k2] at j2
      cases j2
      have z1 : (L1.map (mirH v)).length = L1.length := List.length_map ..
      refine go T_ok 200 rfl ?_
      repeat (first | (refine guardA (b := true) rfl rfl rfl rfl (fun _ => ?_) (fun e => by cases e); refine go T_ok 200 rfl ?_) | (refine guardA (b := false) rfl rfl rfl rfl (fun e => by cases e) (fun _ => ?_); refine go T_ok 200 rfl ?_) | (refine condT rfl rfl ?_; refine go T_ok 200 rfl ?_) | (refine condF rfl rfl ?_; refine go T_ok 200 rfl ?_))
      refine condF rfl (by rw [z1]; simp) ?_
      refine go T_ok 200 rfl ?_
      refine loop [2, 6, 8, 10] (fun j : Nat => [.pointer (some ⟨g1, 0, none⟩), .slice A1 L1.length c1, .slice A2 (L1.map (mirH v)).length c2, .int .i64 (j : Int)])
        (fun j w' => j ≤ L1.length ∧ Chg No w w') (fun j => L1.length - j) 0 (fun _ => rfl) rfl ⟨by omega, Chg.refl _ _⟩ ?_
      rintro j τ w ⟨hj, qk⟩
      have p := qk
      have B1 := B1.no qk
      have S1 := S1.no qk
      have S2 := S2.no qk
      have q := q.trans qk
      refine go T_ok 200 rfl ?_
      refine condD rfl (fun hlt => ?_) (fun hlt => ?_)
      · have hlt : j < L1.length := by omega
        obtain ⟨x, hx⟩ : ∃ x, L1[j]? = some x := ⟨_, List.getElem?_eq_getElem hlt⟩
        have hy : (L1.map (mirH v))[j]? = some (mirH v x) := by rw [List.getElem?_map, hx]; rfl
        obtain ⟨bx_, ox, hAx, hbx, hcx⟩ := S1.el cL_len hx
        obtain ⟨by_, oy, hAy, hby, hcy⟩ := S2.el cL_len hy
        have hlx : bx_ < w.heap.size := Nat.lt_of_lt_of_le hbx S1.2.1
        have hly : by_ < w.heap.size := Nat.lt_of_lt_of_le hby S2.2.1
        have kx : ∀ (n : Nat) (z : Value), nth? (cL x) n = some z → ∀ w', Chg No w w' → w'.cell? ⟨bx_, ox + j * 2 + n, none⟩ = some z := fun n z hz w' hS => (hS.cell (a := ⟨bx_, ox + j * 2 + n, none⟩) hlx (fun h => h)).trans (hcx.get hz)
        have ky : ∀ (n : Nat) (z : Value), nth? (cL (mirH v x)) n = some z → ∀ w', Chg No w w' → w'.cell? ⟨by_, oy + j * 2 + n, none⟩ = some z := fun n z hz w' hS => (hS.cell (a := ⟨by_, oy + j * 2 + n, none⟩) hly (fun h => h)).trans (hcy.get hz)
        have hx0 := d1 x (List.mem_of_getElem? hx)
        have t1 := Int.emod_nonneg x.1 (by omega : v.nx ≠ 0)
        have t2 := Int.emod_lt_of_pos x.1 (by omega : 0 < v.nx)
        have f1 : w64 (x.1 - x.1 % v.nx) = x.1 - x.1 % v.nx := w64_id (by omega) (by omega)
        have f2 : w64 (x.1 - x.1 % v.nx + v.nx) = x.1 - x.1 % v.nx + v.nx := w64_id (by omega) (by omega)
        have f3 : w64 (x.1 - x.1 % v.nx + v.nx - 1) = x.1 - x.1 % v.nx + v.nx - 1 := w64_id (by omega) (by omega)
        have f4 : w64 (x.1 - x.1 % v.nx + v.nx - 1 - x.1 % v.nx) = mirC v x.1 := w64_id (by omega) (by omega)
        have e8 : w64 ((j : Int) + 1) = ((j + 1 : Nat) : Int) := w64_id (by omega) (by omega)
        have hly2 : j < (L1.map (mirH v)).length := by rw [List.length_map]; exact hlt
        rw [hAx, hAy]
        refine go T_ok 200 rfl ?_
        refine draw mixed (fun w' => Chg No w w') ([0,1,2,3,4,5,6,7,8].map (fun i => (i, true))) rfl (by kernel_rfl) (Chg.drew _) ?_
        refine goH T_ok 200 rfl ?_
        refine quietH rfl (fun w' hS => r_idx T_ok rfl rfl rfl rfl j rfl hlt) ?_
        refine goH T_ok 200 rfl ?_
        refine quietH rfl (fun w' hS => r_load T_ok rfl rfl rfl (kx 0 _ rfl w' hS)) ?_
        refine goH T_ok 200 rfl ?_
        refine goH T_ok 200 rfl ?_
        repeat (first | (refine quietH rfl (fun w' hS => r_load T_ok rfl rfl rfl (Bk.get (B1.no hS) rfl)) ?_; refine goH T_ok 200 rfl ?_))
        refine quietH rfl (fun w' hS => by rw [r_rem rfl rfl rfl (by omega), Int.tmod_eq_emod_of_nonneg hx0.1]) ?_
        refine goH T_ok 200 rfl ?_
        refine endH ?_
        have kx := fun n z hz w' hS => kx n z hz w' ((Chg.drew w).trans hS)
        have ky := fun n z hz w' hS => ky n z hz w' ((Chg.drew w).trans hS)
        have qk := Chg.drew w
        have B1 := B1.no qk
        have S1 := S1.no qk
        have S2 := S2.no qk
        have p := p.no qk
        have q := q.trans qk
        generalize w.drew = w at *
        refine go T_ok 200 rfl ?_
        refine draw mixed (fun w' => Chg No w w') ([0,1,2,3,4,5,6,7,8,9,10,11,12,13,14,15,16,17,18,19,20,21,22,23,24,25,26,27,28,29,30,31].map (fun i => (i, true))) rfl (by kernel_rfl) (Chg.drew _) ?_
        refine goH T_ok 200 rfl ?_
        refine quietH rfl (fun w' hS => r_idx T_ok rfl rfl rfl rfl j rfl hly2) ?_
        refine goH T_ok 200 rfl ?_
        refine quietH rfl (fun w' hS => r_load T_ok rfl rfl rfl (ky 1 _ rfl w' hS)) ?_
        refine goH T_ok 200 rfl ?_
        refine quietH rfl (fun w' hS => r_idx T_ok rfl rfl rfl rfl j rfl hlt) ?_
        refine goH T_ok 200 rfl ?_
        refine quietH rfl (fun w' hS => r_load T_ok rfl rfl rfl (kx 1 _ rfl w' hS)) ?_
        refine goH T_ok 200 rfl ?_
        refine guardH (b := false) rfl rfl (congrArg Value.bool (by simp [mirH])) (fun h => by cases h) (fun _ => ?_)
        refine goH T_ok 200 rfl ?_
        refine quietH rfl (fun w' hS => r_idx T_ok rfl rfl rfl rfl j rfl hly2) ?_
        refine goH T_ok 200 rfl ?_
        refine quietH rfl (fun w' hS => r_load T_ok rfl rfl rfl (ky 0 _ rfl w' hS)) ?_
        refine goH T_ok 200 rfl ?_
        refine quietH rfl (fun w' hS => r_idx T_ok rfl rfl rfl rfl j rfl hlt) ?_
        refine goH T_ok 200 rfl ?_
        refine quietH rfl (fun w' hS => r_load T_ok rfl rfl rfl (kx 0 _ rfl w' hS)) ?_
        refine goH T_ok 200 rfl ?_
        rw [f1]
        refine goH T_ok 200 rfl ?_
        repeat (first | (refine quietH rfl (fun w' hS => r_load T_ok rfl rfl rfl (Bk.get (B1.no hS) rfl)) ?_; refine goH T_ok 200 rfl ?_))
        rw [f2, f3, f4]
        refine endH ?_
        have qk := Chg.drew w
        have B1 := B1.no qk
        have S1 := S1.no qk
        have S2 := S2.no qk
        have p := p.no qk
        have q := q.trans qk
        refine go T_ok 200 rfl ?_
        refine condF rfl (by simp [mirH]) ?_
        refine go T_ok 200 rfl ?_
        rw [e8]
        exact round ⟨j + 1, rfl, ⟨by omega, p⟩, by omega⟩
      · refine go T_ok 200 rfl ?_
        refine call rfl rfl rfl (ok _ (by decide) rfl) (known_any _) ?_
        rintro v wk ⟨rfl, qk⟩
        refine go T_ok 200 rfl ?_
        exact ret (ret1 (v := .bool true) Try.results7 rfl ⟨rfl, q.trans qk⟩)
  · have hdv : r.dx = 0 → ¬ v.sz ∣ r.x := fun h => absurd h (by simpa using hx)
    have yq := q.size
    refine go T_ok 200 rfl ?_
    repeat (first | (refine ldA T_ok rfl rfl rfl rfl rfl (Bk.all B1) ?_; refine go T_ok 200 rfl ?_) | (refine ldA T_ok rfl rfl rfl rfl rfl (Bk.all B2) ?_; refine go T_ok 200 rfl ?_) | (refine ld T_ok rfl rfl rfl rfl (Bk.get B1 rfl) ?_; refine go T_ok 200 rfl ?_) | (refine ld T_ok rfl rfl rfl rfl (Bk.get B2 rfl) ?_; refine go T_ok 200 rfl ?_) | (refine guardA (b := true) rfl rfl rfl rfl (fun _ => ?_) (fun e => by cases e); refine go T_ok 200 rfl ?_) | (refine guardA (b := false) rfl rfl rfl rfl (fun e => by cases e) (fun _ => ?_); refine go T_ok 200 rfl ?_) | (refine condT rfl rfl ?_; refine go T_ok 200 rfl ?_) | (refine condF rfl rfl ?_; refine go T_ok 200 rfl ?_))
    have yB1 := B1.lt
    have yB2 := B2.lt
    have yq := q.size
    refine nw rfl rfl (z := .agg #[I 0, I 0, I 0, I 0, I 0, I 0]) (by kernel_rfl) (cs := [I 0, I 0, I 0, I 0, I 0, I 0]) rfl ?_
    intro g3 w hg3 hs3 qk B3
    have B1 := B1.no qk
    have B2 := B2.no qk
    have q := q.trans qk
    refine go T_ok 200 rfl ?_
    refine stA T_ok rfl rfl rfl rfl (vs := rL r) rfl rfl rfl B3 rfl ?_
    intro w qk B3 hz3
    have B3 : Bk w g3 26 (rL r) := B3
    have B1 := Bk.keep B1 qk (by omega)
    have B2 := Bk.keep B2 qk (by omega)
    have q := q.step qk (fun k hk e => by omega)
    refine go T_ok 200 rfl ?_
    refine draw mixed (fun w' => Chg (fun k => k = g3) w w') ([0,1,2,3,4,5,6,7,8,9,10,11].map (fun i => (i, true)) ++ [(12, false)] ++ [13].map (fun i => (i, true)) ++ [(14, false)]) rfl (by kernel_rfl) ((Chg.drew _).mono (fun _ _ h => h.elim)) ?_
    have y1 := B1.lt
    have y2 := B2.lt
    refine goH T_ok 200 rfl ?_
    repeat (first | (refine quietH rfl (fun w' hS => r_load T_ok rfl rfl rfl (Bk.get (B1.keep hS (by omega)) rfl)) ?_; refine goH T_ok 200 rfl ?_) | (refine quietH rfl (fun w' hS => r_load T_ok rfl rfl rfl (Bk.get (B2.keep hS (by omega)) rfl)) ?_; refine goH T_ok 200 rfl ?_))
    rw [e1, e2, e3]
    have B3 := B3.no (Chg.drew w)
    have qd : Chg (fun k => k = g3) w w.drew := (Chg.drew _).mono (fun _ _ h => h.elim)
    refine storeE T_ok rfl rfl rfl rfl (v := I (v.nx * v.sz - r.x)) rfl rfl B3 rfl ?_
    intro w1 p5 B3 hz5
    have qd := qd.trans p5
    refine ⟨qd, ?_⟩
    refine goH T_ok 200 rfl ?_
    refine storeE T_ok rfl rfl rfl rfl (v := I (-r.dx)) rfl rfl B3 rfl ?_
    intro w1 p5 B3 hz5
    have qd := qd.trans p5
    refine ⟨qd, ?_⟩
    refine goH T_ok 200 rfl ?_
    refine endH ?_
    have B3 : Bk w1 g3 26 (rL (rT v r)) := B3
    have qk := qd
    have B1 := Bk.keep B1 qk (by omega)
    have B2 := Bk.keep B2 qk (by omega)
    have q := q.step qk (fun k hk e => by omega)
    clear qd
    refine go T_ok 200 rfl ?_
    refine ldA T_ok rfl rfl rfl rfl rfl B3.all ?_
    refine go T_ok 200 rfl ?_
    refine call rfl rfl rfl (ok _ (by decide) rfl) (rRay_any (rT v r) _) ?_
    rintro x w ⟨rfl, qk⟩
    have B1 := B1.no qk
    have B2 := B2.no qk
    have B3 := B3.no qk
    have q := q.trans qk
    by_cases hr2 : RaOk (rT v r)
    case neg =>
      rw [decide_eq_false hr2]
      refine go T_ok 200 rfl ?_
      repeat (first | (refine guardA (b := true) rfl rfl rfl rfl (fun _ => ?_) (fun e => by cases e); refine go T_ok 200 rfl ?_) | (refine guardA (b := false) rfl rfl rfl rfl (fun e => by cases e) (fun _ => ?_); refine go T_ok 200 rfl ?_) | (refine condT rfl rfl ?_; refine go T_ok 200 rfl ?_) | (refine condF rfl rfl ?_; refine go T_ok 200 rfl ?_))
      refine call rfl rfl rfl (ok _ (by decide) rfl) (known_any _) ?_
      rintro v wk ⟨rfl, qk⟩
      refine go T_ok 200 rfl ?_
      exact ret (ret1 (v := .bool true) Try.results7 rfl ⟨rfl, q.trans qk⟩)
    rw [decide_eq_true hr2]
    have k1 : chR v r = (0, chs (pcs v r)) := by unfold chR; rw [if_pos ⟨hv, hr⟩]
    have k2 : chR v (rT v r) = (0, (chs (pcs v r)).map (mirH v)) := by unfold chR; rw [if_pos ⟨hv, hr2⟩, pcs_turn hv hdv, chs_turn]
    have n1 : (chs (pcs v r)).length ≤ 40 := by rw [chs_len]; exact pcs_len r hv
    have d1 : ∀ p ∈ chs (pcs v r), 0 ≤ p.1 ∧ p.1 < 600 := by
      intro p hp
      obtain ⟨q, hq, rfl⟩ := List.mem_map.1 hp
      have h := mem_pcs hv hq
      have := vo_xyz hv
      show 0 ≤ q.c ∧ q.c < 600
      omega
    generalize chs (pcs v r) = L1 at k1 k2 d1 n1
    refine go T_ok 200 rfl ?_
    repeat (first | (refine ldA T_ok rfl rfl rfl rfl rfl (Bk.all B1) ?_; refine go T_ok 200 rfl ?_) | (refine ldA T_ok rfl rfl rfl rfl rfl (Bk.all B2) ?_; refine go T_ok 200 rfl ?_) | (refine ldA T_ok rfl rfl rfl rfl rfl (Bk.all B3) ?_; refine go T_ok 200 rfl ?_) | (refine ld T_ok rfl rfl rfl rfl (Bk.get B1 rfl) ?_; refine go T_ok 200 rfl ?_) | (refine ld T_ok rfl rfl rfl rfl (Bk.get B2 rfl) ?_; refine go T_ok 200 rfl ?_) | (refine ld T_ok rfl rfl rfl rfl (Bk.get B3 rfl) ?_; refine go T_ok 200 rfl ?_) | (refine guardA (b := true) rfl rfl rfl rfl (fun _ => ?_) (fun e => by cases e); refine go T_ok 200 rfl ?_) | (refine guardA (b := false) rfl rfl rfl rfl (fun e => by cases e) (fun _ => ?_); refine go T_ok 200 rfl ?_) | (refine condT rfl rfl ?_; refine go T_ok 200 rfl ?_) | (refine condF rfl rfl ?_; refine go T_ok 200 rfl ?_))
    refine call rfl rfl rfl (ok _ (by decide) rfl) (Chords_any v r _) ?_
    rintro x w ⟨A1, c1, e1, l1, rfl, S1, qk, j1⟩
    have B1 := B1.no qk
    have B2 := B2.no qk
    have B3 := B3.no qk
    have q := q.trans qk
    rw [k1] at j1
    cases j1
    refine go T_ok 200 rfl ?_
    refine ldA T_ok rfl rfl rfl rfl rfl B1.all ?_
    refine go T_ok 200 rfl ?_
    refine ldA T_ok rfl rfl rfl rfl rfl B3.all ?_
    refine go T_ok 200 rfl ?_
    refine call rfl rfl rfl (ok _ (by decide) rfl) (Chords_any v (rT v r) _) ?_
    rintro x w ⟨A2, c2, e2, l2, rfl, S2, qk, j2⟩
    have B1 := B1.no qk
    have B2 := B2.no qk
    have B3 := B3.no qk
    have S1 := S1.no qk
    have q := q.trans qk
    rw [k2] at j2
    cases j2
    have z1 : (L1.map (mirH v)).length = L1.length := List.length_map ..
    refine go T_ok 200 rfl ?_
    repeat (first | (refine guardA (b := true) rfl rfl rfl rfl (fun _ => ?_) (fun e => by cases e); refine go T_ok 200 rfl ?_) | (refine guardA (b := false) rfl rfl rfl rfl (fun e => by cases e) (fun _ => ?_); refine go T_ok 200 rfl ?_) | (refine condT rfl rfl ?_; refine go T_ok 200 rfl ?_) | (refine condF rfl rfl ?_; refine go T_ok 200 rfl ?_))
    refine condF rfl (by rw [z1]; simp) ?_
    refine go T_ok 200 rfl ?_
    refine loop [2, 6, 8, 10] (fun j : Nat => [.pointer (some ⟨g1, 0, none⟩), .slice A1 L1.length c1, .slice A2 (L1.map (mirH v)).length c2, .int .i64 (j : Int)])
      (fun j w' => j ≤ L1.length ∧ Chg No w w') (fun j => L1.length - j) 0 (fun _ => rfl) rfl ⟨by omega, Chg.refl _ _⟩ ?_
    rintro j τ w ⟨hj, qk⟩
    have p := qk
    have B1 := B1.no qk
    have S1 := S1.no qk
    have S2 := S2.no qk
    have q := q.trans qk
    refine go T_ok 200 rfl ?_
    refine condD rfl (fun hlt => ?_) (fun hlt => ?_)
    · have hlt : j < L1.length := by omega
      obtain ⟨x, hx⟩ : ∃ x, L1[j]? = some x := ⟨_, List.getElem?_eq_getElem hlt⟩
      have hy : (L1.map (mirH v))[j]? = some (mirH v x) := by rw [List.getElem?_map, hx]; rfl
      obtain ⟨bx_, ox, hAx, hbx, hcx⟩ := S1.el cL_len hx
      obtain ⟨by_, oy, hAy, hby, hcy⟩ := S2.el cL_len hy
      have hlx : bx_ < w.heap.size := Nat.lt_of_lt_of_le hbx S1.2.1
      have hly : by_ < w.heap.size := Nat.lt_of_lt_of_le hby S2.2.1
      have kx : ∀ (n : Nat) (z : Value), nth? (cL x) n = some z → ∀ w', Chg No w w' → w'.cell? ⟨bx_, ox + j * 2 + n, none⟩ = some z := fun n z hz w' hS => (hS.cell (a := ⟨bx_, ox + j * 2 + n, none⟩) hlx (fun h => h)).trans (hcx.get hz)
      have ky : ∀ (n : Nat) (z : Value), nth? (cL (mirH v x)) n = some z → ∀ w', Chg No w w' → w'.cell? ⟨by_, oy + j * 2 + n, none⟩ = some z := fun n z hz w' hS => (hS.cell (a := ⟨by_, oy + j * 2 + n, none⟩) hly (fun h => h)).trans (hcy.get hz)
      have hx0 := d1 x (List.mem_of_getElem? hx)
      have t1 := Int.emod_nonneg x.1 (by omega : v.nx ≠ 0)
      have t2 := Int.emod_lt_of_pos x.1 (by omega : 0 < v.nx)
      have f1 : w64 (x.1 - x.1 % v.nx) = x.1 - x.1 % v.nx := w64_id (by omega) (by omega)
      have f2 : w64 (x.1 - x.1 % v.nx + v.nx) = x.1 - x.1 % v.nx + v.nx := w64_id (by omega) (by omega)
      have f3 : w64 (x.1 - x.1 % v.nx + v.nx - 1) = x.1 - x.1 % v.nx + v.nx - 1 := w64_id (by omega) (by omega)
      have f4 : w64 (x.1 - x.1 % v.nx + v.nx - 1 - x.1 % v.nx) = mirC v x.1 := w64_id (by omega) (by omega)
      have e8 : w64 ((j : Int) + 1) = ((j + 1 : Nat) : Int) := w64_id (by omega) (by omega)
      have hly2 : j < (L1.map (mirH v)).length := by rw [List.length_map]; exact hlt
      rw [hAx, hAy]
      refine go T_ok 200 rfl ?_
      refine draw mixed (fun w' => Chg No w w') ([0,1,2,3,4,5,6,7,8].map (fun i => (i, true))) rfl (by kernel_rfl) (Chg.drew _) ?_
      refine goH T_ok 200 rfl ?_
      refine quietH rfl (fun w' hS => r_idx T_ok rfl rfl rfl rfl j rfl hlt) ?_
      refine goH T_ok 200 rfl ?_
      refine quietH rfl (fun w' hS => r_load T_ok rfl rfl rfl (kx 0 _ rfl w' hS)) ?_
      refine goH T_ok 200 rfl ?_
      refine goH T_ok 200 rfl ?_
      repeat (first | (refine quietH rfl (fun w' hS => r_load T_ok rfl rfl rfl (Bk.get (B1.no hS) rfl)) ?_; refine goH T_ok 200 rfl ?_))
      refine quietH rfl (fun w' hS => by rw [r_rem rfl rfl rfl (by omega), Int.tmod_eq_emod_of_nonneg hx0.1]) ?_
      refine goH T_ok 200 rfl ?_
      refine endH ?_
      have kx := fun n z hz w' hS => kx n z hz w' ((Chg.drew w).trans hS)
      have ky := fun n z hz w' hS => ky n z hz w' ((Chg.drew w).trans hS)
      have qk := Chg.drew w
      have B1 := B1.no qk
      have S1 := S1.no qk
      have S2 := S2.no qk
      have p := p.no qk
      have q := q.trans qk
      generalize w.drew = w at *
      refine go T_ok 200 rfl ?_
      refine draw mixed (fun w' => Chg No w w') ([0,1,2,3,4,5,6,7,8,9,10,11,12,13,14,15,16,17,18,19,20,21,22,23,24,25,26,27,28,29,30,31].map (fun i => (i, true))) rfl (by kernel_rfl) (Chg.drew _) ?_
      refine goH T_ok 200 rfl ?_
      refine quietH rfl (fun w' hS => r_idx T_ok rfl rfl rfl rfl j rfl hly2) ?_
      refine goH T_ok 200 rfl ?_
      refine quietH rfl (fun w' hS => r_load T_ok rfl rfl rfl (ky 1 _ rfl w' hS)) ?_
      refine goH T_ok 200 rfl ?_
      refine quietH rfl (fun w' hS => r_idx T_ok rfl rfl rfl rfl j rfl hlt) ?_
      refine goH T_ok 200 rfl ?_
      refine quietH rfl (fun w' hS => r_load T_ok rfl rfl rfl (kx 1 _ rfl w' hS)) ?_
      refine goH T_ok 200 rfl ?_
      refine guardH (b := false) rfl rfl (congrArg Value.bool (by simp [mirH])) (fun h => by cases h) (fun _ => ?_)
      refine goH T_ok 200 rfl ?_
      refine quietH rfl (fun w' hS => r_idx T_ok rfl rfl rfl rfl j rfl hly2) ?_
      refine goH T_ok 200 rfl ?_
      refine quietH rfl (fun w' hS => r_load T_ok rfl rfl rfl (ky 0 _ rfl w' hS)) ?_
      refine goH T_ok 200 rfl ?_
      refine quietH rfl (fun w' hS => r_idx T_ok rfl rfl rfl rfl j rfl hlt) ?_
      refine goH T_ok 200 rfl ?_
      refine quietH rfl (fun w' hS => r_load T_ok rfl rfl rfl (kx 0 _ rfl w' hS)) ?_
      refine goH T_ok 200 rfl ?_
      rw [f1]
      refine goH T_ok 200 rfl ?_
      repeat (first | (refine quietH rfl (fun w' hS => r_load T_ok rfl rfl rfl (Bk.get (B1.no hS) rfl)) ?_; refine goH T_ok 200 rfl ?_))
      rw [f2, f3, f4]
      refine endH ?_
      have qk := Chg.drew w
      have B1 := B1.no qk
      have S1 := S1.no qk
      have S2 := S2.no qk
      have p := p.no qk
      have q := q.trans qk
      refine go T_ok 200 rfl ?_
      refine condF rfl (by simp [mirH]) ?_
      refine go T_ok 200 rfl ?_
      rw [e8]
      exact round ⟨j + 1, rfl, ⟨by omega, p⟩, by omega⟩
    · refine go T_ok 200 rfl ?_
      refine call rfl rfl rfl (ok _ (by decide) rfl) (known_any _) ?_
      rintro v wk ⟨rfl, qk⟩
      refine go T_ok 200 rfl ?_
      exact ret (ret1 (v := .bool true) Try.results7 rfl ⟨rfl, q.trans qk⟩)
end Go.Proofs.Ytkkjfjeniaiaiaa
