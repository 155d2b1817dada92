/- The walk of RockScaled. -/
import Derived.Test.YtkkjfjeniaiaiaaL3
import Derived.Test.YtkkjfjeniaiaiaaS4
import Derived.Test.YtkkjfjeniaiaiaaE5
namespace Go.Proofs.Ytkkjfjeniaiaiaa
open Go.Ev Go.Proofs Go.Rock
attribute [local irreducible] At AtH
def scC (b : Int) (p : Int × Int) : Int × Int := (p.1, b * p.2)
theorem chs_sc (b : Int) (l : List Pc) : chs (l.map (sc b)) = (chs l).map (scC b) := by
  unfold chs
  rw [List.map_map, List.map_map]
  refine List.map_congr_left fun p _ => ?_
  show (p.c, b * p.u - b * p.a) = (p.c, b * (p.u - p.a))
  rw [Int.mul_sub]
theorem chs_bd {v : Vo} {r : Ra} {f : Pc → Pc} (hv : VoOk v) (hr : RaOk r) (hf : Shr f) : ∀ p ∈ chs (cutS f (pcs v r)), 0 ≤ p.2 ∧ p.2 ≤ 24192000000 := by
  intro p hp
  obtain ⟨q, hq, rfl⟩ := List.mem_map.1 hp
  have h := mem_cut hv hr hf hq
  have h1 := h.1
  unfold PcR at h1
  show 0 ≤ q.u - q.a ∧ q.u - q.a ≤ _
  omega
theorem vS_id (b : Int) (v : Vo) : vL (vS b v) = [I v.nx, I v.ny, I v.nz, I (v.sz * b)] := rfl
theorem gr_sc {v : Vo} {g : List Int} {b : Int} (hb : 0 < b) (hg : GrOk v g) : GrOk (vS b v) (g.map (· * b)) := by
  refine ⟨fun h hh => ?_, by rw [List.length_map]; exact hg.2⟩
  obtain ⟨x, hx, rfl⟩ := List.mem_map.1 hh
  obtain ⟨h0, h1⟩ := hg.1 x hx
  have e1 := Int.mul_nonneg h0 (by omega : 0 ≤ b)
  have e2 := Int.mul_le_mul_of_nonneg_right h1 (by omega : 0 ≤ b)
  show 0 ≤ x * b ∧ x * b ≤ v.nz * (v.sz * b)
  rw [← Int.mul_assoc]
  exact ⟨e1, e2⟩
/-- both lists of chords, one after the other -/
def MulC (b : Int) (l m : List (Int × Int)) : Prop := m = l.map (scC b)
set_option maxRecDepth 20000 in
set_option maxHeartbeats 8000000 in
theorem walk_RockScaled (v : Vo) (g : Sli Int) (r : Ra) (b : Int) (w0 : World) (_hv : VoI v) (hg : InI w0 g) (_hr : RaI r) (_hb : I64 b) :
    Ret Try.prog 8 [.agg (vL v).toArray, .slice g.A g.l.length g.c, .agg (rL r).toArray, .int .i64 b] w0 fun x w' => x = .bool true ∧ Chg No w0 w' := by
  refine enter Try.func8 rfl Try.ntmps8 rfl ?_
  refine go T_ok 200 rfl ?_
  refine bx rfl rfl rfl (cs := vL v) rfl ?_
  intro g1 u1 hg1 hs1 q1 B1
  refine go T_ok 200 rfl ?_
  refine bx rfl rfl rfl (cs := rL r) rfl ?_
  intro g2 u2 hg2 hs2 q2 B2
  have hg12 : g1 < g2 := by have := B1.lt; omega
  have B1 := B1.no q2
  have q := q1.trans q2
  have Sg := hg.sl.no q
  refine go T_ok 200 rfl ?_
  repeat (first | (refine ldA T_ok rfl rfl rfl rfl rfl (Bk.all B1) ?_; refine go T_ok 200 rfl ?_) | (refine ldA T_ok rfl rfl rfl rfl rfl (Bk.all B2) ?_; refine go T_ok 200 rfl ?_) | (refine ld T_ok rfl rfl rfl rfl (Bk.get B1 rfl) ?_; refine go T_ok 200 rfl ?_) | (refine ld T_ok rfl rfl rfl rfl (Bk.get B2 rfl) ?_; refine go T_ok 200 rfl ?_) | (refine guardA (b := true) rfl rfl rfl rfl (fun _ => ?_) (fun e => by cases e); refine go T_ok 200 rfl ?_) | (refine guardA (b := false) rfl rfl rfl rfl (fun e => by cases e) (fun _ => ?_); refine go T_ok 200 rfl ?_) | (refine condT rfl rfl ?_; refine go T_ok 200 rfl ?_) | (refine condF rfl rfl ?_; refine go T_ok 200 rfl ?_))
  refine call rfl rfl rfl (ok _ (by decide) rfl) (rVolume_any v _) ?_
  rintro x w ⟨rfl, qk⟩
  have B1 := B1.no qk
  have B2 := B2.no qk
  have Sg := Sg.no qk
  have q := q.trans qk
  by_cases hv : VoOk v
  case neg =>
    rw [decide_eq_false hv]
    refine go T_ok 200 rfl ?_
    repeat (first | (refine guardA (b := true) rfl rfl rfl rfl (fun _ => ?_) (fun e => by cases e); refine go T_ok 200 rfl ?_) | (refine guardA (b := false) rfl rfl rfl rfl (fun e => by cases e) (fun _ => ?_); refine go T_ok 200 rfl ?_) | (refine condT rfl rfl ?_; refine go T_ok 200 rfl ?_) | (refine condF rfl rfl ?_; refine go T_ok 200 rfl ?_))
    refine call rfl rfl rfl (ok _ (by decide) rfl) (known_any _) ?_
    rintro v wk ⟨rfl, qk⟩
    refine go T_ok 200 rfl ?_
    exact ret (ret1 (v := .bool true) Try.results8 rfl ⟨rfl, q.trans qk⟩)
  rw [decide_eq_true hv]
  refine go T_ok 200 rfl ?_
  repeat (first | (refine ldA T_ok rfl rfl rfl rfl rfl (Bk.all B1) ?_; refine go T_ok 200 rfl ?_) | (refine ldA T_ok rfl rfl rfl rfl rfl (Bk.all B2) ?_; refine go T_ok 200 rfl ?_) | (refine ld T_ok rfl rfl rfl rfl (Bk.get B1 rfl) ?_; refine go T_ok 200 rfl ?_) | (refine ld T_ok rfl rfl rfl rfl (Bk.get B2 rfl) ?_; refine go T_ok 200 rfl ?_) | (refine guardA (b := true) rfl rfl rfl rfl (fun _ => ?_) (fun e => by cases e); refine go T_ok 200 rfl ?_) | (refine guardA (b := false) rfl rfl rfl rfl (fun e => by cases e) (fun _ => ?_); refine go T_ok 200 rfl ?_) | (refine condT rfl rfl ?_; refine go T_ok 200 rfl ?_) | (refine condF rfl rfl ?_; refine go T_ok 200 rfl ?_))
  refine call rfl rfl rfl (ok _ (by decide) rfl) (rRay_any r _) ?_
  rintro x w ⟨rfl, qk⟩
  have B1 := B1.no qk
  have B2 := B2.no qk
  have Sg := Sg.no qk
  have q := q.trans qk
  by_cases hr : RaOk r
  case neg =>
    rw [decide_eq_false hr]
    refine go T_ok 200 rfl ?_
    repeat (first | (refine guardA (b := true) rfl rfl rfl rfl (fun _ => ?_) (fun e => by cases e); refine go T_ok 200 rfl ?_) | (refine guardA (b := false) rfl rfl rfl rfl (fun e => by cases e) (fun _ => ?_); refine go T_ok 200 rfl ?_) | (refine condT rfl rfl ?_; refine go T_ok 200 rfl ?_) | (refine condF rfl rfl ?_; refine go T_ok 200 rfl ?_))
    refine call rfl rfl rfl (ok _ (by decide) rfl) (known_any _) ?_
    rintro v wk ⟨rfl, qk⟩
    refine go T_ok 200 rfl ?_
    exact ret (ret1 (v := .bool true) Try.results8 rfl ⟨rfl, q.trans qk⟩)
  rw [decide_eq_true hr]
  refine go T_ok 200 rfl ?_
  repeat (first | (refine ldA T_ok rfl rfl rfl rfl rfl (Bk.all B1) ?_; refine go T_ok 200 rfl ?_) | (refine ldA T_ok rfl rfl rfl rfl rfl (Bk.all B2) ?_; refine go T_ok 200 rfl ?_) | (refine ld T_ok rfl rfl rfl rfl (Bk.get B1 rfl) ?_; refine go T_ok 200 rfl ?_) | (refine ld T_ok rfl rfl rfl rfl (Bk.get B2 rfl) ?_; refine go T_ok 200 rfl ?_) | (refine guardA (b := true) rfl rfl rfl rfl (fun _ => ?_) (fun e => by cases e); refine go T_ok 200 rfl ?_) | (refine guardA (b := false) rfl rfl rfl rfl (fun e => by cases e) (fun _ => ?_); refine go T_ok 200 rfl ?_) | (refine condT rfl rfl ?_; refine go T_ok 200 rfl ?_) | (refine condF rfl rfl ?_; refine go T_ok 200 rfl ?_))
  refine call rfl rfl rfl (ok _ (by decide) rfl) (rGround_any v g.l g.A g.c _ _ hv hg.ml Sg) ?_
  rintro x w ⟨rfl, qk⟩
  have B1 := B1.no qk
  have B2 := B2.no qk
  have Sg := Sg.no qk
  have q := q.trans qk
  by_cases hgr : GrOk v g.l
  case neg =>
    rw [decide_eq_false hgr]
    refine go T_ok 200 rfl ?_
    repeat (first | (refine guardA (b := true) rfl rfl rfl rfl (fun _ => ?_) (fun e => by cases e); refine go T_ok 200 rfl ?_) | (refine guardA (b := false) rfl rfl rfl rfl (fun e => by cases e) (fun _ => ?_); refine go T_ok 200 rfl ?_) | (refine condT rfl rfl ?_; refine go T_ok 200 rfl ?_) | (refine condF rfl rfl ?_; refine go T_ok 200 rfl ?_))
    refine call rfl rfl rfl (ok _ (by decide) rfl) (known_any _) ?_
    rintro v wk ⟨rfl, qk⟩
    refine go T_ok 200 rfl ?_
    exact ret (ret1 (v := .bool true) Try.results8 rfl ⟨rfl, q.trans qk⟩)
  rw [decide_eq_true hgr]
  refine go T_ok 200 rfl ?_
  repeat (first | (refine ldA T_ok rfl rfl rfl rfl rfl (Bk.all B1) ?_; refine go T_ok 200 rfl ?_) | (refine ldA T_ok rfl rfl rfl rfl rfl (Bk.all B2) ?_; refine go T_ok 200 rfl ?_) | (refine ld T_ok rfl rfl rfl rfl (Bk.get B1 rfl) ?_; refine go T_ok 200 rfl ?_) | (refine ld T_ok rfl rfl rfl rfl (Bk.get B2 rfl) ?_; refine go T_ok 200 rfl ?_) | (refine guardA (b := true) rfl rfl rfl rfl (fun _ => ?_) (fun e => by cases e); refine go T_ok 200 rfl ?_) | (refine guardA (b := false) rfl rfl rfl rfl (fun e => by cases e) (fun _ => ?_); refine go T_ok 200 rfl ?_) | (refine condT rfl rfl ?_; refine go T_ok 200 rfl ?_) | (refine condF rfl rfl ?_; refine go T_ok 200 rfl ?_))
  refine guardD rfl rfl rfl (fun h1 => ?_) (fun h1 => ?_)
  · skip
    refine go T_ok 200 rfl ?_
    repeat (first | (refine guardA (b := true) rfl rfl rfl rfl (fun _ => ?_) (fun e => by cases e); refine go T_ok 200 rfl ?_) | (refine guardA (b := false) rfl rfl rfl rfl (fun e => by cases e) (fun _ => ?_); refine go T_ok 200 rfl ?_) | (refine condT rfl rfl ?_; refine go T_ok 200 rfl ?_) | (refine condF rfl rfl ?_; refine go T_ok 200 rfl ?_))
    refine call rfl rfl rfl (ok _ (by decide) rfl) (known_any _) ?_
    rintro v wk ⟨rfl, qk⟩
    refine go T_ok 200 rfl ?_
    exact ret (ret1 (v := .bool true) Try.results8 rfl ⟨rfl, q.trans qk⟩)
  refine go T_ok 200 rfl ?_
  repeat (first | (refine ldA T_ok rfl rfl rfl rfl rfl (Bk.all B1) ?_; refine go T_ok 200 rfl ?_) | (refine ldA T_ok rfl rfl rfl rfl rfl (Bk.all B2) ?_; refine go T_ok 200 rfl ?_) | (refine ld T_ok rfl rfl rfl rfl (Bk.get B1 rfl) ?_; refine go T_ok 200 rfl ?_) | (refine ld T_ok rfl rfl rfl rfl (Bk.get B2 rfl) ?_; refine go T_ok 200 rfl ?_) | (refine guardA (b := true) rfl rfl rfl rfl (fun _ => ?_) (fun e => by cases e); refine go T_ok 200 rfl ?_) | (refine guardA (b := false) rfl rfl rfl rfl (fun e => by cases e) (fun _ => ?_); refine go T_ok 200 rfl ?_) | (refine condT rfl rfl ?_; refine go T_ok 200 rfl ?_) | (refine condF rfl rfl ?_; refine go T_ok 200 rfl ?_))
  refine condD rfl (fun h2 => ?_) (fun h2 => ?_)
  · refine go T_ok 200 rfl ?_
    refine call rfl rfl rfl (ok _ (by decide) rfl) (known_any _) ?_
    rintro v wk ⟨rfl, qk⟩
    refine go T_ok 200 rfl ?_
    exact ret (ret1 (v := .bool true) Try.results8 rfl ⟨rfl, q.trans qk⟩)
  have hb0 : 0 < b := by omega
  have hxy0 := vo_xy hv
  have hgl := hgr.2
  have hvo := hv
  unfold VoOk at hvo
  have hro := hr
  unfold RaOk at hro
  have m1 := mul_bd (a := v.sz) (b := b) (A := 1000) (B := 100) (by omega) (by omega) (by omega) (by omega)
  have mm : ∀ x : Int, -100000 ≤ x → x ≤ 100000 → -10000000 ≤ x * b ∧ x * b ≤ 10000000 := fun x hx hx' => by
    rcases Int.le_total 0 x with h | h
    · have := mul_bd (a := x) (b := b) (A := 100000) (B := 100) (by omega) (by omega) (by omega) (by omega); omega
    · have := mul_bd (a := -x) (b := b) (A := 100000) (B := 100) (by omega) (by omega) (by omega) (by omega)
      rw [Int.neg_mul] at this; omega
  have mx := mm r.x (by omega) (by omega)
  have my := mm r.y (by omega) (by omega)
  have mz := mm r.z (by omega) (by omega)
  have e1 : w64 (v.sz * b) = v.sz * b := w64_id (by omega) (by omega)
  have ex : w64 (r.x * b) = r.x * b := w64_id (by omega) (by omega)
  have ey : w64 (r.y * b) = r.y * b := w64_id (by omega) (by omega)
  have ez : w64 (r.z * b) = r.z * b := w64_id (by omega) (by omega)
  have yq := q.size
  have y1 := B1.lt
  have y2 := B2.lt
  refine go T_ok 200 rfl ?_
  refine join [1, 3, 4, 6, 9, 10] (fun p : Nat × Nat => [.slice g.A g.l.length g.c, .int .i64 b, .pointer (some ⟨g1, 0, none⟩), .pointer (some ⟨g2, 0, none⟩), .pointer (some ⟨p.1, 0, none⟩), .pointer (some ⟨p.2, 0, none⟩)])
    (fun p w' => Chg No w w' ∧ w.heap.size ≤ p.1 ∧ w.heap.size ≤ p.2 ∧ p.1 ≠ p.2 ∧ Bk w' p.1 23 (vL v) ∧ Bk w' p.2 26 (rL r)) (fun _ => rfl) ?_ ?_
  · refine draw2 mixed (fun w' => Chg No w w') [0,1] 2 3 [(3,false),(4,false),(5,false)] [(2,false),(4,false),(5,false)] rfl rfl rfl (by kernel_rfl) (Chg.drew _) ?_
    refine goH T_ok 200 rfl ?_
    refine quietH rfl (fun w' hS => r_loadA T_ok rfl rfl rfl rfl (B1.no hS).all) ?_
    refine goH T_ok 200 rfl ?_
    refine quietH rfl (fun w' hS => r_loadA T_ok rfl rfl rfl rfl (B2.no hS).all) ?_
    refine goH T_ok 200 rfl ?_
    have hdr : w.drew.heap.size = w.heap.size := rfl
    have qd := Chg.drew w
    refine endH (round ⟨rfl, ?_, ?_⟩)
    · skip
      refine nwE rfl rfl (z := .agg #[I 0, I 0, I 0, I 0]) (by kernel_rfl) (cs := [I 0, I 0, I 0, I 0]) rfl ?_
      intro g3 w hg3 hs3 p3 B3
      have qd := qd.trans p3
      refine ⟨qd, ?_⟩
      refine goH T_ok 200 rfl ?_
      refine nwE rfl rfl (z := .agg #[I 0, I 0, I 0, I 0, I 0, I 0]) (by kernel_rfl) (cs := [I 0, I 0, I 0, I 0, I 0, I 0]) rfl ?_
      intro g4 w hg4 hs4 p4 B4
      have qd := qd.trans p4
      refine ⟨qd, ?_⟩
      have B3 := B3.no p4
      refine goH T_ok 200 rfl ?_
      refine stAE T_ok rfl rfl rfl rfl (vs := vL v) rfl rfl rfl B3 rfl ?_
      intro w p5 B3 hz3
      have B3 : Bk w g3 23 (vL v) := B3
      have qd := qd.step p5 (fun k hk e => by omega)
      have B4 := B4.keep p5 (by omega)
      refine ⟨qd, ?_⟩
      refine goH T_ok 200 rfl ?_
      refine stAE T_ok rfl rfl rfl rfl (vs := rL r) rfl rfl rfl B4 rfl ?_
      intro w p6 B4 hz4
      have B4 : Bk w g4 26 (rL r) := B4
      have qd := qd.step p6 (fun k hk e => by omega)
      have B3 := B3.keep p6 (by omega)
      refine ⟨qd, ?_⟩
      refine goH T_ok 200 rfl ?_
      refine endH ?_
      exact round ⟨(g3, g4), rfl, qd, by omega, by omega, by omega, B3, B4⟩
    · skip
      refine nwE rfl rfl (z := .agg #[I 0, I 0, I 0, I 0, I 0, I 0]) (by kernel_rfl) (cs := [I 0, I 0, I 0, I 0, I 0, I 0]) rfl ?_
      intro g4 w hg4 hs4 p4 B4
      have qd := qd.trans p4
      refine ⟨qd, ?_⟩
      refine goH T_ok 200 rfl ?_
      refine nwE rfl rfl (z := .agg #[I 0, I 0, I 0, I 0]) (by kernel_rfl) (cs := [I 0, I 0, I 0, I 0]) rfl ?_
      intro g3 w hg3 hs3 p3 B3
      have qd := qd.trans p3
      refine ⟨qd, ?_⟩
      have B4 := B4.no p3
      refine goH T_ok 200 rfl ?_
      refine stAE T_ok rfl rfl rfl rfl (vs := vL v) rfl rfl rfl B3 rfl ?_
      intro w p5 B3 hz3
      have B3 : Bk w g3 23 (vL v) := B3
      have qd := qd.step p5 (fun k hk e => by omega)
      have B4 := B4.keep p5 (by omega)
      refine ⟨qd, ?_⟩
      refine goH T_ok 200 rfl ?_
      refine stAE T_ok rfl rfl rfl rfl (vs := rL r) rfl rfl rfl B4 rfl ?_
      intro w p6 B4 hz4
      have B4 : Bk w g4 26 (rL r) := B4
      have qd := qd.step p6 (fun k hk e => by omega)
      have B3 := B3.keep p6 (by omega)
      refine ⟨qd, ?_⟩
      refine goH T_ok 200 rfl ?_
      refine endH ?_
      exact round ⟨(g3, g4), rfl, qd, by omega, by omega, by omega, B3, B4⟩
  rintro ⟨g3, g4⟩ τ w ⟨qk, hz3, hz4, hne, B3, B4⟩
  simp only at hz3 hz4 hne B3 B4
  have B1 := B1.no qk
  have B2 := B2.no qk
  have Sg := Sg.no qk
  have q := q.trans qk
  refine go T_ok 200 rfl ?_
  repeat (first | (refine ld T_ok rfl rfl rfl rfl (Bk.get B1 rfl) ?_; refine go T_ok 200 rfl ?_) | (refine guardA (b := true) rfl rfl rfl rfl (fun _ => ?_) (fun e => by cases e); refine go T_ok 200 rfl ?_) | (refine guardA (b := false) rfl rfl rfl rfl (fun e => by cases e) (fun _ => ?_); refine go T_ok 200 rfl ?_) | (refine condT rfl rfl ?_; refine go T_ok 200 rfl ?_) | (refine condF rfl rfl ?_; refine go T_ok 200 rfl ?_))
  rw [e1]
  refine st T_ok rfl rfl rfl rfl (v := I (v.sz * b)) rfl rfl B3 rfl ?_
  intro w qk B3 hz3
  have B3 : Bk w g3 23 (vL (vS b v)) := B3
  have B1 := Bk.keep B1 qk (by omega)
  have B2 := Bk.keep B2 qk (by omega)
  have B4 := Bk.keep B4 qk (by omega)
  have Sg := Sl.keep Sg qk (fun k hk e => by omega)
  have q := q.step qk (fun k hk e => by omega)
  refine go T_ok 200 rfl ?_
  refine draw mixed (fun w' => Chg (fun k => k = g4) w w') ([0,1,2,3,4,5,6,7,8,9,10,11,12].map (fun i => (i, true)) ++ [(13, false)] ++ [14].map (fun i => (i, true)) ++ [(15, false)] ++ [16].map (fun i => (i, true)) ++ [(17, false)]) rfl (by kernel_rfl) ((Chg.drew _).mono (fun _ _ h => h.elim)) ?_
  refine goH T_ok 200 rfl ?_
  repeat (first | (refine quietH rfl (fun w' hS => r_load T_ok rfl rfl rfl (Bk.get (B2.keep hS (by omega)) rfl)) ?_; refine goH T_ok 200 rfl ?_))
  rw [ex, ey, ez]
  have B4 := B4.no (Chg.drew w)
  have qd : Chg (fun k => k = g4) w w.drew := (Chg.drew _).mono (fun _ _ h => h.elim)
  refine storeE T_ok rfl rfl rfl rfl (v := I (r.x * b)) rfl rfl B4 rfl ?_
  intro w1 p5 B4 hz5
  have qd := qd.trans p5
  refine ⟨qd, ?_⟩
  refine goH T_ok 200 rfl ?_
  refine storeE T_ok rfl rfl rfl rfl (v := I (r.y * b)) rfl rfl B4 rfl ?_
  intro w1 p5 B4 hz5
  have qd := qd.trans p5
  refine ⟨qd, ?_⟩
  refine goH T_ok 200 rfl ?_
  refine storeE T_ok rfl rfl rfl rfl (v := I (r.z * b)) rfl rfl B4 rfl ?_
  intro w1 p5 B4 hz5
  have qd := qd.trans p5
  refine ⟨qd, ?_⟩
  refine goH T_ok 200 rfl ?_
  refine endH ?_
  have B4 : Bk w1 g4 26 (rL (rS b r)) := B4
  have qk := qd
  have B1 := Bk.keep B1 qk (by omega)
  have B2 := Bk.keep B2 qk (by omega)
  have B3 := Bk.keep B3 qk (by omega)
  have Sg := Sl.keep Sg qk (fun k hk e => by omega)
  have q := q.step qk (fun k hk e => by omega)
  clear qd
  refine go T_ok 200 rfl ?_
  repeat (first | (refine ldA T_ok rfl rfl rfl rfl rfl (Bk.all B1) ?_; refine go T_ok 200 rfl ?_) | (refine ldA T_ok rfl rfl rfl rfl rfl (Bk.all B2) ?_; refine go T_ok 200 rfl ?_) | (refine ldA T_ok rfl rfl rfl rfl rfl (Bk.all B3) ?_; refine go T_ok 200 rfl ?_) | (refine ldA T_ok rfl rfl rfl rfl rfl (Bk.all B4) ?_; refine go T_ok 200 rfl ?_) | (refine ld T_ok rfl rfl rfl rfl (Bk.get B1 rfl) ?_; refine go T_ok 200 rfl ?_) | (refine ld T_ok rfl rfl rfl rfl (Bk.get B2 rfl) ?_; refine go T_ok 200 rfl ?_) | (refine ld T_ok rfl rfl rfl rfl (Bk.get B3 rfl) ?_; refine go T_ok 200 rfl ?_) | (refine ld T_ok rfl rfl rfl rfl (Bk.get B4 rfl) ?_; refine go T_ok 200 rfl ?_) | (refine guardA (b := true) rfl rfl rfl rfl (fun _ => ?_) (fun e => by cases e); refine go T_ok 200 rfl ?_) | (refine guardA (b := false) rfl rfl rfl rfl (fun e => by cases e) (fun _ => ?_); refine go T_ok 200 rfl ?_) | (refine condT rfl rfl ?_; refine go T_ok 200 rfl ?_) | (refine condF rfl rfl ?_; refine go T_ok 200 rfl ?_))
  refine call rfl rfl rfl (ok _ (by decide) rfl) (rVolume_any (vS b v) _) ?_
  rintro x w ⟨rfl, qk⟩
  have B1 := B1.no qk
  have B2 := B2.no qk
  have B3 := B3.no qk
  have B4 := B4.no qk
  have Sg := Sg.no qk
  have q := q.trans qk
  by_cases hv2 : VoOk (vS b v)
  case neg =>
    rw [decide_eq_false hv2]
    refine go T_ok 200 rfl ?_
    repeat (first | (refine guardA (b := true) rfl rfl rfl rfl (fun _ => ?_) (fun e => by cases e); refine go T_ok 200 rfl ?_) | (refine guardA (b := false) rfl rfl rfl rfl (fun e => by cases e) (fun _ => ?_); refine go T_ok 200 rfl ?_) | (refine condT rfl rfl ?_; refine go T_ok 200 rfl ?_) | (refine condF rfl rfl ?_; refine go T_ok 200 rfl ?_))
    refine call rfl rfl rfl (ok _ (by decide) rfl) (known_any _) ?_
    rintro v wk ⟨rfl, qk⟩
    refine go T_ok 200 rfl ?_
    exact ret (ret1 (v := .bool true) Try.results8 rfl ⟨rfl, q.trans qk⟩)
  rw [decide_eq_true hv2]
  refine go T_ok 200 rfl ?_
  repeat (first | (refine ldA T_ok rfl rfl rfl rfl rfl (Bk.all B1) ?_; refine go T_ok 200 rfl ?_) | (refine ldA T_ok rfl rfl rfl rfl rfl (Bk.all B2) ?_; refine go T_ok 200 rfl ?_) | (refine ldA T_ok rfl rfl rfl rfl rfl (Bk.all B3) ?_; refine go T_ok 200 rfl ?_) | (refine ldA T_ok rfl rfl rfl rfl rfl (Bk.all B4) ?_; refine go T_ok 200 rfl ?_) | (refine ld T_ok rfl rfl rfl rfl (Bk.get B1 rfl) ?_; refine go T_ok 200 rfl ?_) | (refine ld T_ok rfl rfl rfl rfl (Bk.get B2 rfl) ?_; refine go T_ok 200 rfl ?_) | (refine ld T_ok rfl rfl rfl rfl (Bk.get B3 rfl) ?_; refine go T_ok 200 rfl ?_) | (refine ld T_ok rfl rfl rfl rfl (Bk.get B4 rfl) ?_; refine go T_ok 200 rfl ?_) | (refine guardA (b := true) rfl rfl rfl rfl (fun _ => ?_) (fun e => by cases e); refine go T_ok 200 rfl ?_) | (refine guardA (b := false) rfl rfl rfl rfl (fun e => by cases e) (fun _ => ?_); refine go T_ok 200 rfl ?_) | (refine condT rfl rfl ?_; refine go T_ok 200 rfl ?_) | (refine condF rfl rfl ?_; refine go T_ok 200 rfl ?_))
  refine call rfl rfl rfl (ok _ (by decide) rfl) (rRay_any (rS b r) _) ?_
  rintro x w ⟨rfl, qk⟩
  have B1 := B1.no qk
  have B2 := B2.no qk
  have B3 := B3.no qk
  have B4 := B4.no qk
  have Sg := Sg.no qk
  have q := q.trans qk
  by_cases hr2 : RaOk (rS b r)
  case neg =>
    rw [decide_eq_false hr2]
    refine go T_ok 200 rfl ?_
    repeat (first | (refine guardA (b := true) rfl rfl rfl rfl (fun _ => ?_) (fun e => by cases e); refine go T_ok 200 rfl ?_) | (refine guardA (b := false) rfl rfl rfl rfl (fun e => by cases e) (fun _ => ?_); refine go T_ok 200 rfl ?_) | (refine condT rfl rfl ?_; refine go T_ok 200 rfl ?_) | (refine condF rfl rfl ?_; refine go T_ok 200 rfl ?_))
    refine call rfl rfl rfl (ok _ (by decide) rfl) (known_any _) ?_
    rintro v wk ⟨rfl, qk⟩
    refine go T_ok 200 rfl ?_
    exact ret (ret1 (v := .bool true) Try.results8 rfl ⟨rfl, q.trans qk⟩)
  rw [decide_eq_true hr2]
  refine go T_ok 200 rfl ?_
  repeat (first | (refine guardA (b := true) rfl rfl rfl rfl (fun _ => ?_) (fun e => by cases e); refine go T_ok 200 rfl ?_) | (refine guardA (b := false) rfl rfl rfl rfl (fun e => by cases e) (fun _ => ?_); refine go T_ok 200 rfl ?_) | (refine condT rfl rfl ?_; refine go T_ok 200 rfl ?_) | (refine condF rfl rfl ?_; refine go T_ok 200 rfl ?_))
  refine loop [1, 3, 4, 6, 9, 10, 11, 12] (fun p : Nat × Value => [.slice g.A g.l.length g.c, .int .i64 b, .pointer (some ⟨g1, 0, none⟩), .pointer (some ⟨g2, 0, none⟩), .pointer (some ⟨g3, 0, none⟩), .pointer (some ⟨g4, 0, none⟩), p.2, .int .i64 (p.1 : Int)])
    (fun p w' => p.1 ≤ g.l.length ∧ Chg No w0 w' ∧ Bk w' g1 23 (vL v) ∧ Bk w' g2 26 (rL r) ∧ Bk w' g3 23 (vL (vS b v)) ∧ Bk w' g4 26 (rL (rS b r)) ∧ w'.ownsRow (max g3 g4 + 1) 3 1 p.2 p.1 (iL ((g.l.map (· * b)).take p.1))) (fun p => g.l.length - p.1) (0, .slice none 0 0) (fun _ => rfl) rfl ⟨by show 0 ≤ _; omega, q, B1, B2, B3, B4, own_nil⟩ ?_
  rintro ⟨j, out⟩ τ w ⟨hj, q, B1, B2, B3, B4, o2⟩
  simp only at hj o2
  obtain ⟨Ao, co, rfl⟩ := own_form o2
  have Sg := hg.sl.no q
  refine go T_ok 200 rfl ?_
  refine condD rfl (fun hlt => ?_) (fun hlt => ?_)
  · have hlt : j < g.l.length := by omega
    obtain ⟨a, ha⟩ : ∃ a, g.l[j]? = some a := ⟨_, List.getElem?_eq_getElem hlt⟩
    obtain ⟨bg, og, hAg, hbg, hcg⟩ := Sg.elI ha
    have ha0 := hgr.1 a (List.mem_of_getElem? ha)
    have hzs := vo_zs hv
    have e3 : w64 ((j : Int) + 1) = ((j + 1 : Nat) : Int) := w64_id (by omega) (by omega)
    have m5 := mul_bd (a := a) (b := b) (A := 12000) (B := 100) (by omega) (by omega) (by omega) (by omega)
    have e4 : w64 (a * b) = a * b := w64_id (by omega) (by omega)
    have hget : (g.l.map (· * b))[j]? = some (a * b) := by rw [List.getElem?_map, ha]; rfl
    rw [hAg]
    refine go T_ok 200 rfl ?_
    refine idx T_ok rfl rfl rfl rfl rfl j rfl hlt ?_
    refine go T_ok 200 rfl ?_
    refine ld T_ok rfl rfl rfl rfl (hcg) ?_
    refine go T_ok 200 rfl ?_
    rw [e4]
    refine app1 T_ok rfl rfl rfl rfl rfl rfl (cs := [I (a * b)]) rfl rfl rfl rfl (fun _ => rfl) (fun _ => rfl) (fun _ => rfl) o2 (by unfold maxLen; omega) (by omega) (by have := B3.lt; have := B4.lt; omega) ?_
    intro gx A' c' w9 o9 p9 hs9 _
    refine go T_ok 200 rfl ?_
    rw [e3]
    have hfl : iL ((g.l.map (· * b)).take j) ++ [I (a * b)] = iL ((g.l.map (· * b)).take (j + 1)) := by rw [take_snoc hget]; simp [iL]
    rw [hfl] at o9
    have n1 : ∀ k, (Value.slice Ao j co).ownBlock = some k → max g3 g4 + 1 ≤ k := fun k e => own_ge o2 e
    exact round ⟨(j + 1, _), rfl, ⟨by show j + 1 ≤ _; omega, q.step p9 (fun k hk e => by have := n1 _ e; omega), B1.keep p9 (fun e => by have := n1 _ e; omega), B2.keep p9 (fun e => by have := n1 _ e; omega), B3.keep p9 (fun e => by have := n1 _ e; omega), B4.keep p9 (fun e => by have := n1 _ e; omega), o9⟩, by show _ - (j + 1) < _ - j; omega⟩
  · have hjl : j = g.l.length := by omega
    have hll : (g.l.map (· * b)).length = g.l.length := List.length_map ..
    obtain rfl : j = (g.l.map (· * b)).length := by omega
    rw [List.take_length] at o2
    have So := own_slN o2
    have k1 : chR v r = (0, chs (pcs v r)) := by unfold chR; rw [if_pos ⟨hv, hr⟩]
    have k2 : chR (vS b v) (rS b r) = (0, (chs (pcs v r)).map (scC b)) := by unfold chR; rw [if_pos ⟨hv2, hr2⟩, pcs_sc hb0, chs_sc]
    have k3 : unR v r g.l = (0, chs (cutS (und v r g.l) (pcs v r))) := by unfold unR; rw [if_pos ⟨hv, hr, hgr⟩]
    have k4 : unR (vS b v) (rS b r) (g.l.map (· * b)) = (0, (chs (cutS (und v r g.l) (pcs v r))).map (scC b)) := by unfold unR; rw [if_pos ⟨hv2, hr2, gr_sc hb0 hgr⟩, pcs_sc hb0, cutS_sc hb0 (und_sc hb0 v r g.l), chs_sc]
    have k6 : pcs v r = cutS id (pcs v r) := (cut_id hv).symm
    have d1 := chs_bd hv hr shr_id
    rw [← k6] at d1
    have d2 := chs_bd hv hr (shr_und v r g.l)
    have n1 : (chs (pcs v r)).length ≤ 40 := by rw [chs_len]; exact pcs_len r hv
    have n2 : (chs (cutS (und v r g.l) (pcs v r))).length ≤ 40 := by rw [chs_len]; exact cut_len r _ hv
    generalize chs (pcs v r) = L1 at k1 k2 d1 n1
    generalize chs (cutS (und v r g.l) (pcs v r)) = L2 at k3 k4 d2 n2
    refine go T_ok 200 rfl ?_
    repeat (first | (refine ldA T_ok rfl rfl rfl rfl rfl (Bk.all B1) ?_; refine go T_ok 200 rfl ?_) | (refine ldA T_ok rfl rfl rfl rfl rfl (Bk.all B2) ?_; refine go T_ok 200 rfl ?_) | (refine ldA T_ok rfl rfl rfl rfl rfl (Bk.all B3) ?_; refine go T_ok 200 rfl ?_) | (refine ldA T_ok rfl rfl rfl rfl rfl (Bk.all B4) ?_; refine go T_ok 200 rfl ?_) | (refine ld T_ok rfl rfl rfl rfl (Bk.get B1 rfl) ?_; refine go T_ok 200 rfl ?_) | (refine ld T_ok rfl rfl rfl rfl (Bk.get B2 rfl) ?_; refine go T_ok 200 rfl ?_) | (refine ld T_ok rfl rfl rfl rfl (Bk.get B3 rfl) ?_; refine go T_ok 200 rfl ?_) | (refine ld T_ok rfl rfl rfl rfl (Bk.get B4 rfl) ?_; refine go T_ok 200 rfl ?_) | (refine guardA (b := true) rfl rfl rfl rfl (fun _ => ?_) (fun e => by cases e); refine go T_ok 200 rfl ?_) | (refine guardA (b := false) rfl rfl rfl rfl (fun e => by cases e) (fun _ => ?_); refine go T_ok 200 rfl ?_) | (refine condT rfl rfl ?_; refine go T_ok 200 rfl ?_) | (refine condF rfl rfl ?_; refine go T_ok 200 rfl ?_))
    refine call rfl rfl rfl (ok _ (by decide) rfl) (Chords_any v r _) ?_
    rintro x w ⟨A1, c1, e1, l1, rfl, S1, qk, j1⟩
    have B1 := B1.no qk
    have B2 := B2.no qk
    have B3 := B3.no qk
    have B4 := B4.no qk
    have Sg := Sg.no qk
    have So := So.no qk
    have q := q.trans qk
    rw [k1] at j1
    cases j1
    refine go T_ok 200 rfl ?_
    refine ldA T_ok rfl rfl rfl rfl rfl B3.all ?_
    refine go T_ok 200 rfl ?_
    refine ldA T_ok rfl rfl rfl rfl rfl B4.all ?_
    refine go T_ok 200 rfl ?_
    refine call rfl rfl rfl (ok _ (by decide) rfl) (Chords_any (vS b v) (rS b r) _) ?_
    rintro x w ⟨A2, c2, e2, l2, rfl, S2, qk, j2⟩
    have B1 := B1.no qk
    have B2 := B2.no qk
    have B3 := B3.no qk
    have B4 := B4.no qk
    have Sg := Sg.no qk
    have So := So.no qk
    have S1 := S1.no qk
    have q := q.trans qk
    rw [k2] at j2
    cases j2
    refine go T_ok 200 rfl ?_
    repeat (first | (refine ldA T_ok rfl rfl rfl rfl rfl (Bk.all B1) ?_; refine go T_ok 200 rfl ?_) | (refine ldA T_ok rfl rfl rfl rfl rfl (Bk.all B2) ?_; refine go T_ok 200 rfl ?_) | (refine ldA T_ok rfl rfl rfl rfl rfl (Bk.all B3) ?_; refine go T_ok 200 rfl ?_) | (refine ldA T_ok rfl rfl rfl rfl rfl (Bk.all B4) ?_; refine go T_ok 200 rfl ?_) | (refine ld T_ok rfl rfl rfl rfl (Bk.get B1 rfl) ?_; refine go T_ok 200 rfl ?_) | (refine ld T_ok rfl rfl rfl rfl (Bk.get B2 rfl) ?_; refine go T_ok 200 rfl ?_) | (refine ld T_ok rfl rfl rfl rfl (Bk.get B3 rfl) ?_; refine go T_ok 200 rfl ?_) | (refine ld T_ok rfl rfl rfl rfl (Bk.get B4 rfl) ?_; refine go T_ok 200 rfl ?_) | (refine guardA (b := true) rfl rfl rfl rfl (fun _ => ?_) (fun e => by cases e); refine go T_ok 200 rfl ?_) | (refine guardA (b := false) rfl rfl rfl rfl (fun e => by cases e) (fun _ => ?_); refine go T_ok 200 rfl ?_) | (refine condT rfl rfl ?_; refine go T_ok 200 rfl ?_) | (refine condF rfl rfl ?_; refine go T_ok 200 rfl ?_))
    refine call rfl rfl rfl (ok _ (by decide) rfl) (Under_any v r g.l g.A g.c _ _ hg.ml Sg) ?_
    rintro x w ⟨A3, c3, e3, l3, rfl, S3, qk, j3⟩
    have B1 := B1.no qk
    have B2 := B2.no qk
    have B3 := B3.no qk
    have B4 := B4.no qk
    have Sg := Sg.no qk
    have So := So.no qk
    have S1 := S1.no qk
    have S2 := S2.no qk
    have q := q.trans qk
    rw [k3] at j3
    cases j3
    refine go T_ok 200 rfl ?_
    refine ldA T_ok rfl rfl rfl rfl rfl B3.all ?_
    refine go T_ok 200 rfl ?_
    refine ldA T_ok rfl rfl rfl rfl rfl B4.all ?_
    refine go T_ok 200 rfl ?_
    refine call rfl rfl rfl (ok _ (by decide) rfl) (Under_any (vS b v) (rS b r) (g.l.map (· * b)) _ _ _ _ (by rw [hll]; exact hg.ml) So) ?_
    rintro x w ⟨A4, c4, e4, l4, rfl, S4, qk, j4⟩
    have B1 := B1.no qk
    have B2 := B2.no qk
    have B3 := B3.no qk
    have B4 := B4.no qk
    have Sg := Sg.no qk
    have So := So.no qk
    have S1 := S1.no qk
    have S2 := S2.no qk
    have S3 := S3.no qk
    have q := q.trans qk
    rw [k4] at j4
    cases j4
    have z1 : (L1.map (scC b)).length = L1.length := List.length_map ..
    have z2 : (L2.map (scC b)).length = L2.length := List.length_map ..
    refine go T_ok 200 rfl ?_
    repeat (first | (refine guardA (b := true) rfl rfl rfl rfl (fun _ => ?_) (fun e => by cases e); refine go T_ok 200 rfl ?_) | (refine guardA (b := false) rfl rfl rfl rfl (fun e => by cases e) (fun _ => ?_); refine go T_ok 200 rfl ?_) | (refine condT rfl rfl ?_; refine go T_ok 200 rfl ?_) | (refine condF rfl rfl ?_; refine go T_ok 200 rfl ?_))
    refine guardA (b := false) rfl rfl rfl (congrArg Value.bool (by rw [z1]; simp)) (fun e => by cases e) (fun _ => ?_)
    refine go T_ok 200 rfl ?_
    refine condF rfl (by rw [z2]; simp) ?_
    refine go T_ok 200 rfl ?_
    refine loop [3, 13, 15, 17, 19, 21] (fun j : Nat => [.int .i64 b, .slice A1 L1.length c1, .slice A2 (L1.map (scC b)).length c2, .slice A3 L2.length c3, .slice A4 (L2.map (scC b)).length c4, .int .i64 (j : Int)])
      (fun j w' => j ≤ L1.length ∧ Chg No w w') (fun j => L1.length - j) 0 (fun _ => rfl) rfl ⟨by omega, Chg.refl _ _⟩ ?_
    rintro j τ w ⟨hj, qk⟩
    have p := qk
    have S1 := S1.no qk
    have S2 := S2.no qk
    have S3 := S3.no qk
    have S4 := S4.no qk
    have q := q.trans qk
    refine go T_ok 200 rfl ?_
    refine condD rfl (fun hlt => ?_) (fun hlt => ?_)
    · have hlt : j < L1.length := by omega
      obtain ⟨x, hx⟩ : ∃ x, L1[j]? = some x := ⟨_, List.getElem?_eq_getElem hlt⟩
      have hy : (L1.map (scC b))[j]? = some (scC b x) := by rw [List.getElem?_map, hx]; rfl
      obtain ⟨bx_, ox, hAx, hbx, hcx⟩ := S1.el cL_len hx
      obtain ⟨by_, oy, hAy, hby, hcy⟩ := S2.el cL_len hy
      have hlx : bx_ < w.heap.size := Nat.lt_of_lt_of_le hbx S1.2.1
      have hly : by_ < w.heap.size := Nat.lt_of_lt_of_le hby S2.2.1
      have kx : ∀ (n : Nat) (z : Value), nth? (cL x) n = some z → ∀ w', Chg No w w' → w'.cell? ⟨bx_, ox + j * 2 + n, none⟩ = some z := fun n z hz w' hS => (hS.cell (a := ⟨bx_, ox + j * 2 + n, none⟩) hlx (fun h => h)).trans (hcx.get hz)
      have ky : ∀ (n : Nat) (z : Value), nth? (cL (scC b x)) n = some z → ∀ w', Chg No w w' → w'.cell? ⟨by_, oy + j * 2 + n, none⟩ = some z := fun n z hz w' hS => (hS.cell (a := ⟨by_, oy + j * 2 + n, none⟩) hly (fun h => h)).trans (hcy.get hz)
      have hx0 := d1 x (List.mem_of_getElem? hx)
      have m7 := mul_bd (a := b) (b := x.2) (A := 100) (B := 24192000000) (by omega) (by omega) (by omega) (by omega)
      have e7 : w64 (b * x.2) = b * x.2 := w64_id (by omega) (by omega)
      have e8 : w64 ((j : Int) + 1) = ((j + 1 : Nat) : Int) := w64_id (by omega) (by omega)
      have hly2 : j < (L1.map (scC b)).length := by rw [List.length_map]; exact hlt
      rw [hAx, hAy]
      refine go T_ok 200 rfl ?_
      refine draw mixed (fun w' => Chg No w w') ([0,1,2,3,4,5,6,7,8,9,10,11,12,13,14,15,16,17,18,19,20,21,22,23,24,25].map (fun i => (i, true))) rfl (by kernel_rfl) (Chg.drew _) ?_
      refine goH T_ok 200 rfl ?_
      refine quietH rfl (fun w' hS => r_idx T_ok rfl rfl rfl rfl j rfl hly2) ?_
      refine goH T_ok 200 rfl ?_
      refine quietH rfl (fun w' hS => r_load T_ok rfl rfl rfl (ky 0 _ rfl w' hS)) ?_
      refine goH T_ok 200 rfl ?_
      refine quietH rfl (fun w' hS => r_idx T_ok rfl rfl rfl rfl j rfl hlt) ?_
      refine goH T_ok 200 rfl ?_
      refine quietH rfl (fun w' hS => r_load T_ok rfl rfl rfl (kx 0 _ rfl w' hS)) ?_
      refine goH T_ok 200 rfl ?_
      refine guardH (b := false) rfl rfl (congrArg Value.bool (by simp [scC])) (fun h => by cases h) (fun _ => ?_)
      refine goH T_ok 200 rfl ?_
      refine quietH rfl (fun w' hS => r_idx T_ok rfl rfl rfl rfl j rfl hly2) ?_
      refine goH T_ok 200 rfl ?_
      refine quietH rfl (fun w' hS => r_load T_ok rfl rfl rfl (ky 1 _ rfl w' hS)) ?_
      refine goH T_ok 200 rfl ?_
      refine quietH rfl (fun w' hS => r_idx T_ok rfl rfl rfl rfl j rfl hlt) ?_
      refine goH T_ok 200 rfl ?_
      refine quietH rfl (fun w' hS => r_load T_ok rfl rfl rfl (kx 1 _ rfl w' hS)) ?_
      refine goH T_ok 200 rfl ?_
      rw [e7]
      refine endH ?_
      have qk := Chg.drew w
      have S1 := S1.no qk
      have S2 := S2.no qk
      have S3 := S3.no qk
      have S4 := S4.no qk
      have p := p.no qk
      have q := q.trans qk
      refine go T_ok 200 rfl ?_
      refine condF rfl (by simp [scC]) ?_
      refine go T_ok 200 rfl ?_
      rw [e8]
      exact round ⟨j + 1, rfl, ⟨by omega, p⟩, by omega⟩
    refine go T_ok 200 rfl ?_
    refine loop [3, 13, 15, 17, 19, 22] (fun j : Nat => [.int .i64 b, .slice A1 L1.length c1, .slice A2 (L1.map (scC b)).length c2, .slice A3 L2.length c3, .slice A4 (L2.map (scC b)).length c4, .int .i64 (j : Int)])
      (fun j w' => j ≤ L2.length ∧ Chg No w w') (fun j => L2.length - j) 0 (fun _ => rfl) rfl ⟨by omega, Chg.refl _ _⟩ ?_
    rintro j τ w ⟨hj, qk⟩
    have p := qk
    have S1 := S1.no qk
    have S2 := S2.no qk
    have S3 := S3.no qk
    have S4 := S4.no qk
    have q := q.trans qk
    refine go T_ok 200 rfl ?_
    refine condD rfl (fun hlt => ?_) (fun hlt => ?_)
    · have hlt : j < L2.length := by omega
      obtain ⟨x, hx⟩ : ∃ x, L2[j]? = some x := ⟨_, List.getElem?_eq_getElem hlt⟩
      have hy : (L2.map (scC b))[j]? = some (scC b x) := by rw [List.getElem?_map, hx]; rfl
      obtain ⟨bx_, ox, hAx, hbx, hcx⟩ := S3.el cL_len hx
      obtain ⟨by_, oy, hAy, hby, hcy⟩ := S4.el cL_len hy
      have hlx : bx_ < w.heap.size := Nat.lt_of_lt_of_le hbx S3.2.1
      have hly : by_ < w.heap.size := Nat.lt_of_lt_of_le hby S4.2.1
      have kx : ∀ (n : Nat) (z : Value), nth? (cL x) n = some z → ∀ w', Chg No w w' → w'.cell? ⟨bx_, ox + j * 2 + n, none⟩ = some z := fun n z hz w' hS => (hS.cell (a := ⟨bx_, ox + j * 2 + n, none⟩) hlx (fun h => h)).trans (hcx.get hz)
      have ky : ∀ (n : Nat) (z : Value), nth? (cL (scC b x)) n = some z → ∀ w', Chg No w w' → w'.cell? ⟨by_, oy + j * 2 + n, none⟩ = some z := fun n z hz w' hS => (hS.cell (a := ⟨by_, oy + j * 2 + n, none⟩) hly (fun h => h)).trans (hcy.get hz)
      have hx0 := d2 x (List.mem_of_getElem? hx)
      have m7 := mul_bd (a := b) (b := x.2) (A := 100) (B := 24192000000) (by omega) (by omega) (by omega) (by omega)
      have e7 : w64 (b * x.2) = b * x.2 := w64_id (by omega) (by omega)
      have e8 : w64 ((j : Int) + 1) = ((j + 1 : Nat) : Int) := w64_id (by omega) (by omega)
      have hly2 : j < (L2.map (scC b)).length := by rw [List.length_map]; exact hlt
      rw [hAx, hAy]
      refine go T_ok 200 rfl ?_
      refine draw mixed (fun w' => Chg No w w') ([0,1,2,3,4,5,6,7,8,9,10,11,12,13,14,15,16,17,18,19,20,21,22,23,24,25].map (fun i => (i, true))) rfl (by kernel_rfl) (Chg.drew _) ?_
      refine goH T_ok 200 rfl ?_
      refine quietH rfl (fun w' hS => r_idx T_ok rfl rfl rfl rfl j rfl hly2) ?_
      refine goH T_ok 200 rfl ?_
      refine quietH rfl (fun w' hS => r_load T_ok rfl rfl rfl (ky 0 _ rfl w' hS)) ?_
      refine goH T_ok 200 rfl ?_
      refine quietH rfl (fun w' hS => r_idx T_ok rfl rfl rfl rfl j rfl hlt) ?_
      refine goH T_ok 200 rfl ?_
      refine quietH rfl (fun w' hS => r_load T_ok rfl rfl rfl (kx 0 _ rfl w' hS)) ?_
      refine goH T_ok 200 rfl ?_
      refine guardH (b := false) rfl rfl (congrArg Value.bool (by simp [scC])) (fun h => by cases h) (fun _ => ?_)
      refine goH T_ok 200 rfl ?_
      refine quietH rfl (fun w' hS => r_idx T_ok rfl rfl rfl rfl j rfl hly2) ?_
      refine goH T_ok 200 rfl ?_
      refine quietH rfl (fun w' hS => r_load T_ok rfl rfl rfl (ky 1 _ rfl w' hS)) ?_
      refine goH T_ok 200 rfl ?_
      refine quietH rfl (fun w' hS => r_idx T_ok rfl rfl rfl rfl j rfl hlt) ?_
      refine goH T_ok 200 rfl ?_
      refine quietH rfl (fun w' hS => r_load T_ok rfl rfl rfl (kx 1 _ rfl w' hS)) ?_
      refine goH T_ok 200 rfl ?_
      rw [e7]
      refine endH ?_
      have qk := Chg.drew w
      have S1 := S1.no qk
      have S2 := S2.no qk
      have S3 := S3.no qk
      have S4 := S4.no qk
      have p := p.no qk
      have q := q.trans qk
      refine go T_ok 200 rfl ?_
      refine condF rfl (by simp [scC]) ?_
      refine go T_ok 200 rfl ?_
      rw [e8]
      exact round ⟨j + 1, rfl, ⟨by omega, p⟩, by omega⟩
    refine go T_ok 200 rfl ?_
    refine call rfl rfl rfl (ok _ (by decide) rfl) (known_any _) ?_
    rintro v wk ⟨rfl, qk⟩
    refine go T_ok 200 rfl ?_
    exact ret (ret1 (v := .bool true) Try.results8 rfl ⟨rfl, q.trans qk⟩)
end Go.Proofs.Ytkkjfjeniaiaiaa
