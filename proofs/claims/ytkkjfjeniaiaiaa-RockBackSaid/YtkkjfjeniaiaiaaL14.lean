/- The walk of RockBack. -/
import Derived.Test.YtkkjfjeniaiaiaaL3
import Derived.Test.YtkkjfjeniaiaiaaS8
import Derived.Test.YtkkjfjeniaiaiaaE6
namespace Go.Proofs.Ytkkjfjeniaiaiaa
open Go.Ev Go.Proofs Go.Rock
attribute [local irreducible] At AtH
theorem thr_cases {v : Vo} {r : Ra} (hv : VoOk v) : ((thrL (pcs v r)).2.2 = 5 ∧ pcs v r = []) ∨ ((thrL (pcs v r)).2.2 = 0 ∧ ∀ T, (thrL (pcs v r)).2.1 ≤ T → ∀ p ∈ pcs v r, p.u ≤ T) := by
  have h := @thr_back v r hv
  generalize pcs v r = L at *
  cases L with
  | nil => exact .inl ⟨rfl, rfl⟩
  | cons p L => exact .inr ⟨rfl, fun T hT => h fun q hq => by
      have : q = (p :: L).getLast (by simp) := by rw [List.getLast?_eq_some_getLast (by simp)] at hq; exact (Option.some.inj hq).symm
      rw [this]; exact hT⟩
theorem thr_bd {v : Vo} {r : Ra} (hv : VoOk v) (hr : RaOk r) : -1 ≤ (thrL (pcs v r)).2.1 ∧ (thrL (pcs v r)).2.1 ≤ 24192000000 := by
  have h : ∀ p ∈ pcs v r, 0 ≤ p.u ∧ p.u ≤ 24192000000 := fun p hp => by
    have m := mem_pcs hv hp
    have := (ts_bd hv hr m.2.2.2.2.2.2).2
    omega
  generalize pcs v r = L at *
  cases L with
  | nil => exact ⟨by decide, by decide⟩
  | cons p L => have := h ((p :: L).getLast (by simp)) (List.getLast_mem _); exact ⟨by show -1 ≤ ((p :: L).getLast _).u; omega, this.2⟩
set_option maxRecDepth 20000 in
set_option maxHeartbeats 8000000 in
theorem walk_RockBack (v : Vo) (gr : Sli Int) (r : Ra) (n : Int) (w0 : World) (_hv : VoI v) (hg : InI w0 gr) (_hr : RaI r) (_hn : I64 n) :
    Ret Try.prog 14 [.agg (vL v).toArray, .slice gr.A gr.l.length gr.c, .agg (rL r).toArray, .int .i64 n] w0 fun x w' => x = .bool true ∧ Chg No w0 w' := by
  refine enter Try.func14 rfl Try.ntmps14 rfl ?_
  refine go T_ok 200 rfl ?_
  refine bx rfl rfl rfl (cs := vL v) rfl ?_
  intro g1 u1 hg1 hs1 q1 B1
  refine go T_ok 200 rfl ?_
  refine bx rfl rfl rfl (cs := rL r) rfl ?_
  intro g2 u2 hg2 hs2 q2 B2
  have hg12 : g1 < g2 := by have := B1.lt; omega
  have B1 := B1.no q2
  have q := q1.trans q2
  have Sg := hg.sl.no q
  refine go T_ok 200 rfl ?_
  repeat (first | (refine ldA T_ok rfl rfl rfl rfl rfl (Bk.all B1) ?_; refine go T_ok 200 rfl ?_) | (refine ldA T_ok rfl rfl rfl rfl rfl (Bk.all B2) ?_; refine go T_ok 200 rfl ?_) | (refine ld T_ok rfl rfl rfl rfl (Bk.get B1 rfl) ?_; refine go T_ok 200 rfl ?_) | (refine ld T_ok rfl rfl rfl rfl (Bk.get B2 rfl) ?_; refine go T_ok 200 rfl ?_) | (refine guardA (b := true) rfl rfl rfl rfl (fun _ => ?_) (fun e => by cases e); refine go T_ok 200 rfl ?_) | (refine guardA (b := false) rfl rfl rfl rfl (fun e => by cases e) (fun _ => ?_); refine go T_ok 200 rfl ?_) | (refine condT rfl rfl ?_; refine go T_ok 200 rfl ?_) | (refine condF rfl rfl ?_; refine go T_ok 200 rfl ?_))
  refine call rfl rfl rfl (ok _ (by decide) rfl) (rVolume_any v _) ?_
  rintro x w ⟨rfl, qk⟩
  have B1 := B1.no qk
  have B2 := B2.no qk
  have Sg := Sg.no qk
  have q := q.trans qk
  by_cases hv : VoOk v
  case neg =>
    rw [decide_eq_false hv]
    refine go T_ok 200 rfl ?_
    repeat (first | (refine guardA (b := true) rfl rfl rfl rfl (fun _ => ?_) (fun e => by cases e); refine go T_ok 200 rfl ?_) | (refine guardA (b := false) rfl rfl rfl rfl (fun e => by cases e) (fun _ => ?_); refine go T_ok 200 rfl ?_) | (refine condT rfl rfl ?_; refine go T_ok 200 rfl ?_) | (refine condF rfl rfl ?_; refine go T_ok 200 rfl ?_))
    refine call rfl rfl rfl (ok _ (by decide) rfl) (known_any _) ?_
    rintro v wk ⟨rfl, qk⟩
    refine go T_ok 200 rfl ?_
    exact ret (ret1 (v := .bool true) Try.results14 rfl ⟨rfl, q.trans qk⟩)
  rw [decide_eq_true hv]
  refine go T_ok 200 rfl ?_
  repeat (first | (refine ldA T_ok rfl rfl rfl rfl rfl (Bk.all B1) ?_; refine go T_ok 200 rfl ?_) | (refine ldA T_ok rfl rfl rfl rfl rfl (Bk.all B2) ?_; refine go T_ok 200 rfl ?_) | (refine ld T_ok rfl rfl rfl rfl (Bk.get B1 rfl) ?_; refine go T_ok 200 rfl ?_) | (refine ld T_ok rfl rfl rfl rfl (Bk.get B2 rfl) ?_; refine go T_ok 200 rfl ?_) | (refine guardA (b := true) rfl rfl rfl rfl (fun _ => ?_) (fun e => by cases e); refine go T_ok 200 rfl ?_) | (refine guardA (b := false) rfl rfl rfl rfl (fun e => by cases e) (fun _ => ?_); refine go T_ok 200 rfl ?_) | (refine condT rfl rfl ?_; refine go T_ok 200 rfl ?_) | (refine condF rfl rfl ?_; refine go T_ok 200 rfl ?_))
  refine call rfl rfl rfl (ok _ (by decide) rfl) (rRay_any r _) ?_
  rintro x w ⟨rfl, qk⟩
  have B1 := B1.no qk
  have B2 := B2.no qk
  have Sg := Sg.no qk
  have q := q.trans qk
  by_cases hr : RaOk r
  case neg =>
    rw [decide_eq_false hr]
    refine go T_ok 200 rfl ?_
    repeat (first | (refine guardA (b := true) rfl rfl rfl rfl (fun _ => ?_) (fun e => by cases e); refine go T_ok 200 rfl ?_) | (refine guardA (b := false) rfl rfl rfl rfl (fun e => by cases e) (fun _ => ?_); refine go T_ok 200 rfl ?_) | (refine condT rfl rfl ?_; refine go T_ok 200 rfl ?_) | (refine condF rfl rfl ?_; refine go T_ok 200 rfl ?_))
    refine call rfl rfl rfl (ok _ (by decide) rfl) (known_any _) ?_
    rintro v wk ⟨rfl, qk⟩
    refine go T_ok 200 rfl ?_
    exact ret (ret1 (v := .bool true) Try.results14 rfl ⟨rfl, q.trans qk⟩)
  rw [decide_eq_true hr]
  refine go T_ok 200 rfl ?_
  repeat (first | (refine ldA T_ok rfl rfl rfl rfl rfl (Bk.all B1) ?_; refine go T_ok 200 rfl ?_) | (refine ldA T_ok rfl rfl rfl rfl rfl (Bk.all B2) ?_; refine go T_ok 200 rfl ?_) | (refine ld T_ok rfl rfl rfl rfl (Bk.get B1 rfl) ?_; refine go T_ok 200 rfl ?_) | (refine ld T_ok rfl rfl rfl rfl (Bk.get B2 rfl) ?_; refine go T_ok 200 rfl ?_) | (refine guardA (b := true) rfl rfl rfl rfl (fun _ => ?_) (fun e => by cases e); refine go T_ok 200 rfl ?_) | (refine guardA (b := false) rfl rfl rfl rfl (fun e => by cases e) (fun _ => ?_); refine go T_ok 200 rfl ?_) | (refine condT rfl rfl ?_; refine go T_ok 200 rfl ?_) | (refine condF rfl rfl ?_; refine go T_ok 200 rfl ?_))
  refine call rfl rfl rfl (ok _ (by decide) rfl) (rGround_any v gr.l gr.A gr.c _ _ hv hg.ml Sg) ?_
  rintro x w ⟨rfl, qk⟩
  have B1 := B1.no qk
  have B2 := B2.no qk
  have Sg := Sg.no qk
  have q := q.trans qk
  by_cases hgr : GrOk v gr.l
  case neg =>
    rw [decide_eq_false hgr]
    refine go T_ok 200 rfl ?_
    repeat (first | (refine guardA (b := true) rfl rfl rfl rfl (fun _ => ?_) (fun e => by cases e); refine go T_ok 200 rfl ?_) | (refine guardA (b := false) rfl rfl rfl rfl (fun e => by cases e) (fun _ => ?_); refine go T_ok 200 rfl ?_) | (refine condT rfl rfl ?_; refine go T_ok 200 rfl ?_) | (refine condF rfl rfl ?_; refine go T_ok 200 rfl ?_))
    refine call rfl rfl rfl (ok _ (by decide) rfl) (known_any _) ?_
    rintro v wk ⟨rfl, qk⟩
    refine go T_ok 200 rfl ?_
    exact ret (ret1 (v := .bool true) Try.results14 rfl ⟨rfl, q.trans qk⟩)
  rw [decide_eq_true hgr]
  refine go T_ok 200 rfl ?_
  repeat (first | (refine ldA T_ok rfl rfl rfl rfl rfl (Bk.all B1) ?_; refine go T_ok 200 rfl ?_) | (refine ldA T_ok rfl rfl rfl rfl rfl (Bk.all B2) ?_; refine go T_ok 200 rfl ?_) | (refine ld T_ok rfl rfl rfl rfl (Bk.get B1 rfl) ?_; refine go T_ok 200 rfl ?_) | (refine ld T_ok rfl rfl rfl rfl (Bk.get B2 rfl) ?_; refine go T_ok 200 rfl ?_) | (refine guardA (b := true) rfl rfl rfl rfl (fun _ => ?_) (fun e => by cases e); refine go T_ok 200 rfl ?_) | (refine guardA (b := false) rfl rfl rfl rfl (fun e => by cases e) (fun _ => ?_); refine go T_ok 200 rfl ?_) | (refine condT rfl rfl ?_; refine go T_ok 200 rfl ?_) | (refine condF rfl rfl ?_; refine go T_ok 200 rfl ?_))
  refine guardD rfl rfl rfl (fun h1 => ?_) (fun h1 => ?_)
  · skip
    refine go T_ok 200 rfl ?_
    repeat (first | (refine guardA (b := true) rfl rfl rfl rfl (fun _ => ?_) (fun e => by cases e); refine go T_ok 200 rfl ?_) | (refine guardA (b := false) rfl rfl rfl rfl (fun e => by cases e) (fun _ => ?_); refine go T_ok 200 rfl ?_) | (refine condT rfl rfl ?_; refine go T_ok 200 rfl ?_) | (refine condF rfl rfl ?_; refine go T_ok 200 rfl ?_))
    refine call rfl rfl rfl (ok _ (by decide) rfl) (known_any _) ?_
    rintro v wk ⟨rfl, qk⟩
    refine go T_ok 200 rfl ?_
    exact ret (ret1 (v := .bool true) Try.results14 rfl ⟨rfl, q.trans qk⟩)
  refine go T_ok 200 rfl ?_
  repeat (first | (refine ldA T_ok rfl rfl rfl rfl rfl (Bk.all B1) ?_; refine go T_ok 200 rfl ?_) | (refine ldA T_ok rfl rfl rfl rfl rfl (Bk.all B2) ?_; refine go T_ok 200 rfl ?_) | (refine ld T_ok rfl rfl rfl rfl (Bk.get B1 rfl) ?_; refine go T_ok 200 rfl ?_) | (refine ld T_ok rfl rfl rfl rfl (Bk.get B2 rfl) ?_; refine go T_ok 200 rfl ?_) | (refine guardA (b := true) rfl rfl rfl rfl (fun _ => ?_) (fun e => by cases e); refine go T_ok 200 rfl ?_) | (refine guardA (b := false) rfl rfl rfl rfl (fun e => by cases e) (fun _ => ?_); refine go T_ok 200 rfl ?_) | (refine condT rfl rfl ?_; refine go T_ok 200 rfl ?_) | (refine condF rfl rfl ?_; refine go T_ok 200 rfl ?_))
  refine condD rfl (fun h2 => ?_) (fun h2 => ?_)
  · refine go T_ok 200 rfl ?_
    refine call rfl rfl rfl (ok _ (by decide) rfl) (known_any _) ?_
    rintro v wk ⟨rfl, qk⟩
    refine go T_ok 200 rfl ?_
    exact ret (ret1 (v := .bool true) Try.results14 rfl ⟨rfl, q.trans qk⟩)
  have hvo := hv
  unfold VoOk at hvo
  have hro := hr
  unfold RaOk at hro
  have t0 := tk_pos r
  have t1 := tk_le hr
  have mT := mul_bd (a := n) (b := tk r) (A := 100000) (B := 216000) (by omega) (by omega) (by omega) t1
  have mm : ∀ x : Int, -60 ≤ x → x ≤ 60 → -6000000 ≤ n * x ∧ n * x ≤ 6000000 := fun x hx hx' => by
    rcases Int.le_total 0 x with h | h
    · have := mul_bd (a := n) (b := x) (A := 100000) (B := 60) (by omega) (by omega) (by omega) (by omega); omega
    · have := mul_bd (a := n) (b := -x) (A := 100000) (B := 60) (by omega) (by omega) (by omega) (by omega)
      rw [Int.mul_neg] at this; omega
  have mx := mm r.dx (by omega) (by omega)
  have my := mm r.dy (by omega) (by omega)
  have mz := mm r.dz (by omega) (by omega)
  have ex : w64 (n * r.dx) = n * r.dx := w64_id (by omega) (by omega)
  have ey : w64 (n * r.dy) = n * r.dy := w64_id (by omega) (by omega)
  have ez : w64 (n * r.dz) = n * r.dz := w64_id (by omega) (by omega)
  have fx : w64 (r.x + n * r.dx) = r.x + n * r.dx := w64_id (by omega) (by omega)
  have fy : w64 (r.y + n * r.dy) = r.y + n * r.dy := w64_id (by omega) (by omega)
  have fz : w64 (r.z + n * r.dz) = r.z + n * r.dz := w64_id (by omega) (by omega)
  have nx : w64 (0 - r.dx) = -r.dx := by rw [w64_id (by omega) (by omega)]; omega
  have ny : w64 (0 - r.dy) = -r.dy := by rw [w64_id (by omega) (by omega)]; omega
  have nz : w64 (0 - r.dz) = -r.dz := by rw [w64_id (by omega) (by omega)]; omega
  have eT : w64 (n * tk r) = n * tk r := w64_id (by omega) (by omega)
  refine go T_ok 200 rfl ?_
  repeat (first | (refine ldA T_ok rfl rfl rfl rfl rfl (Bk.all B1) ?_; refine go T_ok 200 rfl ?_) | (refine ldA T_ok rfl rfl rfl rfl rfl (Bk.all B2) ?_; refine go T_ok 200 rfl ?_) | (refine ld T_ok rfl rfl rfl rfl (Bk.get B1 rfl) ?_; refine go T_ok 200 rfl ?_) | (refine ld T_ok rfl rfl rfl rfl (Bk.get B2 rfl) ?_; refine go T_ok 200 rfl ?_) | (refine guardA (b := true) rfl rfl rfl rfl (fun _ => ?_) (fun e => by cases e); refine go T_ok 200 rfl ?_) | (refine guardA (b := false) rfl rfl rfl rfl (fun e => by cases e) (fun _ => ?_); refine go T_ok 200 rfl ?_) | (refine condT rfl rfl ?_; refine go T_ok 200 rfl ?_) | (refine condF rfl rfl ?_; refine go T_ok 200 rfl ?_))
  rw [ex, ey, ez, fx, fy, fz, nx, ny, nz]
  have yB1 := B1.lt
  have yB2 := B2.lt
  have ySg := Sg.2.1
  have yq := q.size
  refine nw rfl rfl (z := .agg #[I 0, I 0, I 0, I 0, I 0, I 0]) (by kernel_rfl) (cs := [I 0, I 0, I 0, I 0, I 0, I 0]) rfl ?_
  intro g3 w hg3 hs3 qk B3
  have B1 := B1.no qk
  have B2 := B2.no qk
  have Sg := Sg.no qk
  have q := q.trans qk
  refine go T_ok 200 rfl ?_
  refine stA T_ok rfl rfl rfl rfl (vs := rL (rB n r)) rfl rfl rfl B3 rfl ?_
  intro w qk B3 hz3
  have B3 : Bk w g3 26 (rL (rB n r)) := B3
  have B1 := Bk.keep B1 qk (by omega)
  have B2 := Bk.keep B2 qk (by omega)
  have Sg := Sl.keep Sg qk (fun k hk e => by omega)
  have q := q.step qk (fun k hk e => by omega)
  refine go T_ok 200 rfl ?_
  repeat (first | (refine ldA T_ok rfl rfl rfl rfl rfl (Bk.all B1) ?_; refine go T_ok 200 rfl ?_) | (refine ldA T_ok rfl rfl rfl rfl rfl (Bk.all B2) ?_; refine go T_ok 200 rfl ?_) | (refine ldA T_ok rfl rfl rfl rfl rfl (Bk.all B3) ?_; refine go T_ok 200 rfl ?_) | (refine ld T_ok rfl rfl rfl rfl (Bk.get B1 rfl) ?_; refine go T_ok 200 rfl ?_) | (refine ld T_ok rfl rfl rfl rfl (Bk.get B2 rfl) ?_; refine go T_ok 200 rfl ?_) | (refine ld T_ok rfl rfl rfl rfl (Bk.get B3 rfl) ?_; refine go T_ok 200 rfl ?_) | (refine guardA (b := true) rfl rfl rfl rfl (fun _ => ?_) (fun e => by cases e); refine go T_ok 200 rfl ?_) | (refine guardA (b := false) rfl rfl rfl rfl (fun e => by cases e) (fun _ => ?_); refine go T_ok 200 rfl ?_) | (refine condT rfl rfl ?_; refine go T_ok 200 rfl ?_) | (refine condF rfl rfl ?_; refine go T_ok 200 rfl ?_))
  refine call rfl rfl rfl (ok _ (by decide) rfl) (rRay_any (rB n r) _) ?_
  rintro x w ⟨rfl, qk⟩
  have B1 := B1.no qk
  have B2 := B2.no qk
  have Sg := Sg.no qk
  have B3 := B3.no qk
  have q := q.trans qk
  by_cases hs : RaOk (rB n r)
  case neg =>
    rw [decide_eq_false hs]
    refine go T_ok 200 rfl ?_
    repeat (first | (refine guardA (b := true) rfl rfl rfl rfl (fun _ => ?_) (fun e => by cases e); refine go T_ok 200 rfl ?_) | (refine guardA (b := false) rfl rfl rfl rfl (fun e => by cases e) (fun _ => ?_); refine go T_ok 200 rfl ?_) | (refine condT rfl rfl ?_; refine go T_ok 200 rfl ?_) | (refine condF rfl rfl ?_; refine go T_ok 200 rfl ?_))
    refine call rfl rfl rfl (ok _ (by decide) rfl) (known_any _) ?_
    rintro v wk ⟨rfl, qk⟩
    refine go T_ok 200 rfl ?_
    exact ret (ret1 (v := .bool true) Try.results14 rfl ⟨rfl, q.trans qk⟩)
  rw [decide_eq_true hs]
  have k6 : thR v r = thrL (pcs v r) := by unfold thR; rw [if_pos ⟨hv, hr⟩]
  refine go T_ok 200 rfl ?_
  repeat (first | (refine ldA T_ok rfl rfl rfl rfl rfl (Bk.all B1) ?_; refine go T_ok 200 rfl ?_) | (refine ldA T_ok rfl rfl rfl rfl rfl (Bk.all B2) ?_; refine go T_ok 200 rfl ?_) | (refine ldA T_ok rfl rfl rfl rfl rfl (Bk.all B3) ?_; refine go T_ok 200 rfl ?_) | (refine ld T_ok rfl rfl rfl rfl (Bk.get B1 rfl) ?_; refine go T_ok 200 rfl ?_) | (refine ld T_ok rfl rfl rfl rfl (Bk.get B2 rfl) ?_; refine go T_ok 200 rfl ?_) | (refine ld T_ok rfl rfl rfl rfl (Bk.get B3 rfl) ?_; refine go T_ok 200 rfl ?_) | (refine guardA (b := true) rfl rfl rfl rfl (fun _ => ?_) (fun e => by cases e); refine go T_ok 200 rfl ?_) | (refine guardA (b := false) rfl rfl rfl rfl (fun e => by cases e) (fun _ => ?_); refine go T_ok 200 rfl ?_) | (refine condT rfl rfl ?_; refine go T_ok 200 rfl ?_) | (refine condF rfl rfl ?_; refine go T_ok 200 rfl ?_))
  refine call rfl rfl rfl (ok _ (by decide) rfl) (Ticks_any r _) ?_
  rintro x w ⟨rfl, qk⟩
  have B1 := B1.no qk
  have B2 := B2.no qk
  have Sg := Sg.no qk
  have B3 := B3.no qk
  have q := q.trans qk
  rw [if_pos hr, if_pos hr]
  refine go T_ok 200 rfl ?_
  repeat (first | (refine ldA T_ok rfl rfl rfl rfl rfl (Bk.all B1) ?_; refine go T_ok 200 rfl ?_) | (refine ldA T_ok rfl rfl rfl rfl rfl (Bk.all B2) ?_; refine go T_ok 200 rfl ?_) | (refine ldA T_ok rfl rfl rfl rfl rfl (Bk.all B3) ?_; refine go T_ok 200 rfl ?_) | (refine ld T_ok rfl rfl rfl rfl (Bk.get B1 rfl) ?_; refine go T_ok 200 rfl ?_) | (refine ld T_ok rfl rfl rfl rfl (Bk.get B2 rfl) ?_; refine go T_ok 200 rfl ?_) | (refine ld T_ok rfl rfl rfl rfl (Bk.get B3 rfl) ?_; refine go T_ok 200 rfl ?_) | (refine guardA (b := true) rfl rfl rfl rfl (fun _ => ?_) (fun e => by cases e); refine go T_ok 200 rfl ?_) | (refine guardA (b := false) rfl rfl rfl rfl (fun e => by cases e) (fun _ => ?_); refine go T_ok 200 rfl ?_) | (refine condT rfl rfl ?_; refine go T_ok 200 rfl ?_) | (refine condF rfl rfl ?_; refine go T_ok 200 rfl ?_))
  refine call rfl rfl rfl (ok _ (by decide) rfl) (Through_any v r _) ?_
  rintro x w ⟨rfl, qk⟩
  have B1 := B1.no qk
  have B2 := B2.no qk
  have Sg := Sg.no qk
  have B3 := B3.no qk
  have q := q.trans qk
  rw [k6]
  have htc := thr_cases (r := r) hv
  have htb := thr_bd hv hr
  have hbt := back_btw (k := n) hv hr hs
  have htl := fun h => back_tell (k := n) hv hr hs h gr.l
  have kb1 : btR v r 0 (n * tk r) = (0, chs (cutS (btw 0 (n * tk r)) (pcs v r))) := by unfold btR; rw [if_pos ⟨hv, hr, by omega, by omega, by omega⟩]
  have kb2 : btR v (rB n r) 0 (n * tk r) = (0, chs (cutS (btw 0 (n * tk r)) (pcs v (rB n r)))) := by unfold btR; rw [if_pos ⟨hv, hs, by omega, by omega, by omega⟩]
  have ku1 : unR v r gr.l = (0, chs (cutS (und v r gr.l) (pcs v r))) := by unfold unR; rw [if_pos ⟨hv, hr, hgr⟩]
  have ku2 : unR v (rB n r) gr.l = (0, chs (cutS (und v (rB n r) gr.l) (pcs v (rB n r)))) := by unfold unR; rw [if_pos ⟨hv, hs, hgr⟩]
  rw [hbt] at kb2
  have lc : (chs (cutS (btw 0 (n * tk r)) (pcs v r))).length ≤ 40 := by rw [chs_len]; exact cut_len r _ hv
  have lx : (chs (cutS (und v r gr.l) (pcs v r))).length ≤ 40 := by rw [chs_len]; exact cut_len r _ hv
  have ly : (chs (cutS (und v (rB n r) gr.l) (pcs v (rB n r)))).length ≤ 40 := by rw [chs_len]; exact cut_len _ _ hv
  generalize chs (cutS (btw 0 (n * tk r)) (pcs v r)) = C at *
  generalize chs (cutS (und v r gr.l) (pcs v r)) = X at *
  generalize chs (cutS (und v (rB n r) gr.l) (pcs v (rB n r))) = Y at *
  generalize pcs v r = L at *
  generalize htk : tk r = t at *
  clear mm
  refine go T_ok 8 rfl ?_
  refine join [1, 3, 4, 6, 9, 10, 13, 14] (fun _ : Unit => [.slice gr.A gr.l.length gr.c, .int .i64 n, .pointer (some ⟨g1, 0, none⟩), .pointer (some ⟨g2, 0, none⟩), .pointer (some ⟨g3, 0, none⟩), .int .i64 t, .int .i64 (thrL L).2.1, .int .i64 (thrL L).2.2])
    (fun _ w' => w' = w) (fun _ => rfl) ?_ ?_
  · refine go T_ok 200 rfl ?_
    repeat (first | (refine guardA (b := true) rfl rfl rfl rfl (fun _ => ?_) (fun e => by cases e); refine go T_ok 200 rfl ?_) | (refine guardA (b := false) rfl rfl rfl rfl (fun e => by cases e) (fun _ => ?_); refine go T_ok 200 rfl ?_) | (refine condT rfl rfl ?_; refine go T_ok 200 rfl ?_) | (refine condF rfl rfl ?_; refine go T_ok 200 rfl ?_))
    refine guardA (b := false) rfl rfl rfl (congrArg Value.bool (decide_eq_false (by omega))) (fun e => by cases e) (fun _ => ?_)
    refine go T_ok 200 rfl ?_
    repeat (first | (refine guardA (b := true) rfl rfl rfl rfl (fun _ => ?_) (fun e => by cases e); refine go T_ok 200 rfl ?_) | (refine guardA (b := false) rfl rfl rfl rfl (fun e => by cases e) (fun _ => ?_); refine go T_ok 200 rfl ?_) | (refine condT rfl rfl ?_; refine go T_ok 200 rfl ?_) | (refine condF rfl rfl ?_; refine go T_ok 200 rfl ?_))
    refine guardA (b := false) rfl rfl rfl (congrArg Value.bool (decide_eq_false (by omega))) (fun e => by cases e) (fun _ => ?_)
    rcases htc with ⟨e5, _⟩ | ⟨e5, _⟩
    · rw [e5]
      refine go T_ok 200 rfl ?_
      repeat (first | (refine guardA (b := true) rfl rfl rfl rfl (fun _ => ?_) (fun e => by cases e); refine go T_ok 200 rfl ?_) | (refine guardA (b := false) rfl rfl rfl rfl (fun e => by cases e) (fun _ => ?_); refine go T_ok 200 rfl ?_) | (refine condT rfl rfl ?_; refine go T_ok 200 rfl ?_) | (refine condF rfl rfl ?_; refine go T_ok 200 rfl ?_))
      exact round ⟨(), rfl, rfl⟩
    · rw [e5]
      refine go T_ok 200 rfl ?_
      repeat (first | (refine guardA (b := true) rfl rfl rfl rfl (fun _ => ?_) (fun e => by cases e); refine go T_ok 200 rfl ?_) | (refine guardA (b := false) rfl rfl rfl rfl (fun e => by cases e) (fun _ => ?_); refine go T_ok 200 rfl ?_) | (refine condT rfl rfl ?_; refine go T_ok 200 rfl ?_) | (refine condF rfl rfl ?_; refine go T_ok 200 rfl ?_))
      exact round ⟨(), rfl, rfl⟩
  rintro ⟨⟩ τ w' rfl
  refine go T_ok 1 rfl ?_
  refine join [1, 3, 4, 6, 9, 10] (fun _ : Unit => [.slice gr.A gr.l.length gr.c, .int .i64 n, .pointer (some ⟨g1, 0, none⟩), .pointer (some ⟨g2, 0, none⟩), .pointer (some ⟨g3, 0, none⟩), .int .i64 t])
    (fun _ w'' => w'' = w' ∧ ∀ p ∈ L, p.u ≤ n * t) (fun _ => rfl) ?_ ?_
  · rcases htc with ⟨e5, e6⟩ | ⟨e5, e6⟩
    · rw [e5]
      refine go T_ok 200 rfl ?_
      repeat (first | (refine guardA (b := true) rfl rfl rfl rfl (fun _ => ?_) (fun e => by cases e); refine go T_ok 200 rfl ?_) | (refine guardA (b := false) rfl rfl rfl rfl (fun e => by cases e) (fun _ => ?_); refine go T_ok 200 rfl ?_) | (refine condT rfl rfl ?_; refine go T_ok 200 rfl ?_) | (refine condF rfl rfl ?_; refine go T_ok 200 rfl ?_))
      exact round ⟨(), rfl, rfl, fun p hp => by rw [e6] at hp; cases hp⟩
    · rw [e5]
      refine go T_ok 200 rfl ?_
      repeat (first | (refine guardA (b := true) rfl rfl rfl rfl (fun _ => ?_) (fun e => by cases e); refine go T_ok 200 rfl ?_) | (refine guardA (b := false) rfl rfl rfl rfl (fun e => by cases e) (fun _ => ?_); refine go T_ok 200 rfl ?_) | (refine condT rfl rfl ?_; refine go T_ok 200 rfl ?_) | (refine condF rfl rfl ?_; refine go T_ok 200 rfl ?_))
      rw [eT]
      refine condD rfl (fun h3 => ?_) (fun h3 => ?_)
      · refine go T_ok 200 rfl ?_
        refine call rfl rfl rfl (ok _ (by decide) rfl) (known_any _) ?_
        rintro v wk ⟨rfl, qk⟩
        refine go T_ok 200 rfl ?_
        exact ret (ret1 (v := .bool true) Try.results14 rfl ⟨rfl, q.trans qk⟩)
      · refine go T_ok 200 rfl ?_
        repeat (first | (refine guardA (b := true) rfl rfl rfl rfl (fun _ => ?_) (fun e => by cases e); refine go T_ok 200 rfl ?_) | (refine guardA (b := false) rfl rfl rfl rfl (fun e => by cases e) (fun _ => ?_); refine go T_ok 200 rfl ?_) | (refine condT rfl rfl ?_; refine go T_ok 200 rfl ?_) | (refine condF rfl rfl ?_; refine go T_ok 200 rfl ?_))
        exact round ⟨(), rfl, rfl, e6 _ (by omega)⟩
  rintro ⟨⟩ τ w ⟨rfl, hL⟩
  have htl := htl hL
  refine go T_ok 200 rfl ?_
  repeat (first | (refine ldA T_ok rfl rfl rfl rfl rfl (Bk.all B1) ?_; refine go T_ok 200 rfl ?_) | (refine ldA T_ok rfl rfl rfl rfl rfl (Bk.all B2) ?_; refine go T_ok 200 rfl ?_) | (refine ldA T_ok rfl rfl rfl rfl rfl (Bk.all B3) ?_; refine go T_ok 200 rfl ?_) | (refine ld T_ok rfl rfl rfl rfl (Bk.get B1 rfl) ?_; refine go T_ok 200 rfl ?_) | (refine ld T_ok rfl rfl rfl rfl (Bk.get B2 rfl) ?_; refine go T_ok 200 rfl ?_) | (refine ld T_ok rfl rfl rfl rfl (Bk.get B3 rfl) ?_; refine go T_ok 200 rfl ?_) | (refine guardA (b := true) rfl rfl rfl rfl (fun _ => ?_) (fun e => by cases e); refine go T_ok 200 rfl ?_) | (refine guardA (b := false) rfl rfl rfl rfl (fun e => by cases e) (fun _ => ?_); refine go T_ok 200 rfl ?_) | (refine condT rfl rfl ?_; refine go T_ok 200 rfl ?_) | (refine condF rfl rfl ?_; refine go T_ok 200 rfl ?_))
  rw [eT]
  refine call rfl rfl rfl (ok _ (by decide) rfl) (Between_any v r 0 (n * t) _) ?_
  rintro x w ⟨A1, c1, e1, l1, rfl, S1, qk, j1⟩
  have B1 := B1.no qk
  have B2 := B2.no qk
  have B3 := B3.no qk
  have Sg := Sg.no qk
  have q := q.trans qk
  rw [kb1] at j1
  cases j1
  refine go T_ok 200 rfl ?_
  repeat (first | (refine ldA T_ok rfl rfl rfl rfl rfl (Bk.all B1) ?_; refine go T_ok 200 rfl ?_) | (refine ldA T_ok rfl rfl rfl rfl rfl (Bk.all B2) ?_; refine go T_ok 200 rfl ?_) | (refine ldA T_ok rfl rfl rfl rfl rfl (Bk.all B3) ?_; refine go T_ok 200 rfl ?_) | (refine ld T_ok rfl rfl rfl rfl (Bk.get B1 rfl) ?_; refine go T_ok 200 rfl ?_) | (refine ld T_ok rfl rfl rfl rfl (Bk.get B2 rfl) ?_; refine go T_ok 200 rfl ?_) | (refine ld T_ok rfl rfl rfl rfl (Bk.get B3 rfl) ?_; refine go T_ok 200 rfl ?_) | (refine guardA (b := true) rfl rfl rfl rfl (fun _ => ?_) (fun e => by cases e); refine go T_ok 200 rfl ?_) | (refine guardA (b := false) rfl rfl rfl rfl (fun e => by cases e) (fun _ => ?_); refine go T_ok 200 rfl ?_) | (refine condT rfl rfl ?_; refine go T_ok 200 rfl ?_) | (refine condF rfl rfl ?_; refine go T_ok 200 rfl ?_))
  rw [eT]
  refine call rfl rfl rfl (ok _ (by decide) rfl) (Between_any v (rB n r) 0 (n * t) _) ?_
  rintro x w ⟨A2, c2, e2, l2, rfl, S2, qk, j2⟩
  have B1 := B1.no qk
  have B2 := B2.no qk
  have B3 := B3.no qk
  have Sg := Sg.no qk
  have S1 := S1.no qk
  have q := q.trans qk
  rw [kb2] at j2
  cases j2
  refine go T_ok 200 rfl ?_
  repeat (first | (refine ldA T_ok rfl rfl rfl rfl rfl (Bk.all B1) ?_; refine go T_ok 200 rfl ?_) | (refine ldA T_ok rfl rfl rfl rfl rfl (Bk.all B2) ?_; refine go T_ok 200 rfl ?_) | (refine ldA T_ok rfl rfl rfl rfl rfl (Bk.all B3) ?_; refine go T_ok 200 rfl ?_) | (refine ld T_ok rfl rfl rfl rfl (Bk.get B1 rfl) ?_; refine go T_ok 200 rfl ?_) | (refine ld T_ok rfl rfl rfl rfl (Bk.get B2 rfl) ?_; refine go T_ok 200 rfl ?_) | (refine ld T_ok rfl rfl rfl rfl (Bk.get B3 rfl) ?_; refine go T_ok 200 rfl ?_) | (refine guardA (b := true) rfl rfl rfl rfl (fun _ => ?_) (fun e => by cases e); refine go T_ok 200 rfl ?_) | (refine guardA (b := false) rfl rfl rfl rfl (fun e => by cases e) (fun _ => ?_); refine go T_ok 200 rfl ?_) | (refine condT rfl rfl ?_; refine go T_ok 200 rfl ?_) | (refine condF rfl rfl ?_; refine go T_ok 200 rfl ?_))
  refine call rfl rfl rfl (ok _ (by decide) rfl) (Under_any v r gr.l gr.A gr.c _ _ hg.ml Sg) ?_
  rintro x w ⟨A3, c3, e3, l3, rfl, S3, qk, j3⟩
  have B1 := B1.no qk
  have B2 := B2.no qk
  have B3 := B3.no qk
  have Sg := Sg.no qk
  have S1 := S1.no qk
  have S2 := S2.no qk
  have q := q.trans qk
  rw [ku1] at j3
  cases j3
  refine go T_ok 200 rfl ?_
  repeat (first | (refine ldA T_ok rfl rfl rfl rfl rfl (Bk.all B1) ?_; refine go T_ok 200 rfl ?_) | (refine ldA T_ok rfl rfl rfl rfl rfl (Bk.all B2) ?_; refine go T_ok 200 rfl ?_) | (refine ldA T_ok rfl rfl rfl rfl rfl (Bk.all B3) ?_; refine go T_ok 200 rfl ?_) | (refine ld T_ok rfl rfl rfl rfl (Bk.get B1 rfl) ?_; refine go T_ok 200 rfl ?_) | (refine ld T_ok rfl rfl rfl rfl (Bk.get B2 rfl) ?_; refine go T_ok 200 rfl ?_) | (refine ld T_ok rfl rfl rfl rfl (Bk.get B3 rfl) ?_; refine go T_ok 200 rfl ?_) | (refine guardA (b := true) rfl rfl rfl rfl (fun _ => ?_) (fun e => by cases e); refine go T_ok 200 rfl ?_) | (refine guardA (b := false) rfl rfl rfl rfl (fun e => by cases e) (fun _ => ?_); refine go T_ok 200 rfl ?_) | (refine condT rfl rfl ?_; refine go T_ok 200 rfl ?_) | (refine condF rfl rfl ?_; refine go T_ok 200 rfl ?_))
  refine call rfl rfl rfl (ok _ (by decide) rfl) (Under_any v (rB n r) gr.l gr.A gr.c _ _ hg.ml Sg) ?_
  rintro x w ⟨A4, c4, e4, l4, rfl, S4, qk, j4⟩
  have B1 := B1.no qk
  have B2 := B2.no qk
  have B3 := B3.no qk
  have Sg := Sg.no qk
  have S1 := S1.no qk
  have S2 := S2.no qk
  have S3 := S3.no qk
  have q := q.trans qk
  rw [ku2] at j4
  cases j4
  have hrl : C.reverse.length = C.length := List.length_reverse ..
  refine go T_ok 200 rfl ?_
  repeat (first | (refine guardA (b := true) rfl rfl rfl rfl (fun _ => ?_) (fun e => by cases e); refine go T_ok 200 rfl ?_) | (refine guardA (b := false) rfl rfl rfl rfl (fun e => by cases e) (fun _ => ?_); refine go T_ok 200 rfl ?_) | (refine condT rfl rfl ?_; refine go T_ok 200 rfl ?_) | (refine condF rfl rfl ?_; refine go T_ok 200 rfl ?_))
  refine condF rfl (by rw [hrl]; simp) ?_
  refine go T_ok 200 rfl ?_
  refine loop [15, 17, 19, 21, 23] (fun j : Nat => [.slice A1 C.length c1, .slice A2 C.reverse.length c2, .slice A3 X.length c3, .slice A4 Y.length c4, .int .i64 (j : Int)])
    (fun j w' => j ≤ C.length ∧ Chg No w w') (fun j => C.length - j) 0 (fun _ => rfl) rfl ⟨by omega, Chg.refl _ _⟩ ?_
  rintro j τ w ⟨hj, qk⟩
  have p := qk
  have S1 := S1.no qk
  have S2 := S2.no qk
  have S3 := S3.no qk
  have S4 := S4.no qk
  have q := q.trans qk
  refine go T_ok 200 rfl ?_
  refine condD rfl (fun hlt => ?_) (fun hlt => ?_)
  · have hlt : j < C.length := by omega
    obtain ⟨a, ha⟩ : ∃ x, C[j]? = some x := ⟨_, List.getElem?_eq_getElem hlt⟩
    have hb : C.reverse[C.length - 1 - j]? = some a := by rw [List.getElem?_reverse (by omega), show C.length - 1 - (C.length - 1 - j) = j by omega]; exact ha
    obtain ⟨b1, o1, hA1, hb1, hc1⟩ := S1.el cL_len ha
    obtain ⟨b2, o2, hA2, hb2, hc2⟩ := S2.el cL_len hb
    have l1 : b1 < w.heap.size := Nat.lt_of_lt_of_le hb1 S1.2.1
    have l2 : b2 < w.heap.size := Nat.lt_of_lt_of_le hb2 S2.2.1
    have f1 : w64 ((C.reverse.length : Int) - 1) = (C.length : Int) - 1 := by rw [hrl]; exact w64_id (by omega) (by omega)
    have f2 : w64 ((C.length : Int) - 1 - (j : Int)) = ((C.length - 1 - j : Nat) : Int) := by rw [w64_id (by omega) (by omega)]; omega
    have f3 : w64 ((j : Int) + 1) = ((j + 1 : Nat) : Int) := w64_id (by omega) (by omega)
    rw [hA1, hA2]
    refine go T_ok 200 rfl ?_
    refine draw mixed (fun w' => Chg No w w') ([0,1,2,3,4,5,6,7,8,9,10,11,12].map (fun i => (i, true))) rfl (by kernel_rfl) (Chg.drew _) ?_
    refine goH T_ok 200 rfl ?_
    refine quietH rfl (fun w' hS => r_idx T_ok rfl rfl rfl rfl j rfl hlt) ?_
    refine goH T_ok 200 rfl ?_
    refine quietH rfl (fun w' hS => r_loadA T_ok rfl rfl rfl (cs := cL a) rfl (hc1.keep l1 hS (fun h => h))) ?_
    refine goH T_ok 200 rfl ?_
    rw [f1, f2]
    refine quietH rfl (fun w' hS => r_idx T_ok rfl rfl rfl rfl (C.length - 1 - j) rfl (by omega)) ?_
    refine goH T_ok 200 rfl ?_
    refine quietH rfl (fun w' hS => r_loadA T_ok rfl rfl rfl (cs := cL a) rfl (hc2.keep l2 hS (fun h => h))) ?_
    refine goH T_ok 200 rfl ?_
    refine quietH rfl (fun w' hS => r_neqS rfl (l := [a.1, a.2]) (m := [a.1, a.2]) eqStr59 rfl rfl rfl) ?_
    refine endH ?_
    have qk := Chg.drew w
    have S1 := S1.no qk
    have S2 := S2.no qk
    have S3 := S3.no qk
    have S4 := S4.no qk
    have p := p.no qk
    have q := q.trans qk
    refine go T_ok 200 rfl ?_
    refine condF rfl (by simp) ?_
    refine go T_ok 200 rfl ?_
    rw [f3]
    exact round ⟨j + 1, rfl, ⟨by omega, p⟩, by omega⟩
  clear p
  refine go T_ok 200 rfl ?_
  refine loop [19, 21, 24] (fun j : Nat => [.slice A3 X.length c3, .slice A4 Y.length c4, .int .i64 (j : Int)])
    (fun j w' => j ≤ X.length ∧ Chg No w w') (fun j => X.length - j) 0 (fun _ => rfl) rfl ⟨by omega, Chg.refl _ _⟩ ?_
  rintro m τ w ⟨hm, qk⟩
  have p := qk
  have S3 := S3.no qk
  have S4 := S4.no qk
  have q := q.trans qk
  refine go T_ok 200 rfl ?_
  refine condD rfl (fun hlt => ?_) (fun hlt => ?_)
  · have hlt : m < X.length := by omega
    obtain ⟨a, b, ha, hb, hab1, hab2, hab3⟩ := htl.at hlt
    have hly : m < Y.length := (List.getElem?_eq_some_iff.1 hb).1
    obtain ⟨b1, o1, hA1, hb1, hc1⟩ := S3.el cL_len ha
    obtain ⟨b2, o2, hA2, hb2, hc2⟩ := S4.el cL_len hb
    have l1 : b1 < w.heap.size := Nat.lt_of_lt_of_le hb1 S3.2.1
    have l2 : b2 < w.heap.size := Nat.lt_of_lt_of_le hb2 S4.2.1
    have kx : ∀ (i : Nat) (z : Value), nth? (cL a) i = some z → ∀ w', Chg No w w' → w'.cell? ⟨b1, o1 + (X.length - 1 - m) * 2 + i, none⟩ = some z := fun i z hz w' hS => (hS.cell (a := ⟨b1, o1 + (X.length - 1 - m) * 2 + i, none⟩) l1 (fun h => h)).trans (hc1.get hz)
    have ky : ∀ (i : Nat) (z : Value), nth? (cL b) i = some z → ∀ w', Chg No w w' → w'.cell? ⟨b2, o2 + m * 2 + i, none⟩ = some z := fun i z hz w' hS => (hS.cell (a := ⟨b2, o2 + m * 2 + i, none⟩) l2 (fun h => h)).trans (hc2.get hz)
    have f1 : w64 ((X.length : Int) - 1) = (X.length : Int) - 1 := w64_id (by omega) (by omega)
    have f2 : w64 ((X.length : Int) - 1 - (m : Int)) = ((X.length - 1 - m : Nat) : Int) := by rw [w64_id (by omega) (by omega)]; omega
    have f3 : w64 ((m : Int) + 1) = ((m + 1 : Nat) : Int) := w64_id (by omega) (by omega)
    rw [hA1, hA2]
    refine go T_ok 200 rfl ?_
    refine draw mixed (fun w' => Chg No w w') ([0,1,2,3,4,5,6,7,8,9,10,11,12,13,14,15,16,17,18,19,20,21,22,23,24,25,26,27,28,29,30,31,32,33,34,35,36,37,38,39,40,41,42,43,44,45,46,47,48,49,50,51,52,53,54,55,56,57,58,59].map (fun i => (i, true))) rfl (by kernel_rfl) (Chg.drew _) ?_
    refine goH T_ok 200 rfl ?_
    refine guardHA (b := false) rfl rfl rfl (congrArg Value.bool (decide_eq_false (by omega))) (fun h => by cases h) (fun _ => ?_)
    refine goH T_ok 200 rfl ?_
    rw [f1, f2]
    refine quietH rfl (fun w' hS => r_idx T_ok rfl rfl rfl rfl (X.length - 1 - m) rfl (by omega)) ?_
    refine goH T_ok 200 rfl ?_
    refine quietH rfl (fun w' hS => r_load T_ok rfl rfl rfl (kx 0 _ rfl w' hS)) ?_
    refine goH T_ok 200 rfl ?_
    refine quietH rfl (fun w' hS => r_idx T_ok rfl rfl rfl rfl m rfl hly) ?_
    refine goH T_ok 200 rfl ?_
    refine quietH rfl (fun w' hS => r_load T_ok rfl rfl rfl (ky 0 _ rfl w' hS)) ?_
    refine goH T_ok 200 rfl ?_
    refine guardHA (b := false) rfl rfl rfl (congrArg Value.bool (by simp; exact hab1)) (fun h => by cases h) (fun _ => ?_)
    refine goH T_ok 200 rfl ?_
    rw [f1]
    by_cases hlast : m + 1 < X.length
    · cases hab3 hlast
      refine guardHA (b := true) rfl rfl rfl (congrArg Value.bool (decide_eq_true (by omega))) (fun _ => ?_) (fun h => by cases h)
      refine goH T_ok 200 rfl ?_
      rw [f1, f2]
      refine quietH rfl (fun w' hS => r_idx T_ok rfl rfl rfl rfl (X.length - 1 - m) rfl (by omega)) ?_
      refine goH T_ok 200 rfl ?_
      refine quietH rfl (fun w' hS => r_loadA T_ok rfl rfl rfl (cs := cL a) rfl (hc1.keep l1 hS (fun h => h))) ?_
      refine goH T_ok 200 rfl ?_
      refine quietH rfl (fun w' hS => r_idx T_ok rfl rfl rfl rfl m rfl hly) ?_
      refine goH T_ok 200 rfl ?_
      refine quietH rfl (fun w' hS => r_loadA T_ok rfl rfl rfl (cs := cL a) rfl (hc2.keep l2 hS (fun h => h))) ?_
      refine goH T_ok 200 rfl ?_
      refine quietH rfl (fun w' hS => r_neqS rfl (l := [a.1, a.2]) (m := [a.1, a.2]) eqStr59 rfl rfl rfl) ?_
      refine goH T_ok 200 rfl ?_
      refine guardHA (b := false) rfl rfl rfl (congrArg Value.bool (by simp)) (fun h => by cases h) (fun _ => ?_)
      refine goH T_ok 200 rfl ?_
      repeat (first | (refine guardHA (b := true) rfl rfl rfl rfl (fun _ => ?_) (fun h => by cases h); refine goH T_ok 200 rfl ?_) | (refine guardHA (b := false) rfl rfl rfl rfl (fun h => by cases h) (fun _ => ?_); refine goH T_ok 200 rfl ?_))
      rw [f1, f2]
      refine quietH rfl (fun w' hS => r_idx T_ok rfl rfl rfl rfl (X.length - 1 - m) rfl (by omega)) ?_
      refine goH T_ok 200 rfl ?_
      refine quietH rfl (fun w' hS => r_load T_ok rfl rfl rfl (kx 1 _ rfl w' hS)) ?_
      refine goH T_ok 200 rfl ?_
      refine quietH rfl (fun w' hS => r_idx T_ok rfl rfl rfl rfl m rfl hly) ?_
      refine goH T_ok 200 rfl ?_
      refine quietH rfl (fun w' hS => r_load T_ok rfl rfl rfl (ky 1 _ rfl w' hS)) ?_
      refine goH T_ok 200 rfl ?_
      refine endH ?_
      have qk := Chg.drew w
      have S3 := S3.no qk
      have S4 := S4.no qk
      have p := p.no qk
      have q := q.trans qk
      refine go T_ok 200 rfl ?_
      refine condF rfl (decide_eq_false (Int.not_lt.2 hab2)) ?_
      refine go T_ok 200 rfl ?_
      rw [f3]
      exact round ⟨m + 1, rfl, ⟨by omega, p⟩, by omega⟩
    · refine guardHA (b := false) rfl rfl rfl (congrArg Value.bool (decide_eq_false (by omega))) (fun h => by cases h) (fun _ => ?_)
      refine goH T_ok 200 rfl ?_
      repeat (first | (refine guardHA (b := true) rfl rfl rfl rfl (fun _ => ?_) (fun h => by cases h); refine goH T_ok 200 rfl ?_) | (refine guardHA (b := false) rfl rfl rfl rfl (fun h => by cases h) (fun _ => ?_); refine goH T_ok 200 rfl ?_))
      rw [f1, f2]
      refine quietH rfl (fun w' hS => r_idx T_ok rfl rfl rfl rfl (X.length - 1 - m) rfl (by omega)) ?_
      refine goH T_ok 200 rfl ?_
      refine quietH rfl (fun w' hS => r_load T_ok rfl rfl rfl (kx 1 _ rfl w' hS)) ?_
      refine goH T_ok 200 rfl ?_
      refine quietH rfl (fun w' hS => r_idx T_ok rfl rfl rfl rfl m rfl hly) ?_
      refine goH T_ok 200 rfl ?_
      refine quietH rfl (fun w' hS => r_load T_ok rfl rfl rfl (ky 1 _ rfl w' hS)) ?_
      refine goH T_ok 200 rfl ?_
      refine endH ?_
      have qk := Chg.drew w
      have S3 := S3.no qk
      have S4 := S4.no qk
      have p := p.no qk
      have q := q.trans qk
      refine go T_ok 200 rfl ?_
      refine condF rfl (decide_eq_false (Int.not_lt.2 hab2)) ?_
      refine go T_ok 200 rfl ?_
      rw [f3]
      exact round ⟨m + 1, rfl, ⟨by omega, p⟩, by omega⟩
  refine go T_ok 200 rfl ?_
  refine call rfl rfl rfl (ok _ (by decide) rfl) (known_any _) ?_
  rintro v wk ⟨rfl, qk⟩
  refine go T_ok 200 rfl ?_
  exact ret (ret1 (v := .bool true) Try.results14 rfl ⟨rfl, q.trans qk⟩)
end Go.Proofs.Ytkkjfjeniaiaiaa
