/- The walk of RockHorizon. -/
import Derived.Test.YtkkjfjeniaiaiaaL3
namespace Go.Proofs.Ytkkjfjeniaiaiaa
open Go.Ev Go.Proofs Go.Rock
attribute [local irreducible] At AtH
set_option maxRecDepth 20000 in
set_option maxHeartbeats 8000000 in
theorem walk_RockHorizon (v : Vo) (g : Sli Int) (r : Ra) (w : World) (_hv : VoI v) (hg : InI w g) (_hr : RaI r) :
    Ret Try.prog 5 [.agg (vL v).toArray, .slice g.A g.l.length g.c, .agg (rL r).toArray] w fun x w' => x = .bool true ∧ Chg No w w' := by
  refine enter Try.func5 rfl Try.ntmps5 rfl ?_
  refine go T_ok 200 rfl ?_
  refine bx rfl rfl rfl (cs := vL v) rfl ?_
  intro g1 u1 hg1 hs1 q1 B1
  refine go T_ok 200 rfl ?_
  refine bx rfl rfl rfl (cs := rL r) rfl ?_
  intro g2 u2 hg2 hs2 q2 B2
  have B1 := B1.no q2
  have q := q1.trans q2
  have Sg := hg.sl.no q
  refine go T_ok 200 rfl ?_
  refine condD rfl (fun h => ?_) (fun h => ?_)
  · refine go T_ok 200 rfl ?_
    refine call rfl rfl rfl (ok _ (by decide) rfl) (known_any _) ?_
    rintro v wk ⟨rfl, qk⟩
    refine go T_ok 200 rfl ?_
    exact ret (ret1 (v := .bool true) Try.results5 rfl ⟨rfl, q.trans qk⟩)
  refine go T_ok 200 rfl ?_
  repeat (first | (refine ldA T_ok rfl rfl rfl rfl rfl (Bk.all B1) ?_; refine go T_ok 200 rfl ?_) | (refine ldA T_ok rfl rfl rfl rfl rfl (Bk.all B2) ?_; refine go T_ok 200 rfl ?_) | (refine ld T_ok rfl rfl rfl rfl (Bk.get B1 rfl) ?_; refine go T_ok 200 rfl ?_) | (refine ld T_ok rfl rfl rfl rfl (Bk.get B2 rfl) ?_; refine go T_ok 200 rfl ?_) | (refine guardA (b := true) rfl rfl rfl rfl (fun _ => ?_) (fun e => by cases e); refine go T_ok 200 rfl ?_) | (refine guardA (b := false) rfl rfl rfl rfl (fun e => by cases e) (fun _ => ?_); refine go T_ok 200 rfl ?_) | (refine condT rfl rfl ?_; refine go T_ok 200 rfl ?_) | (refine condF rfl rfl ?_; refine go T_ok 200 rfl ?_))
  refine call rfl rfl rfl (ok _ (by decide) rfl) (Horizon_any v r g.l g.A g.c _ _ hg.ml Sg) ?_
  rintro x w ⟨rfl, qk⟩
  have B1 := B1.no qk
  have B2 := B2.no qk
  have Sg := Sg.no qk
  have q := q.trans qk
  refine go T_ok 200 rfl ?_
  repeat (first | (refine ldA T_ok rfl rfl rfl rfl rfl (Bk.all B1) ?_; refine go T_ok 200 rfl ?_) | (refine ldA T_ok rfl rfl rfl rfl rfl (Bk.all B2) ?_; refine go T_ok 200 rfl ?_) | (refine ld T_ok rfl rfl rfl rfl (Bk.get B1 rfl) ?_; refine go T_ok 200 rfl ?_) | (refine ld T_ok rfl rfl rfl rfl (Bk.get B2 rfl) ?_; refine go T_ok 200 rfl ?_) | (refine guardA (b := true) rfl rfl rfl rfl (fun _ => ?_) (fun e => by cases e); refine go T_ok 200 rfl ?_) | (refine guardA (b := false) rfl rfl rfl rfl (fun e => by cases e) (fun _ => ?_); refine go T_ok 200 rfl ?_) | (refine condT rfl rfl ?_; refine go T_ok 200 rfl ?_) | (refine condF rfl rfl ?_; refine go T_ok 200 rfl ?_))
  refine call rfl rfl rfl (ok _ (by decide) rfl) (rVolume_any v _) ?_
  rintro x w ⟨rfl, qk⟩
  have B1 := B1.no qk
  have B2 := B2.no qk
  have Sg := Sg.no qk
  have q := q.trans qk
  by_cases hv : VoOk v
  case neg =>
    rw [decide_eq_false hv]
    have hO : hzR v r g.l = (0, 2) := by unfold hzR; rw [if_neg (fun h => hv h.1.1)]
    rw [hO]
    refine go T_ok 200 rfl ?_
    repeat (first | (refine ldA T_ok rfl rfl rfl rfl rfl (Bk.all B1) ?_; refine go T_ok 200 rfl ?_) | (refine ldA T_ok rfl rfl rfl rfl rfl (Bk.all B2) ?_; refine go T_ok 200 rfl ?_) | (refine ld T_ok rfl rfl rfl rfl (Bk.get B1 rfl) ?_; refine go T_ok 200 rfl ?_) | (refine ld T_ok rfl rfl rfl rfl (Bk.get B2 rfl) ?_; refine go T_ok 200 rfl ?_) | (refine guardA (b := true) rfl rfl rfl rfl (fun _ => ?_) (fun e => by cases e); refine go T_ok 200 rfl ?_) | (refine guardA (b := false) rfl rfl rfl rfl (fun e => by cases e) (fun _ => ?_); refine go T_ok 200 rfl ?_) | (refine condT rfl rfl ?_; refine go T_ok 200 rfl ?_) | (refine condF rfl rfl ?_; refine go T_ok 200 rfl ?_))
    refine call rfl rfl rfl (ok _ (by decide) rfl) (known_any _) ?_
    rintro v wk ⟨rfl, qk⟩
    refine go T_ok 200 rfl ?_
    exact ret (ret1 (v := .bool true) Try.results5 rfl ⟨rfl, q.trans qk⟩)
  rw [decide_eq_true hv]
  refine go T_ok 200 rfl ?_
  repeat (first | (refine ldA T_ok rfl rfl rfl rfl rfl (Bk.all B1) ?_; refine go T_ok 200 rfl ?_) | (refine ldA T_ok rfl rfl rfl rfl rfl (Bk.all B2) ?_; refine go T_ok 200 rfl ?_) | (refine ld T_ok rfl rfl rfl rfl (Bk.get B1 rfl) ?_; refine go T_ok 200 rfl ?_) | (refine ld T_ok rfl rfl rfl rfl (Bk.get B2 rfl) ?_; refine go T_ok 200 rfl ?_) | (refine guardA (b := true) rfl rfl rfl rfl (fun _ => ?_) (fun e => by cases e); refine go T_ok 200 rfl ?_) | (refine guardA (b := false) rfl rfl rfl rfl (fun e => by cases e) (fun _ => ?_); refine go T_ok 200 rfl ?_) | (refine condT rfl rfl ?_; refine go T_ok 200 rfl ?_) | (refine condF rfl rfl ?_; refine go T_ok 200 rfl ?_))
  refine call rfl rfl rfl (ok _ (by decide) rfl) (rRay_any r _) ?_
  rintro x w ⟨rfl, qk⟩
  have B1 := B1.no qk
  have B2 := B2.no qk
  have Sg := Sg.no qk
  have q := q.trans qk
  by_cases hr : RaOk r
  case neg =>
    rw [decide_eq_false hr]
    have hO : hzR v r g.l = (0, 2) := by unfold hzR; rw [if_neg (fun h => hr h.1.2.1)]
    rw [hO]
    refine go T_ok 200 rfl ?_
    repeat (first | (refine ldA T_ok rfl rfl rfl rfl rfl (Bk.all B1) ?_; refine go T_ok 200 rfl ?_) | (refine ldA T_ok rfl rfl rfl rfl rfl (Bk.all B2) ?_; refine go T_ok 200 rfl ?_) | (refine ld T_ok rfl rfl rfl rfl (Bk.get B1 rfl) ?_; refine go T_ok 200 rfl ?_) | (refine ld T_ok rfl rfl rfl rfl (Bk.get B2 rfl) ?_; refine go T_ok 200 rfl ?_) | (refine guardA (b := true) rfl rfl rfl rfl (fun _ => ?_) (fun e => by cases e); refine go T_ok 200 rfl ?_) | (refine guardA (b := false) rfl rfl rfl rfl (fun e => by cases e) (fun _ => ?_); refine go T_ok 200 rfl ?_) | (refine condT rfl rfl ?_; refine go T_ok 200 rfl ?_) | (refine condF rfl rfl ?_; refine go T_ok 200 rfl ?_))
    refine call rfl rfl rfl (ok _ (by decide) rfl) (known_any _) ?_
    rintro v wk ⟨rfl, qk⟩
    refine go T_ok 200 rfl ?_
    exact ret (ret1 (v := .bool true) Try.results5 rfl ⟨rfl, q.trans qk⟩)
  rw [decide_eq_true hr]
  refine go T_ok 200 rfl ?_
  repeat (first | (refine ldA T_ok rfl rfl rfl rfl rfl (Bk.all B1) ?_; refine go T_ok 200 rfl ?_) | (refine ldA T_ok rfl rfl rfl rfl rfl (Bk.all B2) ?_; refine go T_ok 200 rfl ?_) | (refine ld T_ok rfl rfl rfl rfl (Bk.get B1 rfl) ?_; refine go T_ok 200 rfl ?_) | (refine ld T_ok rfl rfl rfl rfl (Bk.get B2 rfl) ?_; refine go T_ok 200 rfl ?_) | (refine guardA (b := true) rfl rfl rfl rfl (fun _ => ?_) (fun e => by cases e); refine go T_ok 200 rfl ?_) | (refine guardA (b := false) rfl rfl rfl rfl (fun e => by cases e) (fun _ => ?_); refine go T_ok 200 rfl ?_) | (refine condT rfl rfl ?_; refine go T_ok 200 rfl ?_) | (refine condF rfl rfl ?_; refine go T_ok 200 rfl ?_))
  refine call rfl rfl rfl (ok _ (by decide) rfl) (rGround_any v g.l g.A g.c _ _ hv hg.ml Sg) ?_
  rintro x w ⟨rfl, qk⟩
  have B1 := B1.no qk
  have B2 := B2.no qk
  have Sg := Sg.no qk
  have q := q.trans qk
  by_cases hgr : GrOk v g.l
  case neg =>
    rw [decide_eq_false hgr]
    have hO : hzR v r g.l = (0, 2) := by unfold hzR; rw [if_neg (fun h => hgr h.1.2.2)]
    rw [hO]
    refine go T_ok 200 rfl ?_
    repeat (first | (refine ldA T_ok rfl rfl rfl rfl rfl (Bk.all B1) ?_; refine go T_ok 200 rfl ?_) | (refine ldA T_ok rfl rfl rfl rfl rfl (Bk.all B2) ?_; refine go T_ok 200 rfl ?_) | (refine ld T_ok rfl rfl rfl rfl (Bk.get B1 rfl) ?_; refine go T_ok 200 rfl ?_) | (refine ld T_ok rfl rfl rfl rfl (Bk.get B2 rfl) ?_; refine go T_ok 200 rfl ?_) | (refine guardA (b := true) rfl rfl rfl rfl (fun _ => ?_) (fun e => by cases e); refine go T_ok 200 rfl ?_) | (refine guardA (b := false) rfl rfl rfl rfl (fun e => by cases e) (fun _ => ?_); refine go T_ok 200 rfl ?_) | (refine condT rfl rfl ?_; refine go T_ok 200 rfl ?_) | (refine condF rfl rfl ?_; refine go T_ok 200 rfl ?_))
    refine call rfl rfl rfl (ok _ (by decide) rfl) (known_any _) ?_
    rintro v wk ⟨rfl, qk⟩
    refine go T_ok 200 rfl ?_
    exact ret (ret1 (v := .bool true) Try.results5 rfl ⟨rfl, q.trans qk⟩)
  rw [decide_eq_true hgr]
  refine go T_ok 200 rfl ?_
  repeat (first | (refine ldA T_ok rfl rfl rfl rfl rfl (Bk.all B1) ?_; refine go T_ok 200 rfl ?_) | (refine ldA T_ok rfl rfl rfl rfl rfl (Bk.all B2) ?_; refine go T_ok 200 rfl ?_) | (refine ld T_ok rfl rfl rfl rfl (Bk.get B1 rfl) ?_; refine go T_ok 200 rfl ?_) | (refine ld T_ok rfl rfl rfl rfl (Bk.get B2 rfl) ?_; refine go T_ok 200 rfl ?_) | (refine guardA (b := true) rfl rfl rfl rfl (fun _ => ?_) (fun e => by cases e); refine go T_ok 200 rfl ?_) | (refine guardA (b := false) rfl rfl rfl rfl (fun e => by cases e) (fun _ => ?_); refine go T_ok 200 rfl ?_) | (refine condT rfl rfl ?_; refine go T_ok 200 rfl ?_) | (refine condF rfl rfl ?_; refine go T_ok 200 rfl ?_))
  refine guard rfl rfl rfl (fun hx => ?_) (fun hx => ?_)
  · have hx : r.dx = 0 := by simpa using hx
    refine go T_ok 200 rfl ?_
    repeat (first | (refine ldA T_ok rfl rfl rfl rfl rfl (Bk.all B1) ?_; refine go T_ok 200 rfl ?_) | (refine ldA T_ok rfl rfl rfl rfl rfl (Bk.all B2) ?_; refine go T_ok 200 rfl ?_) | (refine ld T_ok rfl rfl rfl rfl (Bk.get B1 rfl) ?_; refine go T_ok 200 rfl ?_) | (refine ld T_ok rfl rfl rfl rfl (Bk.get B2 rfl) ?_; refine go T_ok 200 rfl ?_) | (refine guardA (b := true) rfl rfl rfl rfl (fun _ => ?_) (fun e => by cases e); refine go T_ok 200 rfl ?_) | (refine guardA (b := false) rfl rfl rfl rfl (fun e => by cases e) (fun _ => ?_); refine go T_ok 200 rfl ?_) | (refine condT rfl rfl ?_; refine go T_ok 200 rfl ?_) | (refine condF rfl rfl ?_; refine go T_ok 200 rfl ?_))
    refine cond rfl (fun hy => ?_) (fun hy => ?_)
    · have hy : r.dy = 0 := by simpa using hy
      have hO : hzR v r g.l = (0, 2) := by unfold hzR; rw [if_neg (fun h => (by rcases h.2 with h | h <;> omega))]
      rw [hO]
      refine go T_ok 200 rfl ?_
      repeat (first | (refine ldA T_ok rfl rfl rfl rfl rfl (Bk.all B1) ?_; refine go T_ok 200 rfl ?_) | (refine ldA T_ok rfl rfl rfl rfl rfl (Bk.all B2) ?_; refine go T_ok 200 rfl ?_) | (refine ld T_ok rfl rfl rfl rfl (Bk.get B1 rfl) ?_; refine go T_ok 200 rfl ?_) | (refine ld T_ok rfl rfl rfl rfl (Bk.get B2 rfl) ?_; refine go T_ok 200 rfl ?_) | (refine guardA (b := true) rfl rfl rfl rfl (fun _ => ?_) (fun e => by cases e); refine go T_ok 200 rfl ?_) | (refine guardA (b := false) rfl rfl rfl rfl (fun e => by cases e) (fun _ => ?_); refine go T_ok 200 rfl ?_) | (refine condT rfl rfl ?_; refine go T_ok 200 rfl ?_) | (refine condF rfl rfl ?_; refine go T_ok 200 rfl ?_))
      refine call rfl rfl rfl (ok _ (by decide) rfl) (known_any _) ?_
      rintro v wk ⟨rfl, qk⟩
      refine go T_ok 200 rfl ?_
      exact ret (ret1 (v := .bool true) Try.results5 rfl ⟨rfl, q.trans qk⟩)
    · have hxy : r.dx ≠ 0 ∨ r.dy ≠ 0 := .inr (by simpa using hy)
      have hO : hzR v r g.l = if 60 < hzn v r g.l then (0, 5) else (hzn v r g.l, 0) := by unfold hzR; rw [if_pos ⟨⟨hv, hr, hgr⟩, hxy⟩]
      refine go T_ok 200 rfl ?_
      repeat (first | (refine ldA T_ok rfl rfl rfl rfl rfl (Bk.all B1) ?_; refine go T_ok 200 rfl ?_) | (refine ldA T_ok rfl rfl rfl rfl rfl (Bk.all B2) ?_; refine go T_ok 200 rfl ?_) | (refine ld T_ok rfl rfl rfl rfl (Bk.get B1 rfl) ?_; refine go T_ok 200 rfl ?_) | (refine ld T_ok rfl rfl rfl rfl (Bk.get B2 rfl) ?_; refine go T_ok 200 rfl ?_) | (refine guardA (b := true) rfl rfl rfl rfl (fun _ => ?_) (fun e => by cases e); refine go T_ok 200 rfl ?_) | (refine guardA (b := false) rfl rfl rfl rfl (fun e => by cases e) (fun _ => ?_); refine go T_ok 200 rfl ?_) | (refine condT rfl rfl ?_; refine go T_ok 200 rfl ?_) | (refine condF rfl rfl ?_; refine go T_ok 200 rfl ?_))
      refine call rfl rfl rfl (ok _ (by decide) rfl) (rHorizon_any v r g.l g.A g.c _ _ hv hr hgr hxy Sg) ?_
      rintro x w ⟨rfl, qk⟩
      have B1 := B1.no qk
      have B2 := B2.no qk
      have Sg := Sg.no qk
      have q := q.trans qk
      by_cases h9 : 60 < hzn v r g.l
      · rw [if_pos h9] at hO
        rw [hO]
        refine go T_ok 200 rfl ?_
        refine condT rfl (decide_eq_true h9) ?_
        refine go T_ok 200 rfl ?_
        repeat (first | (refine guardA (b := true) rfl rfl rfl rfl (fun _ => ?_) (fun e => by cases e); refine go T_ok 200 rfl ?_) | (refine guardA (b := false) rfl rfl rfl rfl (fun e => by cases e) (fun _ => ?_); refine go T_ok 200 rfl ?_) | (refine condT rfl rfl ?_; refine go T_ok 200 rfl ?_) | (refine condF rfl rfl ?_; refine go T_ok 200 rfl ?_))
        refine call rfl rfl rfl (ok _ (by decide) rfl) (known_any _) ?_
        rintro v wk ⟨rfl, qk⟩
        refine go T_ok 200 rfl ?_
        exact ret (ret1 (v := .bool true) Try.results5 rfl ⟨rfl, q.trans qk⟩)
      · rw [if_neg h9] at hO
        rw [hO]
        refine go T_ok 200 rfl ?_
        refine condF rfl (decide_eq_false h9) ?_
        refine go T_ok 200 rfl ?_
        repeat (first | (refine guardA (b := true) rfl rfl rfl rfl (fun _ => ?_) (fun e => by cases e); refine go T_ok 200 rfl ?_) | (refine guardA (b := false) rfl rfl rfl rfl (fun e => by cases e) (fun _ => ?_); refine go T_ok 200 rfl ?_) | (refine condT rfl rfl ?_; refine go T_ok 200 rfl ?_) | (refine condF rfl rfl ?_; refine go T_ok 200 rfl ?_))
        refine guardA (b := true) rfl rfl rfl (congrArg Value.bool (by simp)) (fun _ => ?_) (fun e => by cases e)
        refine go T_ok 200 rfl ?_
        repeat (first | (refine guardA (b := true) rfl rfl rfl rfl (fun _ => ?_) (fun e => by cases e); refine go T_ok 200 rfl ?_) | (refine guardA (b := false) rfl rfl rfl rfl (fun e => by cases e) (fun _ => ?_); refine go T_ok 200 rfl ?_) | (refine condT rfl rfl ?_; refine go T_ok 200 rfl ?_) | (refine condF rfl rfl ?_; refine go T_ok 200 rfl ?_))
        refine call rfl rfl rfl (ok _ (by decide) rfl) (known_any _) ?_
        rintro v wk ⟨rfl, qk⟩
        refine go T_ok 200 rfl ?_
        exact ret (ret1 (v := .bool true) Try.results5 rfl ⟨rfl, q.trans qk⟩)
  · have hxy : r.dx ≠ 0 ∨ r.dy ≠ 0 := .inl (by simpa using hx)
    have hO : hzR v r g.l = if 60 < hzn v r g.l then (0, 5) else (hzn v r g.l, 0) := by unfold hzR; rw [if_pos ⟨⟨hv, hr, hgr⟩, hxy⟩]
    refine go T_ok 200 rfl ?_
    repeat (first | (refine ldA T_ok rfl rfl rfl rfl rfl (Bk.all B1) ?_; refine go T_ok 200 rfl ?_) | (refine ldA T_ok rfl rfl rfl rfl rfl (Bk.all B2) ?_; refine go T_ok 200 rfl ?_) | (refine ld T_ok rfl rfl rfl rfl (Bk.get B1 rfl) ?_; refine go T_ok 200 rfl ?_) | (refine ld T_ok rfl rfl rfl rfl (Bk.get B2 rfl) ?_; refine go T_ok 200 rfl ?_) | (refine guardA (b := true) rfl rfl rfl rfl (fun _ => ?_) (fun e => by cases e); refine go T_ok 200 rfl ?_) | (refine guardA (b := false) rfl rfl rfl rfl (fun e => by cases e) (fun _ => ?_); refine go T_ok 200 rfl ?_) | (refine condT rfl rfl ?_; refine go T_ok 200 rfl ?_) | (refine condF rfl rfl ?_; refine go T_ok 200 rfl ?_))
    refine call rfl rfl rfl (ok _ (by decide) rfl) (rHorizon_any v r g.l g.A g.c _ _ hv hr hgr hxy Sg) ?_
    rintro x w ⟨rfl, qk⟩
    have B1 := B1.no qk
    have B2 := B2.no qk
    have Sg := Sg.no qk
    have q := q.trans qk
    by_cases h9 : 60 < hzn v r g.l
    · rw [if_pos h9] at hO
      rw [hO]
      refine go T_ok 200 rfl ?_
      refine condT rfl (decide_eq_true h9) ?_
      refine go T_ok 200 rfl ?_
      repeat (first | (refine guardA (b := true) rfl rfl rfl rfl (fun _ => ?_) (fun e => by cases e); refine go T_ok 200 rfl ?_) | (refine guardA (b := false) rfl rfl rfl rfl (fun e => by cases e) (fun _ => ?_); refine go T_ok 200 rfl ?_) | (refine condT rfl rfl ?_; refine go T_ok 200 rfl ?_) | (refine condF rfl rfl ?_; refine go T_ok 200 rfl ?_))
      refine call rfl rfl rfl (ok _ (by decide) rfl) (known_any _) ?_
      rintro v wk ⟨rfl, qk⟩
      refine go T_ok 200 rfl ?_
      exact ret (ret1 (v := .bool true) Try.results5 rfl ⟨rfl, q.trans qk⟩)
    · rw [if_neg h9] at hO
      rw [hO]
      refine go T_ok 200 rfl ?_
      refine condF rfl (decide_eq_false h9) ?_
      refine go T_ok 200 rfl ?_
      repeat (first | (refine guardA (b := true) rfl rfl rfl rfl (fun _ => ?_) (fun e => by cases e); refine go T_ok 200 rfl ?_) | (refine guardA (b := false) rfl rfl rfl rfl (fun e => by cases e) (fun _ => ?_); refine go T_ok 200 rfl ?_) | (refine condT rfl rfl ?_; refine go T_ok 200 rfl ?_) | (refine condF rfl rfl ?_; refine go T_ok 200 rfl ?_))
      refine guardA (b := true) rfl rfl rfl (congrArg Value.bool (by simp)) (fun _ => ?_) (fun e => by cases e)
      refine go T_ok 200 rfl ?_
      repeat (first | (refine guardA (b := true) rfl rfl rfl rfl (fun _ => ?_) (fun e => by cases e); refine go T_ok 200 rfl ?_) | (refine guardA (b := false) rfl rfl rfl rfl (fun e => by cases e) (fun _ => ?_); refine go T_ok 200 rfl ?_) | (refine condT rfl rfl ?_; refine go T_ok 200 rfl ?_) | (refine condF rfl rfl ?_; refine go T_ok 200 rfl ?_))
      refine call rfl rfl rfl (ok _ (by decide) rfl) (known_any _) ?_
      rintro v wk ⟨rfl, qk⟩
      refine go T_ok 200 rfl ?_
      exact ret (ret1 (v := .bool true) Try.results5 rfl ⟨rfl, q.trans qk⟩)
end Go.Proofs.Ytkkjfjeniaiaiaa
