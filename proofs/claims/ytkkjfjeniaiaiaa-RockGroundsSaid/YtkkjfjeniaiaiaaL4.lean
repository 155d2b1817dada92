/- The walk of RockGrounds. -/
import Derived.Test.YtkkjfjeniaiaiaaL3
import Derived.Test.YtkkjfjeniaiaiaaR5
namespace Go.Proofs.Ytkkjfjeniaiaiaa
open Go.Ev Go.Proofs Go.Rock
attribute [local irreducible] At AtH
set_option maxRecDepth 20000 in
set_option maxHeartbeats 8000000 in
theorem walk_RockGrounds (v : Vo) (st : Int) (l : Sli Su) (w : World) (_hv : VoI v) (_hst : I64 st) (hl : InS w l) :
    Ret Try.prog 4 [.agg (vL v).toArray, .int .i64 st, .slice l.A l.l.length l.c] w fun x w' => x = .bool true ∧ Chg No w w' := by
  refine enter Try.func4 rfl Try.ntmps4 rfl ?_
  refine go T_ok 200 rfl ?_
  refine bx rfl rfl rfl (cs := vL v) rfl ?_
  intro g1 u1 hg1 hs1 q1 B1
  have q := q1
  have hml := hl.ml
  have hml6 := len63 hml
  have Sl := hl.2.2.1.no q
  refine go T_ok 200 rfl ?_
  refine guardD rfl rfl rfl (fun h20 => ?_) (fun h20 => ?_)
  · refine go T_ok 200 rfl ?_
    refine guardD rfl rfl rfl (fun h5 => ?_) (fun h5 => ?_)
    · refine go T_ok 200 rfl ?_
      repeat (first | (refine guardA (b := true) rfl rfl rfl rfl (fun _ => ?_) (fun e => by cases e); refine go T_ok 200 rfl ?_) | (refine guardA (b := false) rfl rfl rfl rfl (fun e => by cases e) (fun _ => ?_); refine go T_ok 200 rfl ?_) | (refine condT rfl rfl ?_; refine go T_ok 200 rfl ?_) | (refine condF rfl rfl ?_; refine go T_ok 200 rfl ?_))
      refine call rfl rfl rfl (ok _ (by decide) rfl) (known_any _) ?_
      rintro v wk ⟨rfl, qk⟩
      refine go T_ok 200 rfl ?_
      exact ret (ret1 (v := .bool true) Try.results4 rfl ⟨rfl, q.trans qk⟩)
    · refine go T_ok 200 rfl ?_
      refine condD rfl (fun h8 => ?_) (fun h8 => ?_)
      · refine go T_ok 200 rfl ?_
        refine call rfl rfl rfl (ok _ (by decide) rfl) (known_any _) ?_
        rintro v wk ⟨rfl, qk⟩
        refine go T_ok 200 rfl ?_
        exact ret (ret1 (v := .bool true) Try.results4 rfl ⟨rfl, q.trans qk⟩)
      · skip
        have hlen : ¬ (20 < l.l.length ∧ l.l.length ≤ 50) := by omega
        refine go T_ok 200 rfl ?_
        repeat (first | (refine ldA T_ok rfl rfl rfl rfl rfl (Bk.all B1) ?_; refine go T_ok 200 rfl ?_) | (refine ld T_ok rfl rfl rfl rfl (Bk.get B1 rfl) ?_; refine go T_ok 200 rfl ?_) | (refine guardA (b := true) rfl rfl rfl rfl (fun _ => ?_) (fun e => by cases e); refine go T_ok 200 rfl ?_) | (refine guardA (b := false) rfl rfl rfl rfl (fun e => by cases e) (fun _ => ?_); refine go T_ok 200 rfl ?_) | (refine condT rfl rfl ?_; refine go T_ok 200 rfl ?_) | (refine condF rfl rfl ?_; refine go T_ok 200 rfl ?_))
        refine call rfl rfl rfl (ok _ (by decide) rfl) (Grounds_any v st l.l l.A l.c _ _ hml Sl) ?_
        rintro x w ⟨A1, c1, A2, c2, e, a, b, rfl, S1, S2, qk, h1⟩
        have B1 := B1.no qk
        have Sl := Sl.no qk
        have q := q.trans qk
        refine go T_ok 200 rfl ?_
        repeat (first | (refine ldA T_ok rfl rfl rfl rfl rfl (Bk.all B1) ?_; refine go T_ok 200 rfl ?_) | (refine ld T_ok rfl rfl rfl rfl (Bk.get B1 rfl) ?_; refine go T_ok 200 rfl ?_) | (refine guardA (b := true) rfl rfl rfl rfl (fun _ => ?_) (fun e => by cases e); refine go T_ok 200 rfl ?_) | (refine guardA (b := false) rfl rfl rfl rfl (fun e => by cases e) (fun _ => ?_); refine go T_ok 200 rfl ?_) | (refine condT rfl rfl ?_; refine go T_ok 200 rfl ?_) | (refine condF rfl rfl ?_; refine go T_ok 200 rfl ?_))
        refine call rfl rfl rfl (ok _ (by decide) rfl) (Clash_any v st l.l l.A l.c _ _ hml Sl) ?_
        rintro x w ⟨rfl, qk⟩
        have B1 := B1.no qk
        have Sl := Sl.no qk
        have S1 := S1.no qk
        have S2 := S2.no qk
        have q := q.trans qk
        by_cases h50 : 50 < l.l.length
        · have hw : wrE v st l.l = 3 := by unfold wrE; rw [if_pos h50]
          have hG : gdR v st l.l = (3, [], []) := by unfold gdR; rw [if_pos (by omega), hw]
          have hC : clR v st l.l = (0, 0, 3) := by unfold clR; rw [if_pos (by omega), hw]
          rw [hG] at h1
          cases h1
          rw [hC]
          refine go T_ok 200 rfl ?_
          refine condT rfl (decide_eq_true (by omega)) ?_
          refine go T_ok 200 rfl ?_
          repeat (first | (refine ldA T_ok rfl rfl rfl rfl rfl (Bk.all B1) ?_; refine go T_ok 200 rfl ?_) | (refine ld T_ok rfl rfl rfl rfl (Bk.get B1 rfl) ?_; refine go T_ok 200 rfl ?_) | (refine guardA (b := true) rfl rfl rfl rfl (fun _ => ?_) (fun e => by cases e); refine go T_ok 200 rfl ?_) | (refine guardA (b := false) rfl rfl rfl rfl (fun e => by cases e) (fun _ => ?_); refine go T_ok 200 rfl ?_) | (refine condT rfl rfl ?_; refine go T_ok 200 rfl ?_) | (refine condF rfl rfl ?_; refine go T_ok 200 rfl ?_))
          refine call rfl rfl rfl (ok _ (by decide) rfl) (known_any _) ?_
          rintro v wk ⟨rfl, qk⟩
          refine go T_ok 200 rfl ?_
          exact ret (ret1 (v := .bool true) Try.results4 rfl ⟨rfl, q.trans qk⟩)
        · skip
          refine go T_ok 200 rfl ?_
          refine condF rfl (decide_eq_false (by omega)) ?_
          refine go T_ok 200 rfl ?_
          repeat (first | (refine ldA T_ok rfl rfl rfl rfl rfl (Bk.all B1) ?_; refine go T_ok 200 rfl ?_) | (refine ld T_ok rfl rfl rfl rfl (Bk.get B1 rfl) ?_; refine go T_ok 200 rfl ?_) | (refine guardA (b := true) rfl rfl rfl rfl (fun _ => ?_) (fun e => by cases e); refine go T_ok 200 rfl ?_) | (refine guardA (b := false) rfl rfl rfl rfl (fun e => by cases e) (fun _ => ?_); refine go T_ok 200 rfl ?_) | (refine condT rfl rfl ?_; refine go T_ok 200 rfl ?_) | (refine condF rfl rfl ?_; refine go T_ok 200 rfl ?_))
          refine call rfl rfl rfl (ok _ (by decide) rfl) (rVolume_any v _) ?_
          rintro x w ⟨rfl, qk⟩
          have B1 := B1.no qk
          have Sl := Sl.no qk
          have S1 := S1.no qk
          have S2 := S2.no qk
          have q := q.trans qk
          by_cases hv : VoOk v
          case neg =>
            rw [decide_eq_false hv]
            have hw : wrE v st l.l = 2 := by unfold wrE; rw [if_neg h50, if_neg (fun h => hv h.1)]
            have hG : gdR v st l.l = (2, [], []) := by unfold gdR; rw [if_pos (by omega), hw]
            have hC : clR v st l.l = (0, 0, 2) := by unfold clR; rw [if_pos (by omega), hw]
            rw [hG] at h1
            cases h1
            rw [hC]
            refine go T_ok 200 rfl ?_
            repeat (first | (refine ldA T_ok rfl rfl rfl rfl rfl (Bk.all B1) ?_; refine go T_ok 200 rfl ?_) | (refine ld T_ok rfl rfl rfl rfl (Bk.get B1 rfl) ?_; refine go T_ok 200 rfl ?_) | (refine guardA (b := true) rfl rfl rfl rfl (fun _ => ?_) (fun e => by cases e); refine go T_ok 200 rfl ?_) | (refine guardA (b := false) rfl rfl rfl rfl (fun e => by cases e) (fun _ => ?_); refine go T_ok 200 rfl ?_) | (refine condT rfl rfl ?_; refine go T_ok 200 rfl ?_) | (refine condF rfl rfl ?_; refine go T_ok 200 rfl ?_))
            refine call rfl rfl rfl (ok _ (by decide) rfl) (known_any _) ?_
            rintro v wk ⟨rfl, qk⟩
            refine go T_ok 200 rfl ?_
            exact ret (ret1 (v := .bool true) Try.results4 rfl ⟨rfl, q.trans qk⟩)
          rw [decide_eq_true hv]
          refine go T_ok 200 rfl ?_
          repeat (first | (refine ldA T_ok rfl rfl rfl rfl rfl (Bk.all B1) ?_; refine go T_ok 200 rfl ?_) | (refine ld T_ok rfl rfl rfl rfl (Bk.get B1 rfl) ?_; refine go T_ok 200 rfl ?_) | (refine guardA (b := true) rfl rfl rfl rfl (fun _ => ?_) (fun e => by cases e); refine go T_ok 200 rfl ?_) | (refine guardA (b := false) rfl rfl rfl rfl (fun e => by cases e) (fun _ => ?_); refine go T_ok 200 rfl ?_) | (refine condT rfl rfl ?_; refine go T_ok 200 rfl ?_) | (refine condF rfl rfl ?_; refine go T_ok 200 rfl ?_))
          refine call rfl rfl rfl (ok _ (by decide) rfl) (Surveys_any v st l.l l.A l.c _ _ hv hml Sl) ?_
          rintro x w ⟨rfl, qk⟩
          have B1 := B1.no qk
          have Sl := Sl.no qk
          have S1 := S1.no qk
          have S2 := S2.no qk
          have q := q.trans qk
          by_cases hs : LdOk v st l.l
          case neg =>
            rw [decide_eq_false hs]
            have hw : wrE v st l.l = 2 := by unfold wrE; rw [if_neg h50, if_neg (fun h => hs h.2)]
            have hG : gdR v st l.l = (2, [], []) := by unfold gdR; rw [if_pos (by omega), hw]
            have hC : clR v st l.l = (0, 0, 2) := by unfold clR; rw [if_pos (by omega), hw]
            rw [hG] at h1
            cases h1
            rw [hC]
            refine go T_ok 200 rfl ?_
            repeat (first | (refine ldA T_ok rfl rfl rfl rfl rfl (Bk.all B1) ?_; refine go T_ok 200 rfl ?_) | (refine ld T_ok rfl rfl rfl rfl (Bk.get B1 rfl) ?_; refine go T_ok 200 rfl ?_) | (refine guardA (b := true) rfl rfl rfl rfl (fun _ => ?_) (fun e => by cases e); refine go T_ok 200 rfl ?_) | (refine guardA (b := false) rfl rfl rfl rfl (fun e => by cases e) (fun _ => ?_); refine go T_ok 200 rfl ?_) | (refine condT rfl rfl ?_; refine go T_ok 200 rfl ?_) | (refine condF rfl rfl ?_; refine go T_ok 200 rfl ?_))
            refine call rfl rfl rfl (ok _ (by decide) rfl) (known_any _) ?_
            rintro v wk ⟨rfl, qk⟩
            refine go T_ok 200 rfl ?_
            exact ret (ret1 (v := .bool true) Try.results4 rfl ⟨rfl, q.trans qk⟩)
          rw [decide_eq_true hs]
          have hw : wrE v st l.l = 0 := by unfold wrE; rw [if_neg h50, if_pos ⟨hv, hs⟩]
          refine go T_ok 200 rfl ?_
          repeat (first | (refine ldA T_ok rfl rfl rfl rfl rfl (Bk.all B1) ?_; refine go T_ok 200 rfl ?_) | (refine ld T_ok rfl rfl rfl rfl (Bk.get B1 rfl) ?_; refine go T_ok 200 rfl ?_) | (refine guardA (b := true) rfl rfl rfl rfl (fun _ => ?_) (fun e => by cases e); refine go T_ok 200 rfl ?_) | (refine guardA (b := false) rfl rfl rfl rfl (fun e => by cases e) (fun _ => ?_); refine go T_ok 200 rfl ?_) | (refine condT rfl rfl ?_; refine go T_ok 200 rfl ?_) | (refine condF rfl rfl ?_; refine go T_ok 200 rfl ?_))
          refine call rfl rfl rfl (ok _ (by decide) rfl) (rClash_any v st l.l l.A l.c _ _ hv hs (by omega) Sl) ?_
          rintro x w ⟨rfl, qk⟩
          have B1 := B1.no qk
          have Sl := Sl.no qk
          have S1 := S1.no qk
          have S2 := S2.no qk
          have q := q.trans qk
          cases hcl : clsh v st l.l with
          | some p =>
            obtain ⟨i, k⟩ := p
            have hG : gdR v st l.l = (7, [], []) := by unfold gdR; rw [if_neg (by omega), hcl]
            have hC : clR v st l.l = ((i : Int), (k : Int), 0) := by unfold clR; rw [if_neg (by omega), hcl]
            rw [hG] at h1
            cases h1
            rw [hC, show rcl (some (i, k)) = ((i : Int), (k : Int)) from rfl]
            refine go T_ok 200 rfl ?_
            refine condT rfl (decide_eq_true (by omega)) ?_
            refine go T_ok 200 rfl ?_
            repeat (first | (refine ldA T_ok rfl rfl rfl rfl rfl (Bk.all B1) ?_; refine go T_ok 200 rfl ?_) | (refine ld T_ok rfl rfl rfl rfl (Bk.get B1 rfl) ?_; refine go T_ok 200 rfl ?_) | (refine guardA (b := true) rfl rfl rfl rfl (fun _ => ?_) (fun e => by cases e); refine go T_ok 200 rfl ?_) | (refine guardA (b := false) rfl rfl rfl rfl (fun e => by cases e) (fun _ => ?_); refine go T_ok 200 rfl ?_) | (refine condT rfl rfl ?_; refine go T_ok 200 rfl ?_) | (refine condF rfl rfl ?_; refine go T_ok 200 rfl ?_))
            refine guardA (b := true) rfl rfl rfl (congrArg Value.bool (by simp)) (fun _ => ?_) (fun e => by cases e)
            refine go T_ok 200 rfl ?_
            refine guardA (b := true) rfl rfl rfl (congrArg Value.bool (by simp)) (fun _ => ?_) (fun e => by cases e)
            refine go T_ok 200 rfl ?_
            refine call rfl rfl rfl (ok _ (by decide) rfl) (known_any _) ?_
            rintro v wk ⟨rfl, qk⟩
            refine go T_ok 200 rfl ?_
            exact ret (ret1 (v := .bool true) Try.results4 rfl ⟨rfl, q.trans qk⟩)
          | none =>
            have hG : gdR v st l.l = (0, lst v st l.l, mst v st l.l) := by unfold gdR; rw [if_neg (by omega), hcl]
            have hC : clR v st l.l = (0, 0, 5) := by unfold clR; rw [if_neg (by omega), hcl]
            rw [hG] at h1
            cases h1
            rw [hC, show rcl none = (-1, -1) from rfl]
            have hxy := vo_xy hv
            refine go T_ok 200 rfl ?_
            repeat (first | (refine ldA T_ok rfl rfl rfl rfl rfl (Bk.all B1) ?_; refine go T_ok 200 rfl ?_) | (refine ld T_ok rfl rfl rfl rfl (Bk.get B1 rfl) ?_; refine go T_ok 200 rfl ?_) | (refine guardA (b := true) rfl rfl rfl rfl (fun _ => ?_) (fun e => by cases e); refine go T_ok 200 rfl ?_) | (refine guardA (b := false) rfl rfl rfl rfl (fun e => by cases e) (fun _ => ?_); refine go T_ok 200 rfl ?_) | (refine condT rfl rfl ?_; refine go T_ok 200 rfl ?_) | (refine condF rfl rfl ?_; refine go T_ok 200 rfl ?_))
            refine call rfl rfl rfl (ok _ (by decide) rfl) (Least_any v st l.l l.A l.c _ _ hv hs (by omega) Sl) ?_
            rintro x w ⟨A3, c3, rfl, S3, qk⟩
            have B1 := B1.no qk
            have Sl := Sl.no qk
            have S1 := S1.no qk
            have S2 := S2.no qk
            have q := q.trans qk
            refine go T_ok 200 rfl ?_
            refine call rfl rfl rfl (ok _ (by decide) rfl) (Same_any _ _ _ _ _ _ _ _ _ (by simp [lst]; unfold maxLen; omega) S1 S3) ?_
            rintro x w ⟨rfl, qk⟩
            have B1 := B1.no qk
            have Sl := Sl.no qk
            have S1 := S1.no qk
            have S2 := S2.no qk
            have S3 := S3.no qk
            have q := q.trans qk
            rw [decide_eq_true rfl]
            refine go T_ok 200 rfl ?_
            repeat (first | (refine ldA T_ok rfl rfl rfl rfl rfl (Bk.all B1) ?_; refine go T_ok 200 rfl ?_) | (refine ld T_ok rfl rfl rfl rfl (Bk.get B1 rfl) ?_; refine go T_ok 200 rfl ?_) | (refine guardA (b := true) rfl rfl rfl rfl (fun _ => ?_) (fun e => by cases e); refine go T_ok 200 rfl ?_) | (refine guardA (b := false) rfl rfl rfl rfl (fun e => by cases e) (fun _ => ?_); refine go T_ok 200 rfl ?_) | (refine condT rfl rfl ?_; refine go T_ok 200 rfl ?_) | (refine condF rfl rfl ?_; refine go T_ok 200 rfl ?_))
            refine call rfl rfl rfl (ok _ (by decide) rfl) (Most_any v st l.l l.A l.c _ _ hv hs (by omega) Sl) ?_
            rintro x w ⟨A4, c4, rfl, S4, qk⟩
            have B1 := B1.no qk
            have Sl := Sl.no qk
            have S1 := S1.no qk
            have S2 := S2.no qk
            have S3 := S3.no qk
            have q := q.trans qk
            refine go T_ok 200 rfl ?_
            refine call rfl rfl rfl (ok _ (by decide) rfl) (Same_any _ _ _ _ _ _ _ _ _ (by simp [mst]; unfold maxLen; omega) S2 S4) ?_
            rintro x w ⟨rfl, qk⟩
            have B1 := B1.no qk
            have Sl := Sl.no qk
            have S1 := S1.no qk
            have S2 := S2.no qk
            have S3 := S3.no qk
            have S4 := S4.no qk
            have q := q.trans qk
            rw [decide_eq_true rfl]
            refine go T_ok 200 rfl ?_
            repeat (first | (refine ldA T_ok rfl rfl rfl rfl rfl (Bk.all B1) ?_; refine go T_ok 200 rfl ?_) | (refine ld T_ok rfl rfl rfl rfl (Bk.get B1 rfl) ?_; refine go T_ok 200 rfl ?_) | (refine guardA (b := true) rfl rfl rfl rfl (fun _ => ?_) (fun e => by cases e); refine go T_ok 200 rfl ?_) | (refine guardA (b := false) rfl rfl rfl rfl (fun e => by cases e) (fun _ => ?_); refine go T_ok 200 rfl ?_) | (refine condT rfl rfl ?_; refine go T_ok 200 rfl ?_) | (refine condF rfl rfl ?_; refine go T_ok 200 rfl ?_))
            refine call rfl rfl rfl (ok _ (by decide) rfl) (known_any _) ?_
            rintro v wk ⟨rfl, qk⟩
            refine go T_ok 200 rfl ?_
            exact ret (ret1 (v := .bool true) Try.results4 rfl ⟨rfl, q.trans qk⟩)
  · skip
    refine go T_ok 200 rfl ?_
    repeat (first | (refine guardA (b := true) rfl rfl rfl rfl (fun _ => ?_) (fun e => by cases e); refine go T_ok 200 rfl ?_) | (refine guardA (b := false) rfl rfl rfl rfl (fun e => by cases e) (fun _ => ?_); refine go T_ok 200 rfl ?_) | (refine condT rfl rfl ?_; refine go T_ok 200 rfl ?_) | (refine condF rfl rfl ?_; refine go T_ok 200 rfl ?_))
    refine condD rfl (fun h8 => ?_) (fun h8 => ?_)
    · refine go T_ok 200 rfl ?_
      refine call rfl rfl rfl (ok _ (by decide) rfl) (known_any _) ?_
      rintro v wk ⟨rfl, qk⟩
      refine go T_ok 200 rfl ?_
      exact ret (ret1 (v := .bool true) Try.results4 rfl ⟨rfl, q.trans qk⟩)
    · skip
      have hlen : ¬ (20 < l.l.length ∧ l.l.length ≤ 50) := by omega
      refine go T_ok 200 rfl ?_
      repeat (first | (refine ldA T_ok rfl rfl rfl rfl rfl (Bk.all B1) ?_; refine go T_ok 200 rfl ?_) | (refine ld T_ok rfl rfl rfl rfl (Bk.get B1 rfl) ?_; refine go T_ok 200 rfl ?_) | (refine guardA (b := true) rfl rfl rfl rfl (fun _ => ?_) (fun e => by cases e); refine go T_ok 200 rfl ?_) | (refine guardA (b := false) rfl rfl rfl rfl (fun e => by cases e) (fun _ => ?_); refine go T_ok 200 rfl ?_) | (refine condT rfl rfl ?_; refine go T_ok 200 rfl ?_) | (refine condF rfl rfl ?_; refine go T_ok 200 rfl ?_))
      refine call rfl rfl rfl (ok _ (by decide) rfl) (Grounds_any v st l.l l.A l.c _ _ hml Sl) ?_
      rintro x w ⟨A1, c1, A2, c2, e, a, b, rfl, S1, S2, qk, h1⟩
      have B1 := B1.no qk
      have Sl := Sl.no qk
      have q := q.trans qk
      refine go T_ok 200 rfl ?_
      repeat (first | (refine ldA T_ok rfl rfl rfl rfl rfl (Bk.all B1) ?_; refine go T_ok 200 rfl ?_) | (refine ld T_ok rfl rfl rfl rfl (Bk.get B1 rfl) ?_; refine go T_ok 200 rfl ?_) | (refine guardA (b := true) rfl rfl rfl rfl (fun _ => ?_) (fun e => by cases e); refine go T_ok 200 rfl ?_) | (refine guardA (b := false) rfl rfl rfl rfl (fun e => by cases e) (fun _ => ?_); refine go T_ok 200 rfl ?_) | (refine condT rfl rfl ?_; refine go T_ok 200 rfl ?_) | (refine condF rfl rfl ?_; refine go T_ok 200 rfl ?_))
      refine call rfl rfl rfl (ok _ (by decide) rfl) (Clash_any v st l.l l.A l.c _ _ hml Sl) ?_
      rintro x w ⟨rfl, qk⟩
      have B1 := B1.no qk
      have Sl := Sl.no qk
      have S1 := S1.no qk
      have S2 := S2.no qk
      have q := q.trans qk
      by_cases h50 : 50 < l.l.length
      · have hw : wrE v st l.l = 3 := by unfold wrE; rw [if_pos h50]
        have hG : gdR v st l.l = (3, [], []) := by unfold gdR; rw [if_pos (by omega), hw]
        have hC : clR v st l.l = (0, 0, 3) := by unfold clR; rw [if_pos (by omega), hw]
        rw [hG] at h1
        cases h1
        rw [hC]
        refine go T_ok 200 rfl ?_
        refine condT rfl (decide_eq_true (by omega)) ?_
        refine go T_ok 200 rfl ?_
        repeat (first | (refine ldA T_ok rfl rfl rfl rfl rfl (Bk.all B1) ?_; refine go T_ok 200 rfl ?_) | (refine ld T_ok rfl rfl rfl rfl (Bk.get B1 rfl) ?_; refine go T_ok 200 rfl ?_) | (refine guardA (b := true) rfl rfl rfl rfl (fun _ => ?_) (fun e => by cases e); refine go T_ok 200 rfl ?_) | (refine guardA (b := false) rfl rfl rfl rfl (fun e => by cases e) (fun _ => ?_); refine go T_ok 200 rfl ?_) | (refine condT rfl rfl ?_; refine go T_ok 200 rfl ?_) | (refine condF rfl rfl ?_; refine go T_ok 200 rfl ?_))
        refine call rfl rfl rfl (ok _ (by decide) rfl) (known_any _) ?_
        rintro v wk ⟨rfl, qk⟩
        refine go T_ok 200 rfl ?_
        exact ret (ret1 (v := .bool true) Try.results4 rfl ⟨rfl, q.trans qk⟩)
      · skip
        refine go T_ok 200 rfl ?_
        refine condF rfl (decide_eq_false (by omega)) ?_
        refine go T_ok 200 rfl ?_
        repeat (first | (refine ldA T_ok rfl rfl rfl rfl rfl (Bk.all B1) ?_; refine go T_ok 200 rfl ?_) | (refine ld T_ok rfl rfl rfl rfl (Bk.get B1 rfl) ?_; refine go T_ok 200 rfl ?_) | (refine guardA (b := true) rfl rfl rfl rfl (fun _ => ?_) (fun e => by cases e); refine go T_ok 200 rfl ?_) | (refine guardA (b := false) rfl rfl rfl rfl (fun e => by cases e) (fun _ => ?_); refine go T_ok 200 rfl ?_) | (refine condT rfl rfl ?_; refine go T_ok 200 rfl ?_) | (refine condF rfl rfl ?_; refine go T_ok 200 rfl ?_))
        refine call rfl rfl rfl (ok _ (by decide) rfl) (rVolume_any v _) ?_
        rintro x w ⟨rfl, qk⟩
        have B1 := B1.no qk
        have Sl := Sl.no qk
        have S1 := S1.no qk
        have S2 := S2.no qk
        have q := q.trans qk
        by_cases hv : VoOk v
        case neg =>
          rw [decide_eq_false hv]
          have hw : wrE v st l.l = 2 := by unfold wrE; rw [if_neg h50, if_neg (fun h => hv h.1)]
          have hG : gdR v st l.l = (2, [], []) := by unfold gdR; rw [if_pos (by omega), hw]
          have hC : clR v st l.l = (0, 0, 2) := by unfold clR; rw [if_pos (by omega), hw]
          rw [hG] at h1
          cases h1
          rw [hC]
          refine go T_ok 200 rfl ?_
          repeat (first | (refine ldA T_ok rfl rfl rfl rfl rfl (Bk.all B1) ?_; refine go T_ok 200 rfl ?_) | (refine ld T_ok rfl rfl rfl rfl (Bk.get B1 rfl) ?_; refine go T_ok 200 rfl ?_) | (refine guardA (b := true) rfl rfl rfl rfl (fun _ => ?_) (fun e => by cases e); refine go T_ok 200 rfl ?_) | (refine guardA (b := false) rfl rfl rfl rfl (fun e => by cases e) (fun _ => ?_); refine go T_ok 200 rfl ?_) | (refine condT rfl rfl ?_; refine go T_ok 200 rfl ?_) | (refine condF rfl rfl ?_; refine go T_ok 200 rfl ?_))
          refine call rfl rfl rfl (ok _ (by decide) rfl) (known_any _) ?_
          rintro v wk ⟨rfl, qk⟩
          refine go T_ok 200 rfl ?_
          exact ret (ret1 (v := .bool true) Try.results4 rfl ⟨rfl, q.trans qk⟩)
        rw [decide_eq_true hv]
        refine go T_ok 200 rfl ?_
        repeat (first | (refine ldA T_ok rfl rfl rfl rfl rfl (Bk.all B1) ?_; refine go T_ok 200 rfl ?_) | (refine ld T_ok rfl rfl rfl rfl (Bk.get B1 rfl) ?_; refine go T_ok 200 rfl ?_) | (refine guardA (b := true) rfl rfl rfl rfl (fun _ => ?_) (fun e => by cases e); refine go T_ok 200 rfl ?_) | (refine guardA (b := false) rfl rfl rfl rfl (fun e => by cases e) (fun _ => ?_); refine go T_ok 200 rfl ?_) | (refine condT rfl rfl ?_; refine go T_ok 200 rfl ?_) | (refine condF rfl rfl ?_; refine go T_ok 200 rfl ?_))
        refine call rfl rfl rfl (ok _ (by decide) rfl) (Surveys_any v st l.l l.A l.c _ _ hv hml Sl) ?_
        rintro x w ⟨rfl, qk⟩
        have B1 := B1.no qk
        have Sl := Sl.no qk
        have S1 := S1.no qk
        have S2 := S2.no qk
        have q := q.trans qk
        by_cases hs : LdOk v st l.l
        case neg =>
          rw [decide_eq_false hs]
          have hw : wrE v st l.l = 2 := by unfold wrE; rw [if_neg h50, if_neg (fun h => hs h.2)]
          have hG : gdR v st l.l = (2, [], []) := by unfold gdR; rw [if_pos (by omega), hw]
          have hC : clR v st l.l = (0, 0, 2) := by unfold clR; rw [if_pos (by omega), hw]
          rw [hG] at h1
          cases h1
          rw [hC]
          refine go T_ok 200 rfl ?_
          repeat (first | (refine ldA T_ok rfl rfl rfl rfl rfl (Bk.all B1) ?_; refine go T_ok 200 rfl ?_) | (refine ld T_ok rfl rfl rfl rfl (Bk.get B1 rfl) ?_; refine go T_ok 200 rfl ?_) | (refine guardA (b := true) rfl rfl rfl rfl (fun _ => ?_) (fun e => by cases e); refine go T_ok 200 rfl ?_) | (refine guardA (b := false) rfl rfl rfl rfl (fun e => by cases e) (fun _ => ?_); refine go T_ok 200 rfl ?_) | (refine condT rfl rfl ?_; refine go T_ok 200 rfl ?_) | (refine condF rfl rfl ?_; refine go T_ok 200 rfl ?_))
          refine call rfl rfl rfl (ok _ (by decide) rfl) (known_any _) ?_
          rintro v wk ⟨rfl, qk⟩
          refine go T_ok 200 rfl ?_
          exact ret (ret1 (v := .bool true) Try.results4 rfl ⟨rfl, q.trans qk⟩)
        rw [decide_eq_true hs]
        have hw : wrE v st l.l = 0 := by unfold wrE; rw [if_neg h50, if_pos ⟨hv, hs⟩]
        refine go T_ok 200 rfl ?_
        repeat (first | (refine ldA T_ok rfl rfl rfl rfl rfl (Bk.all B1) ?_; refine go T_ok 200 rfl ?_) | (refine ld T_ok rfl rfl rfl rfl (Bk.get B1 rfl) ?_; refine go T_ok 200 rfl ?_) | (refine guardA (b := true) rfl rfl rfl rfl (fun _ => ?_) (fun e => by cases e); refine go T_ok 200 rfl ?_) | (refine guardA (b := false) rfl rfl rfl rfl (fun e => by cases e) (fun _ => ?_); refine go T_ok 200 rfl ?_) | (refine condT rfl rfl ?_; refine go T_ok 200 rfl ?_) | (refine condF rfl rfl ?_; refine go T_ok 200 rfl ?_))
        refine call rfl rfl rfl (ok _ (by decide) rfl) (rClash_any v st l.l l.A l.c _ _ hv hs (by omega) Sl) ?_
        rintro x w ⟨rfl, qk⟩
        have B1 := B1.no qk
        have Sl := Sl.no qk
        have S1 := S1.no qk
        have S2 := S2.no qk
        have q := q.trans qk
        cases hcl : clsh v st l.l with
        | some p =>
          obtain ⟨i, k⟩ := p
          have hG : gdR v st l.l = (7, [], []) := by unfold gdR; rw [if_neg (by omega), hcl]
          have hC : clR v st l.l = ((i : Int), (k : Int), 0) := by unfold clR; rw [if_neg (by omega), hcl]
          rw [hG] at h1
          cases h1
          rw [hC, show rcl (some (i, k)) = ((i : Int), (k : Int)) from rfl]
          refine go T_ok 200 rfl ?_
          refine condT rfl (decide_eq_true (by omega)) ?_
          refine go T_ok 200 rfl ?_
          repeat (first | (refine ldA T_ok rfl rfl rfl rfl rfl (Bk.all B1) ?_; refine go T_ok 200 rfl ?_) | (refine ld T_ok rfl rfl rfl rfl (Bk.get B1 rfl) ?_; refine go T_ok 200 rfl ?_) | (refine guardA (b := true) rfl rfl rfl rfl (fun _ => ?_) (fun e => by cases e); refine go T_ok 200 rfl ?_) | (refine guardA (b := false) rfl rfl rfl rfl (fun e => by cases e) (fun _ => ?_); refine go T_ok 200 rfl ?_) | (refine condT rfl rfl ?_; refine go T_ok 200 rfl ?_) | (refine condF rfl rfl ?_; refine go T_ok 200 rfl ?_))
          refine guardA (b := true) rfl rfl rfl (congrArg Value.bool (by simp)) (fun _ => ?_) (fun e => by cases e)
          refine go T_ok 200 rfl ?_
          refine guardA (b := true) rfl rfl rfl (congrArg Value.bool (by simp)) (fun _ => ?_) (fun e => by cases e)
          refine go T_ok 200 rfl ?_
          refine call rfl rfl rfl (ok _ (by decide) rfl) (known_any _) ?_
          rintro v wk ⟨rfl, qk⟩
          refine go T_ok 200 rfl ?_
          exact ret (ret1 (v := .bool true) Try.results4 rfl ⟨rfl, q.trans qk⟩)
        | none =>
          have hG : gdR v st l.l = (0, lst v st l.l, mst v st l.l) := by unfold gdR; rw [if_neg (by omega), hcl]
          have hC : clR v st l.l = (0, 0, 5) := by unfold clR; rw [if_neg (by omega), hcl]
          rw [hG] at h1
          cases h1
          rw [hC, show rcl none = (-1, -1) from rfl]
          have hxy := vo_xy hv
          refine go T_ok 200 rfl ?_
          repeat (first | (refine ldA T_ok rfl rfl rfl rfl rfl (Bk.all B1) ?_; refine go T_ok 200 rfl ?_) | (refine ld T_ok rfl rfl rfl rfl (Bk.get B1 rfl) ?_; refine go T_ok 200 rfl ?_) | (refine guardA (b := true) rfl rfl rfl rfl (fun _ => ?_) (fun e => by cases e); refine go T_ok 200 rfl ?_) | (refine guardA (b := false) rfl rfl rfl rfl (fun e => by cases e) (fun _ => ?_); refine go T_ok 200 rfl ?_) | (refine condT rfl rfl ?_; refine go T_ok 200 rfl ?_) | (refine condF rfl rfl ?_; refine go T_ok 200 rfl ?_))
          refine call rfl rfl rfl (ok _ (by decide) rfl) (Least_any v st l.l l.A l.c _ _ hv hs (by omega) Sl) ?_
          rintro x w ⟨A3, c3, rfl, S3, qk⟩
          have B1 := B1.no qk
          have Sl := Sl.no qk
          have S1 := S1.no qk
          have S2 := S2.no qk
          have q := q.trans qk
          refine go T_ok 200 rfl ?_
          refine call rfl rfl rfl (ok _ (by decide) rfl) (Same_any _ _ _ _ _ _ _ _ _ (by simp [lst]; unfold maxLen; omega) S1 S3) ?_
          rintro x w ⟨rfl, qk⟩
          have B1 := B1.no qk
          have Sl := Sl.no qk
          have S1 := S1.no qk
          have S2 := S2.no qk
          have S3 := S3.no qk
          have q := q.trans qk
          rw [decide_eq_true rfl]
          refine go T_ok 200 rfl ?_
          repeat (first | (refine ldA T_ok rfl rfl rfl rfl rfl (Bk.all B1) ?_; refine go T_ok 200 rfl ?_) | (refine ld T_ok rfl rfl rfl rfl (Bk.get B1 rfl) ?_; refine go T_ok 200 rfl ?_) | (refine guardA (b := true) rfl rfl rfl rfl (fun _ => ?_) (fun e => by cases e); refine go T_ok 200 rfl ?_) | (refine guardA (b := false) rfl rfl rfl rfl (fun e => by cases e) (fun _ => ?_); refine go T_ok 200 rfl ?_) | (refine condT rfl rfl ?_; refine go T_ok 200 rfl ?_) | (refine condF rfl rfl ?_; refine go T_ok 200 rfl ?_))
          refine call rfl rfl rfl (ok _ (by decide) rfl) (Most_any v st l.l l.A l.c _ _ hv hs (by omega) Sl) ?_
          rintro x w ⟨A4, c4, rfl, S4, qk⟩
          have B1 := B1.no qk
          have Sl := Sl.no qk
          have S1 := S1.no qk
          have S2 := S2.no qk
          have S3 := S3.no qk
          have q := q.trans qk
          refine go T_ok 200 rfl ?_
          refine call rfl rfl rfl (ok _ (by decide) rfl) (Same_any _ _ _ _ _ _ _ _ _ (by simp [mst]; unfold maxLen; omega) S2 S4) ?_
          rintro x w ⟨rfl, qk⟩
          have B1 := B1.no qk
          have Sl := Sl.no qk
          have S1 := S1.no qk
          have S2 := S2.no qk
          have S3 := S3.no qk
          have S4 := S4.no qk
          have q := q.trans qk
          rw [decide_eq_true rfl]
          refine go T_ok 200 rfl ?_
          repeat (first | (refine ldA T_ok rfl rfl rfl rfl rfl (Bk.all B1) ?_; refine go T_ok 200 rfl ?_) | (refine ld T_ok rfl rfl rfl rfl (Bk.get B1 rfl) ?_; refine go T_ok 200 rfl ?_) | (refine guardA (b := true) rfl rfl rfl rfl (fun _ => ?_) (fun e => by cases e); refine go T_ok 200 rfl ?_) | (refine guardA (b := false) rfl rfl rfl rfl (fun e => by cases e) (fun _ => ?_); refine go T_ok 200 rfl ?_) | (refine condT rfl rfl ?_; refine go T_ok 200 rfl ?_) | (refine condF rfl rfl ?_; refine go T_ok 200 rfl ?_))
          refine call rfl rfl rfl (ok _ (by decide) rfl) (known_any _) ?_
          rintro v wk ⟨rfl, qk⟩
          refine go T_ok 200 rfl ?_
          exact ret (ret1 (v := .bool true) Try.results4 rfl ⟨rfl, q.trans qk⟩)
end Go.Proofs.Ytkkjfjeniaiaiaa
