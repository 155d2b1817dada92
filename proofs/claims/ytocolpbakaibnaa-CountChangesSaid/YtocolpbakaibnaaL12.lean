/- The walk of CountChanges. -/
import Derived.Test.YtocolpbakaibnaaP10
namespace Go.Proofs.Ytocolpbakaibnaa
open Go.Ev Go.Proofs Go.Cnt
attribute [local irreducible] At AtH

set_option maxRecDepth 20000 in
set_option maxHeartbeats 4000000 in
theorem walk_CountChanges (xs : List Bool) (A : Option Addr) (c : Nat) (D lv : Int) (w : World) (hL : xs.length ≤ c) (hSl : Sl w w.heap.size 1 A xs.length (boolVs xs)) (_hD : -9223372036854775808 ≤ D ∧ D ≤ 9223372036854775807) (_hlv : -9223372036854775808 ≤ lv ∧ lv ≤ 9223372036854775807) :
    Ret Try.prog 12 [.slice A xs.length c, .int .i64 D, .int .i64 lv] w fun v w' => v = .bool true ∧ Chg No w w' := by
  refine enter Try.func12 rfl Try.ntmps12 rfl ?_
  refine go T2_ok 200 rfl ?_
  refine call rfl rfl rfl (ok _ (by decide) rfl) (few_any A xs.length c D 40 w) ?_
  rintro v w0 ⟨rfl, rfl⟩
  refine go T2_ok 200 rfl ?_
  refine cond rfl (fun hf => ?_) (fun hf => ?_)
  · refine go T2_ok 200 rfl ?_
    refine call rfl rfl rfl (ok _ (by decide) rfl) (known_any _) ?_
    rintro v wk ⟨rfl, qk⟩
    refine go T2_ok 200 rfl ?_
    exact ret (ret1 (v := .bool true) Try.results12 rfl ⟨rfl, qk⟩)
  have hfew : xs.length ≤ 40 ∨ 4000 < xs.length := by
    simp only [Bool.not_eq_false', Bool.and_eq_true, Bool.or_eq_true, decide_eq_true_eq] at hf
    omega
  clear hf
  refine go T2_ok 200 rfl ?_
  refine call rfl rfl rfl (ok _ (by decide) rfl) (Change_any xs D lv A c _ w hSl) ?_
  rintro v w1 ⟨q1, rfl⟩
  have hE := listed_wrong xs.length D (inB lv 2 100)
  by_cases hw : wrongE xs.length D = 0
  · rw [if_neg (by simp [hw])] at hE
    obtain ⟨d, rfl, hd0, hd1, hn⟩ := wrong_zero hw
    cases hl : inB lv 2 100 with
    | true =>
      rw [hl, if_pos rfl] at hE
      have hlb := (inB_iff _ _ _).1 hl
      have hE2 : chgE xs.length d lv = 0 := by unfold chgE; rw [hl]; exact hE
      rw [hE2, if_pos rfl, Int.toNat_natCast]
      have hn40 : xs.length ≤ 40 := by omega
      cases hc : chgN d lv xs 0 xs.length with
      | none =>
        rw [show chgV none = Value.tuple #[.int .i64 0, .int .i64 0, .int .i64 5] from rfl]
        refine go T2_ok 200 rfl ?_
        refine call rfl rfl rfl (ok _ (by decide) rfl) (wrong_any A xs.length c d w1) ?_
        rintro v w2 ⟨rfl, rfl⟩
        rw [hw]
        refine go T2_ok 200 rfl ?_
        repeat (first | (refine guardA (b := true) rfl rfl rfl rfl (fun _ => ?_) (fun e => by cases e); refine go T2_ok 200 rfl ?_) | (refine guardA (b := false) rfl rfl rfl rfl (fun e => by cases e) (fun _ => ?_); refine go T2_ok 200 rfl ?_) | (refine condT rfl rfl ?_; refine go T2_ok 200 rfl ?_) | (refine condF rfl rfl ?_; refine go T2_ok 200 rfl ?_))
        refine call rfl rfl rfl (ok _ (by decide) rfl) (level_any lv 100 w1) ?_
        rintro v w2 ⟨rfl, rfl⟩
        rw [hl]
        refine go T2_ok 200 rfl ?_
        repeat (first | (refine guardA (b := true) rfl rfl rfl rfl (fun _ => ?_) (fun e => by cases e); refine go T2_ok 200 rfl ?_) | (refine guardA (b := false) rfl rfl rfl rfl (fun e => by cases e) (fun _ => ?_); refine go T2_ok 200 rfl ?_) | (refine condT rfl rfl ?_; refine go T2_ok 200 rfl ?_) | (refine condF rfl rfl ?_; refine go T2_ok 200 rfl ?_))
        refine call rfl rfl rfl (ok _ (by decide) rfl) (rChange_any xs d lv A c _ w1 hL (hSl.no q1) hd0 hd1 (by omega) hlb.1 hlb.2) ?_
        rintro v w2 ⟨q2, J, hJ1, hJ2, rfl⟩
        rcases chg_eq (D := d) hlb.1 hn40 hJ1 hJ2 with ⟨e1, e2⟩ | ⟨t, j0, e1, e2⟩
        · rw [e1]
          refine go T2_ok 200 rfl ?_
          repeat (first | (refine guardA (b := true) rfl rfl rfl rfl (fun _ => ?_) (fun e => by cases e); refine go T2_ok 200 rfl ?_) | (refine guardA (b := false) rfl rfl rfl rfl (fun e => by cases e) (fun _ => ?_); refine go T2_ok 200 rfl ?_) | (refine condT rfl rfl ?_; refine go T2_ok 200 rfl ?_) | (refine condF rfl rfl ?_; refine go T2_ok 200 rfl ?_))
          refine call rfl rfl rfl (ok _ (by decide) rfl) (known_any _) ?_
          rintro v wk ⟨rfl, qk⟩
          refine go T2_ok 200 rfl ?_
          exact ret (ret1 (v := .bool true) Try.results12 rfl ⟨rfl, (q1.trans q2).trans qk⟩)
        · rw [e2] at hc; cases hc
      | some r =>
        obtain ⟨t, j0⟩ := r
        rw [show chgV (some (t, j0)) = Value.tuple #[.int .i64 (t : Int), .int .i64 (j0 : Int), .int .i64 0] from rfl]
        refine go T2_ok 200 rfl ?_
        refine call rfl rfl rfl (ok _ (by decide) rfl) (wrong_any A xs.length c d w1) ?_
        rintro v w2 ⟨rfl, rfl⟩
        rw [hw]
        refine go T2_ok 200 rfl ?_
        repeat (first | (refine guardA (b := true) rfl rfl rfl rfl (fun _ => ?_) (fun e => by cases e); refine go T2_ok 200 rfl ?_) | (refine guardA (b := false) rfl rfl rfl rfl (fun e => by cases e) (fun _ => ?_); refine go T2_ok 200 rfl ?_) | (refine condT rfl rfl ?_; refine go T2_ok 200 rfl ?_) | (refine condF rfl rfl ?_; refine go T2_ok 200 rfl ?_))
        refine call rfl rfl rfl (ok _ (by decide) rfl) (level_any lv 100 w1) ?_
        rintro v w2 ⟨rfl, rfl⟩
        rw [hl]
        refine go T2_ok 200 rfl ?_
        repeat (first | (refine guardA (b := true) rfl rfl rfl rfl (fun _ => ?_) (fun e => by cases e); refine go T2_ok 200 rfl ?_) | (refine guardA (b := false) rfl rfl rfl rfl (fun e => by cases e) (fun _ => ?_); refine go T2_ok 200 rfl ?_) | (refine condT rfl rfl ?_; refine go T2_ok 200 rfl ?_) | (refine condF rfl rfl ?_; refine go T2_ok 200 rfl ?_))
        refine call rfl rfl rfl (ok _ (by decide) rfl) (rChange_any xs d lv A c _ w1 hL (hSl.no q1) hd0 hd1 (by omega) hlb.1 hlb.2) ?_
        rintro v w2 ⟨q2, J, hJ1, hJ2, rfl⟩
        rcases chg_eq (D := d) hlb.1 hn40 hJ1 hJ2 with ⟨e1, e2⟩ | ⟨t', j0', e1, e2⟩
        · rw [e2] at hc; cases hc
        · rw [e2] at hc
          cases hc
          rw [e1]
          refine go T2_ok 200 rfl ?_
          repeat (first | (refine guardA (b := true) rfl rfl rfl rfl (fun _ => ?_) (fun e => by cases e); refine go T2_ok 200 rfl ?_) | (refine guardA (b := false) rfl rfl rfl rfl (fun e => by cases e) (fun _ => ?_); refine go T2_ok 200 rfl ?_) | (refine condT rfl rfl ?_; refine go T2_ok 200 rfl ?_) | (refine condF rfl rfl ?_; refine go T2_ok 200 rfl ?_))
          refine guard (b := true) rfl rfl (congrArg Value.bool (by simp)) (fun _ => ?_) (fun e => by cases e)
          refine go T2_ok 200 rfl ?_
          refine guard (b := true) rfl rfl (congrArg Value.bool (by simp)) (fun _ => ?_) (fun e => by cases e)
          refine go T2_ok 200 rfl ?_
          refine call rfl rfl rfl (ok _ (by decide) rfl) (known_any _) ?_
          rintro v wk ⟨rfl, qk⟩
          refine go T2_ok 200 rfl ?_
          exact ret (ret1 (v := .bool true) Try.results12 rfl ⟨rfl, (q1.trans q2).trans qk⟩)
    | false =>
      rw [hl, if_neg (by simp)] at hE
      have hE2 : chgE xs.length d lv = 2 := by unfold chgE; rw [hl]; exact hE
      rw [hE2, if_neg (by decide)]
      refine go T2_ok 200 rfl ?_
      refine call rfl rfl rfl (ok _ (by decide) rfl) (wrong_any A xs.length c d w1) ?_
      rintro v w2 ⟨rfl, rfl⟩
      rw [hw]
      refine go T2_ok 200 rfl ?_
      repeat (first | (refine guardA (b := true) rfl rfl rfl rfl (fun _ => ?_) (fun e => by cases e); refine go T2_ok 200 rfl ?_) | (refine guardA (b := false) rfl rfl rfl rfl (fun e => by cases e) (fun _ => ?_); refine go T2_ok 200 rfl ?_) | (refine condT rfl rfl ?_; refine go T2_ok 200 rfl ?_) | (refine condF rfl rfl ?_; refine go T2_ok 200 rfl ?_))
      refine call rfl rfl rfl (ok _ (by decide) rfl) (level_any lv 100 w1) ?_
      rintro v w2 ⟨rfl, rfl⟩
      rw [hl]
      refine go T2_ok 200 rfl ?_
      repeat (first | (refine guardA (b := true) rfl rfl rfl rfl (fun _ => ?_) (fun e => by cases e); refine go T2_ok 200 rfl ?_) | (refine guardA (b := false) rfl rfl rfl rfl (fun e => by cases e) (fun _ => ?_); refine go T2_ok 200 rfl ?_) | (refine condT rfl rfl ?_; refine go T2_ok 200 rfl ?_) | (refine condF rfl rfl ?_; refine go T2_ok 200 rfl ?_))
      refine call rfl rfl rfl (ok _ (by decide) rfl) (known_any _) ?_
      rintro v wk ⟨rfl, qk⟩
      refine go T2_ok 200 rfl ?_
      exact ret (ret1 (v := .bool true) Try.results12 rfl ⟨rfl, (q1).trans qk⟩)
  · rw [if_pos hw] at hE
    have hE2 : chgE xs.length D lv = wrongE xs.length D := hE
    rw [hE2, if_neg hw]
    refine go T2_ok 200 rfl ?_
    refine call rfl rfl rfl (ok _ (by decide) rfl) (wrong_any A xs.length c D w1) ?_
    rintro v w2 ⟨rfl, rfl⟩
    generalize wrongE xs.length D = e0 at hw
    refine go T2_ok 200 rfl ?_
    refine guard (b := false) rfl rfl (congrArg Value.bool (by simp [hw])) (fun e => by cases e) (fun _ => ?_)
    refine go T2_ok 200 rfl ?_
    repeat (first | (refine guardA (b := true) rfl rfl rfl rfl (fun _ => ?_) (fun e => by cases e); refine go T2_ok 200 rfl ?_) | (refine guardA (b := false) rfl rfl rfl rfl (fun e => by cases e) (fun _ => ?_); refine go T2_ok 200 rfl ?_) | (refine condT rfl rfl ?_; refine go T2_ok 200 rfl ?_) | (refine condF rfl rfl ?_; refine go T2_ok 200 rfl ?_))
    refine condT rfl (by simpa using hw) ?_
    refine go T2_ok 200 rfl ?_
    refine guard (b := true) rfl rfl (congrArg Value.bool (by simp)) (fun _ => ?_) (fun e => by cases e)
    refine go T2_ok 200 rfl ?_
    refine go T2_ok 200 rfl ?_
    repeat (first | (refine guardA (b := true) rfl rfl rfl rfl (fun _ => ?_) (fun e => by cases e); refine go T2_ok 200 rfl ?_) | (refine guardA (b := false) rfl rfl rfl rfl (fun e => by cases e) (fun _ => ?_); refine go T2_ok 200 rfl ?_) | (refine condT rfl rfl ?_; refine go T2_ok 200 rfl ?_) | (refine condF rfl rfl ?_; refine go T2_ok 200 rfl ?_))
    refine call rfl rfl rfl (ok _ (by decide) rfl) (known_any _) ?_
    rintro v wk ⟨rfl, qk⟩
    refine go T2_ok 200 rfl ?_
    exact ret (ret1 (v := .bool true) Try.results12 rfl ⟨rfl, (q1).trans qk⟩)
end Go.Proofs.Ytocolpbakaibnaa
