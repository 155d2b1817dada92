/- The walk of CountCompares. -/
import Derived.Test.YtocolpbakaibnaaP3
import Derived.Test.YtocolpbakaibnaaE1
namespace Go.Proofs.Ytocolpbakaibnaa
open Go.Ev Go.Proofs Go.Cnt
attribute [local irreducible] At AtH

set_option maxRecDepth 20000 in
set_option maxHeartbeats 4000000 in
theorem walk_CountCompares (xs : List Bool) (A : Option Addr) (c : Nat) (ys : List Bool) (A2 : Option Addr) (c2 : Nat) (D lv : Int) (w : World) (_hL : xs.length ≤ c) (hSl : Sl w w.heap.size 1 A xs.length (boolVs xs)) (_hL2 : ys.length ≤ c2) (hSl2 : Sl w w.heap.size 1 A2 ys.length (boolVs ys)) (_hD : -9223372036854775808 ≤ D ∧ D ≤ 9223372036854775807) (_hlv : -9223372036854775808 ≤ lv ∧ lv ≤ 9223372036854775807) :
    Ret Try.prog 14 [.slice A xs.length c, .slice A2 ys.length c2, .int .i64 D, .int .i64 lv] w fun v w' => v = .bool true ∧ Chg No w w' := by
  refine enter Try.func14 rfl Try.ntmps14 rfl ?_
  refine go T2_ok 200 rfl ?_
  refine call rfl rfl rfl (ok _ (by decide) rfl) (few_any A xs.length c D 60 w) ?_
  rintro v w0 ⟨rfl, rfl⟩
  refine go T2_ok 200 rfl ?_
  refine guardN rfl rfl rfl (fun hf => ?_) (fun hf => ?_)
  · refine go T2_ok 200 rfl ?_
    repeat (first | (refine guardA (b := true) rfl rfl rfl rfl (fun _ => ?_) (fun e => by cases e); refine go T2_ok 200 rfl ?_) | (refine guardA (b := false) rfl rfl rfl rfl (fun e => by cases e) (fun _ => ?_); refine go T2_ok 200 rfl ?_) | (refine condT rfl rfl ?_; refine go T2_ok 200 rfl ?_) | (refine condF rfl rfl ?_; refine go T2_ok 200 rfl ?_))
    refine call rfl rfl rfl (ok _ (by decide) rfl) (known_any _) ?_
    rintro v wk ⟨rfl, qk⟩
    refine go T2_ok 200 rfl ?_
    exact ret (ret1 (v := .bool true) Try.results14 rfl ⟨rfl, qk⟩)
  clear hf
  refine go T2_ok 200 rfl ?_
  refine call rfl rfl rfl (ok _ (by decide) rfl) (few_any A2 ys.length c2 D 60 w) ?_
  rintro v w0 ⟨rfl, rfl⟩
  refine go T2_ok 200 rfl ?_
  refine cond rfl (fun hf => ?_) (fun hf => ?_)
  · refine go T2_ok 200 rfl ?_
    refine call rfl rfl rfl (ok _ (by decide) rfl) (known_any _) ?_
    rintro v wk ⟨rfl, qk⟩
    refine go T2_ok 200 rfl ?_
    exact ret (ret1 (v := .bool true) Try.results14 rfl ⟨rfl, qk⟩)
  clear hf
  refine go T2_ok 200 rfl ?_
  refine call rfl rfl rfl (ok _ (by decide) rfl) (Compare_any xs ys D lv A A2 c c2 _ _ w hSl hSl2) ?_
  rintro v w1 ⟨q1, rfl⟩
  have hE := cmpE_eq xs.length ys.length D lv
  by_cases h1 : wrongE xs.length D = 0
  · rw [if_neg (by simp [h1])] at hE
    obtain ⟨d, rfl, hd0, hd1, hn⟩ := wrong_zero h1
    by_cases h2 : wrongE ys.length d = 0
    · rw [if_neg (by simp [h2])] at hE
      obtain ⟨_, _, _, _, hm⟩ := wrong_zero h2
      cases hl : inB lv 2 450000 with
      | true =>
        rw [hl, if_pos rfl] at hE
        have hlb := (inB_iff _ _ _).1 hl
        have hE2 : cmpE ys.length xs.length d lv = 0 := by rw [cmpE_eq, if_neg (by simp [h2]), if_neg (by simp [h1]), hl]; rfl
        rw [hE, if_pos rfl, Int.toNat_natCast]
        refine go T2_ok 200 rfl ?_
        refine call rfl rfl rfl (ok _ (by decide) rfl) (wrong_any A xs.length c d w1) ?_
        rintro v w2 ⟨rfl, rfl⟩
        rw [h1]
        refine go T2_ok 200 rfl ?_
        repeat (first | (refine guardA (b := true) rfl rfl rfl rfl (fun _ => ?_) (fun e => by cases e); refine go T2_ok 200 rfl ?_) | (refine guardA (b := false) rfl rfl rfl rfl (fun e => by cases e) (fun _ => ?_); refine go T2_ok 200 rfl ?_) | (refine condT rfl rfl ?_; refine go T2_ok 200 rfl ?_) | (refine condF rfl rfl ?_; refine go T2_ok 200 rfl ?_))
        refine call rfl rfl rfl (ok _ (by decide) rfl) (wrong_any A2 ys.length c2 d w1) ?_
        rintro v w2 ⟨rfl, rfl⟩
        rw [h2]
        refine go T2_ok 200 rfl ?_
        repeat (first | (refine guardA (b := true) rfl rfl rfl rfl (fun _ => ?_) (fun e => by cases e); refine go T2_ok 200 rfl ?_) | (refine guardA (b := false) rfl rfl rfl rfl (fun e => by cases e) (fun _ => ?_); refine go T2_ok 200 rfl ?_) | (refine condT rfl rfl ?_; refine go T2_ok 200 rfl ?_) | (refine condF rfl rfl ?_; refine go T2_ok 200 rfl ?_))
        refine call rfl rfl rfl (ok _ (by decide) rfl) (level_any lv 450000 w1) ?_
        rintro v w2 ⟨rfl, rfl⟩
        rw [hl]
        rcases cmpL_vals (keptL d (2 * lv) xs) (keptL d (2 * lv) ys) with hv | hv | hv
        · skip
          have hf : cmpL (keptL d (2 * lv) ys) (keptL d (2 * lv) xs) = 1 := by
            have := cmpL_flip (p := kp (sts d (2 * lv) xs)) (q := kp (sts d (2 * lv) ys)) (n := d + 1)
            rw [show cmpL (spansTo (kp (sts d (2 * lv) xs)) (d + 1)) (spansTo (kp (sts d (2 * lv) ys)) (d + 1)) = 1 from hv] at this
            exact this
          rw [hv]
          refine go T2_ok 200 rfl ?_
          repeat (first | (refine guardA (b := true) rfl rfl rfl rfl (fun _ => ?_) (fun e => by cases e); refine go T2_ok 200 rfl ?_) | (refine guardA (b := false) rfl rfl rfl rfl (fun e => by cases e) (fun _ => ?_); refine go T2_ok 200 rfl ?_) | (refine condT rfl rfl ?_; refine go T2_ok 200 rfl ?_) | (refine condF rfl rfl ?_; refine go T2_ok 200 rfl ?_))
          refine call rfl rfl rfl (ok _ (by decide) rfl) (rCompare_any xs ys d lv A A2 c c2 _ _ w1 (hSl.no q1) (hSl2.no q1) hd0 hd1 hn hm (by omega) (by omega)) ?_
          rintro v w2 ⟨rfl, q2⟩
          rw [← kept_rkept (by omega), ← kept_rkept (by omega), hv]
          refine go T2_ok 200 rfl ?_
          repeat (first | (refine guardA (b := true) rfl rfl rfl rfl (fun _ => ?_) (fun e => by cases e); refine go T2_ok 200 rfl ?_) | (refine guardA (b := false) rfl rfl rfl rfl (fun e => by cases e) (fun _ => ?_); refine go T2_ok 200 rfl ?_) | (refine condT rfl rfl ?_; refine go T2_ok 200 rfl ?_) | (refine condF rfl rfl ?_; refine go T2_ok 200 rfl ?_))
          refine call rfl rfl rfl (ok _ (by decide) rfl) (Compare_any ys xs d lv A2 A c2 c _ _ w2 ((hSl2.no q1).no q2) ((hSl.no q1).no q2)) ?_
          rintro v w3 ⟨q3, rfl⟩
          rw [hE2, if_pos rfl, Int.toNat_natCast, hf]
          refine go T2_ok 200 rfl ?_
          repeat (first | (refine guardA (b := true) rfl rfl rfl rfl (fun _ => ?_) (fun e => by cases e); refine go T2_ok 200 rfl ?_) | (refine guardA (b := false) rfl rfl rfl rfl (fun e => by cases e) (fun _ => ?_); refine go T2_ok 200 rfl ?_) | (refine condT rfl rfl ?_; refine go T2_ok 200 rfl ?_) | (refine condF rfl rfl ?_; refine go T2_ok 200 rfl ?_))
          refine call rfl rfl rfl (ok _ (by decide) rfl) (known_any _) ?_
          rintro v wk ⟨rfl, qk⟩
          refine go T2_ok 200 rfl ?_
          exact ret (ret1 (v := .bool true) Try.results14 rfl ⟨rfl, ((q1.trans q2).trans q3).trans qk⟩)
        · skip
          have hf : cmpL (keptL d (2 * lv) ys) (keptL d (2 * lv) xs) = 3 := by
            have := cmpL_flip (p := kp (sts d (2 * lv) xs)) (q := kp (sts d (2 * lv) ys)) (n := d + 1)
            rw [show cmpL (spansTo (kp (sts d (2 * lv) xs)) (d + 1)) (spansTo (kp (sts d (2 * lv) ys)) (d + 1)) = 2 from hv] at this
            exact this
          rw [hv]
          refine go T2_ok 200 rfl ?_
          repeat (first | (refine guardA (b := true) rfl rfl rfl rfl (fun _ => ?_) (fun e => by cases e); refine go T2_ok 200 rfl ?_) | (refine guardA (b := false) rfl rfl rfl rfl (fun e => by cases e) (fun _ => ?_); refine go T2_ok 200 rfl ?_) | (refine condT rfl rfl ?_; refine go T2_ok 200 rfl ?_) | (refine condF rfl rfl ?_; refine go T2_ok 200 rfl ?_))
          refine call rfl rfl rfl (ok _ (by decide) rfl) (rCompare_any xs ys d lv A A2 c c2 _ _ w1 (hSl.no q1) (hSl2.no q1) hd0 hd1 hn hm (by omega) (by omega)) ?_
          rintro v w2 ⟨rfl, q2⟩
          rw [← kept_rkept (by omega), ← kept_rkept (by omega), hv]
          refine go T2_ok 200 rfl ?_
          repeat (first | (refine guardA (b := true) rfl rfl rfl rfl (fun _ => ?_) (fun e => by cases e); refine go T2_ok 200 rfl ?_) | (refine guardA (b := false) rfl rfl rfl rfl (fun e => by cases e) (fun _ => ?_); refine go T2_ok 200 rfl ?_) | (refine condT rfl rfl ?_; refine go T2_ok 200 rfl ?_) | (refine condF rfl rfl ?_; refine go T2_ok 200 rfl ?_))
          refine call rfl rfl rfl (ok _ (by decide) rfl) (Compare_any ys xs d lv A2 A c2 c _ _ w2 ((hSl2.no q1).no q2) ((hSl.no q1).no q2)) ?_
          rintro v w3 ⟨q3, rfl⟩
          rw [hE2, if_pos rfl, Int.toNat_natCast, hf]
          refine go T2_ok 200 rfl ?_
          repeat (first | (refine guardA (b := true) rfl rfl rfl rfl (fun _ => ?_) (fun e => by cases e); refine go T2_ok 200 rfl ?_) | (refine guardA (b := false) rfl rfl rfl rfl (fun e => by cases e) (fun _ => ?_); refine go T2_ok 200 rfl ?_) | (refine condT rfl rfl ?_; refine go T2_ok 200 rfl ?_) | (refine condF rfl rfl ?_; refine go T2_ok 200 rfl ?_))
          refine call rfl rfl rfl (ok _ (by decide) rfl) (known_any _) ?_
          rintro v wk ⟨rfl, qk⟩
          refine go T2_ok 200 rfl ?_
          exact ret (ret1 (v := .bool true) Try.results14 rfl ⟨rfl, ((q1.trans q2).trans q3).trans qk⟩)
        · skip
          have hf : cmpL (keptL d (2 * lv) ys) (keptL d (2 * lv) xs) = 2 := by
            have := cmpL_flip (p := kp (sts d (2 * lv) xs)) (q := kp (sts d (2 * lv) ys)) (n := d + 1)
            rw [show cmpL (spansTo (kp (sts d (2 * lv) xs)) (d + 1)) (spansTo (kp (sts d (2 * lv) ys)) (d + 1)) = 3 from hv] at this
            exact this
          rw [hv]
          refine go T2_ok 200 rfl ?_
          repeat (first | (refine guardA (b := true) rfl rfl rfl rfl (fun _ => ?_) (fun e => by cases e); refine go T2_ok 200 rfl ?_) | (refine guardA (b := false) rfl rfl rfl rfl (fun e => by cases e) (fun _ => ?_); refine go T2_ok 200 rfl ?_) | (refine condT rfl rfl ?_; refine go T2_ok 200 rfl ?_) | (refine condF rfl rfl ?_; refine go T2_ok 200 rfl ?_))
          refine call rfl rfl rfl (ok _ (by decide) rfl) (rCompare_any xs ys d lv A A2 c c2 _ _ w1 (hSl.no q1) (hSl2.no q1) hd0 hd1 hn hm (by omega) (by omega)) ?_
          rintro v w2 ⟨rfl, q2⟩
          rw [← kept_rkept (by omega), ← kept_rkept (by omega), hv]
          refine go T2_ok 200 rfl ?_
          repeat (first | (refine guardA (b := true) rfl rfl rfl rfl (fun _ => ?_) (fun e => by cases e); refine go T2_ok 200 rfl ?_) | (refine guardA (b := false) rfl rfl rfl rfl (fun e => by cases e) (fun _ => ?_); refine go T2_ok 200 rfl ?_) | (refine condT rfl rfl ?_; refine go T2_ok 200 rfl ?_) | (refine condF rfl rfl ?_; refine go T2_ok 200 rfl ?_))
          refine call rfl rfl rfl (ok _ (by decide) rfl) (Compare_any ys xs d lv A2 A c2 c _ _ w2 ((hSl2.no q1).no q2) ((hSl.no q1).no q2)) ?_
          rintro v w3 ⟨q3, rfl⟩
          rw [hE2, if_pos rfl, Int.toNat_natCast, hf]
          refine go T2_ok 200 rfl ?_
          repeat (first | (refine guardA (b := true) rfl rfl rfl rfl (fun _ => ?_) (fun e => by cases e); refine go T2_ok 200 rfl ?_) | (refine guardA (b := false) rfl rfl rfl rfl (fun e => by cases e) (fun _ => ?_); refine go T2_ok 200 rfl ?_) | (refine condT rfl rfl ?_; refine go T2_ok 200 rfl ?_) | (refine condF rfl rfl ?_; refine go T2_ok 200 rfl ?_))
          refine call rfl rfl rfl (ok _ (by decide) rfl) (known_any _) ?_
          rintro v wk ⟨rfl, qk⟩
          refine go T2_ok 200 rfl ?_
          exact ret (ret1 (v := .bool true) Try.results14 rfl ⟨rfl, ((q1.trans q2).trans q3).trans qk⟩)
      | false =>
        rw [hl, if_neg (by simp)] at hE
        rw [hE, if_neg (by simp)]
        refine go T2_ok 200 rfl ?_
        refine call rfl rfl rfl (ok _ (by decide) rfl) (wrong_any A xs.length c d w1) ?_
        rintro v w2 ⟨rfl, rfl⟩
        rw [h1]
        refine go T2_ok 200 rfl ?_
        repeat (first | (refine guardA (b := true) rfl rfl rfl rfl (fun _ => ?_) (fun e => by cases e); refine go T2_ok 200 rfl ?_) | (refine guardA (b := false) rfl rfl rfl rfl (fun e => by cases e) (fun _ => ?_); refine go T2_ok 200 rfl ?_) | (refine condT rfl rfl ?_; refine go T2_ok 200 rfl ?_) | (refine condF rfl rfl ?_; refine go T2_ok 200 rfl ?_))
        refine call rfl rfl rfl (ok _ (by decide) rfl) (wrong_any A2 ys.length c2 d w1) ?_
        rintro v w2 ⟨rfl, rfl⟩
        rw [h2]
        refine go T2_ok 200 rfl ?_
        repeat (first | (refine guardA (b := true) rfl rfl rfl rfl (fun _ => ?_) (fun e => by cases e); refine go T2_ok 200 rfl ?_) | (refine guardA (b := false) rfl rfl rfl rfl (fun e => by cases e) (fun _ => ?_); refine go T2_ok 200 rfl ?_) | (refine condT rfl rfl ?_; refine go T2_ok 200 rfl ?_) | (refine condF rfl rfl ?_; refine go T2_ok 200 rfl ?_))
        refine call rfl rfl rfl (ok _ (by decide) rfl) (level_any lv 450000 w1) ?_
        rintro v w2 ⟨rfl, rfl⟩
        rw [hl]
        refine go T2_ok 200 rfl ?_
        repeat (first | (refine guardA (b := true) rfl rfl rfl rfl (fun _ => ?_) (fun e => by cases e); refine go T2_ok 200 rfl ?_) | (refine guardA (b := false) rfl rfl rfl rfl (fun e => by cases e) (fun _ => ?_); refine go T2_ok 200 rfl ?_) | (refine condT rfl rfl ?_; refine go T2_ok 200 rfl ?_) | (refine condF rfl rfl ?_; refine go T2_ok 200 rfl ?_))
        refine call rfl rfl rfl (ok _ (by decide) rfl) (known_any _) ?_
        rintro v wk ⟨rfl, qk⟩
        refine go T2_ok 200 rfl ?_
        exact ret (ret1 (v := .bool true) Try.results14 rfl ⟨rfl, (q1).trans qk⟩)
    · rw [if_pos h2] at hE
      rw [hE, if_neg h2]
      refine go T2_ok 200 rfl ?_
      refine call rfl rfl rfl (ok _ (by decide) rfl) (wrong_any A xs.length c d w1) ?_
      rintro v w2 ⟨rfl, rfl⟩
      rw [h1]
      refine go T2_ok 200 rfl ?_
      repeat (first | (refine guardA (b := true) rfl rfl rfl rfl (fun _ => ?_) (fun e => by cases e); refine go T2_ok 200 rfl ?_) | (refine guardA (b := false) rfl rfl rfl rfl (fun e => by cases e) (fun _ => ?_); refine go T2_ok 200 rfl ?_) | (refine condT rfl rfl ?_; refine go T2_ok 200 rfl ?_) | (refine condF rfl rfl ?_; refine go T2_ok 200 rfl ?_))
      refine call rfl rfl rfl (ok _ (by decide) rfl) (wrong_any A2 ys.length c2 d w1) ?_
      rintro v w2 ⟨rfl, rfl⟩
      generalize wrongE ys.length d = e0 at h2
      refine go T2_ok 200 rfl ?_
      refine guard (b := false) rfl rfl (congrArg Value.bool (by simp [h2])) (fun e => by cases e) (fun _ => ?_)
      refine go T2_ok 200 rfl ?_
      refine condT rfl (by simpa using h2) ?_
      refine go T2_ok 200 rfl ?_
      refine guard (b := true) rfl rfl (congrArg Value.bool (by simp)) (fun _ => ?_) (fun e => by cases e)
      refine go T2_ok 200 rfl ?_
      refine go T2_ok 200 rfl ?_
      repeat (first | (refine guardA (b := true) rfl rfl rfl rfl (fun _ => ?_) (fun e => by cases e); refine go T2_ok 200 rfl ?_) | (refine guardA (b := false) rfl rfl rfl rfl (fun e => by cases e) (fun _ => ?_); refine go T2_ok 200 rfl ?_) | (refine condT rfl rfl ?_; refine go T2_ok 200 rfl ?_) | (refine condF rfl rfl ?_; refine go T2_ok 200 rfl ?_))
      refine call rfl rfl rfl (ok _ (by decide) rfl) (known_any _) ?_
      rintro v wk ⟨rfl, qk⟩
      refine go T2_ok 200 rfl ?_
      exact ret (ret1 (v := .bool true) Try.results14 rfl ⟨rfl, (q1).trans qk⟩)
  · rw [if_pos h1] at hE
    rw [hE, if_neg h1]
    refine go T2_ok 200 rfl ?_
    refine call rfl rfl rfl (ok _ (by decide) rfl) (wrong_any A xs.length c D w1) ?_
    rintro v w2 ⟨rfl, rfl⟩
    generalize wrongE xs.length D = e0 at h1
    refine go T2_ok 200 rfl ?_
    refine condF rfl (by simp [h1]) ?_
    refine go T2_ok 200 rfl ?_
    refine guard (b := false) rfl rfl (congrArg Value.bool (by simp [h1])) (fun e => by cases e) (fun _ => ?_)
    refine go T2_ok 200 rfl ?_
    refine condT rfl (by simpa using h1) ?_
    refine go T2_ok 200 rfl ?_
    refine guard (b := true) rfl rfl (congrArg Value.bool (by simp)) (fun _ => ?_) (fun e => by cases e)
    refine go T2_ok 200 rfl ?_
    refine go T2_ok 200 rfl ?_
    repeat (first | (refine guardA (b := true) rfl rfl rfl rfl (fun _ => ?_) (fun e => by cases e); refine go T2_ok 200 rfl ?_) | (refine guardA (b := false) rfl rfl rfl rfl (fun e => by cases e) (fun _ => ?_); refine go T2_ok 200 rfl ?_) | (refine condT rfl rfl ?_; refine go T2_ok 200 rfl ?_) | (refine condF rfl rfl ?_; refine go T2_ok 200 rfl ?_))
    refine call rfl rfl rfl (ok _ (by decide) rfl) (known_any _) ?_
    rintro v wk ⟨rfl, qk⟩
    refine go T2_ok 200 rfl ?_
    exact ret (ret1 (v := .bool true) Try.results14 rfl ⟨rfl, (q1).trans qk⟩)
end Go.Proofs.Ytocolpbakaibnaa
