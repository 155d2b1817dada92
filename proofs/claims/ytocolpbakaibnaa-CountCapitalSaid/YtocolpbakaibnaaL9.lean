/- The walk of CountCapital. -/
import Derived.Test.YtocolpbakaibnaaK2
import Derived.Test.YtocolpbakaibnaaE1
namespace Go.Proofs.Ytocolpbakaibnaa
open Go.Ev Go.Proofs Go.Cnt
attribute [local irreducible] At AtH

set_option maxRecDepth 20000 in
set_option maxHeartbeats 4000000 in
theorem walk_CountCapital (xs : List Bool) (A : Option Addr) (c : Nat) (D lv k : Int) (w : World) (_hL : xs.length ≤ c) (hSl : Sl w w.heap.size 1 A xs.length (boolVs xs)) (_hD : -9223372036854775808 ≤ D ∧ D ≤ 9223372036854775807) (_hlv : -9223372036854775808 ≤ lv ∧ lv ≤ 9223372036854775807) (_hk : -9223372036854775808 ≤ k ∧ k ≤ 9223372036854775807) :
    Ret Try.prog 9 [.slice A xs.length c, .int .i64 D, .int .i64 lv, .int .i64 k] w fun v w' => v = .bool true ∧ Chg No w w' := by
  refine enter Try.func9 rfl Try.ntmps9 rfl ?_
  refine go T2_ok 200 rfl ?_
  refine call rfl rfl rfl (ok _ (by decide) rfl) (few_any A xs.length c D 60 w) ?_
  rintro v w0 ⟨rfl, rfl⟩
  refine go T2_ok 200 rfl ?_
  refine cond rfl (fun hf => ?_) (fun hf => ?_)
  · refine go T2_ok 200 rfl ?_
    refine call rfl rfl rfl (ok _ (by decide) rfl) (known_any _) ?_
    rintro v wk ⟨rfl, qk⟩
    refine go T2_ok 200 rfl ?_
    exact ret (ret1 (v := .bool true) Try.results9 rfl ⟨rfl, qk⟩)
  · refine go T2_ok 200 rfl ?_
    refine call rfl rfl rfl (ok _ (by decide) rfl) (Capital_any xs D k A c _ w hSl) ?_
    rintro v w1 ⟨q1, h1⟩
    have hcap := listed_wrong xs.length D (inB k 0 D)
    have hexc := listed_wrong xs.length D (inB lv 2 900000 && inB k 0 D)
    by_cases hw : wrongE xs.length D = 0
    · rw [if_neg (by simp [hw])] at hcap hexc
      obtain ⟨d, rfl, hd0, hd1, hn⟩ := wrong_zero hw
      cases hkin : inB k 0 d with
      | true =>
        rw [hkin] at hcap hexc
        rw [if_pos rfl] at hcap
        rw [Bool.and_true] at hexc
        rcases h1 with ⟨h, _⟩ | ⟨_, A1, c1, rfl, o1⟩
        · exact absurd (show capE xs.length d k = 0 by unfold capE; rw [hkin]; exact hcap) h
        rw [inB_iff] at hkin
        obtain ⟨k, rfl⟩ : ∃ k' : Nat, k = k' := ⟨k.toNat, by omega⟩
        refine go T2_ok 200 rfl ?_
        refine call rfl rfl rfl (ok _ (by decide) rfl) (Excluded_any xs d lv k A c _ w1 (hSl.no q1)) ?_
        rintro v w2 ⟨q2, rfl⟩
        have hex2 : exclE xs.length d lv k = if inB lv 2 900000 = true then 0 else 2 := by unfold exclE; rw [(inB_iff _ _ _).2 hkin, Bool.and_true]; exact hexc
        have k1 : decide ((k : Int) ≤ d) = true := decide_eq_true hkin.2
        have k0 : decide ((0 : Int) ≤ k) = true := decide_eq_true hkin.1
        have S1 : Sl w2 w1.heap.size 1 A1 (capC d k xs).length ((capC d k xs).map (.int .i64)) := by
          have := (own_sl o1).no q2
          rw [capV_capC] at this
          rwa [capC_len]
        rw [hex2]
        cases hl : inB lv 2 900000 with
        | true =>
          have hlb := (inB_iff _ _ _).1 hl
          rw [if_pos rfl]
          obtain ⟨hx1, hx2⟩ := bst_ex (D := (d : Int)) (lv := lv) (k := k) ((inB_iff _ _ _).1 hl).1 xs
          cases hx : exN (d : Int) lv k xs with
          | some m =>
            obtain ⟨ho, ha⟩ := hx2 m hx
            rw [if_pos ⟨rfl, ho⟩, ha, if_pos rfl, if_pos ho]
            refine go T2_ok 200 rfl ?_
            refine call rfl rfl rfl (ok _ (by decide) rfl) (wrong_any A xs.length c d w2) ?_
            rintro v w3 ⟨rfl, rfl⟩
            rw [hw]
            refine go T2_ok 200 rfl ?_
            refine condF rfl (rfl) ?_
            refine go T2_ok 200 rfl ?_
            rw [k0]
            refine guard (b := true) rfl rfl rfl (fun _ => ?_) (fun e => by cases e)
            refine go T2_ok 200 rfl ?_
            rw [k1]
            refine guard (b := false) rfl rfl rfl (fun e => by cases e) (fun _ => ?_)
            refine go T2_ok 200 rfl ?_
            refine guard (b := true) rfl rfl rfl (fun _ => ?_) (fun e => by cases e)
            refine go T2_ok 200 rfl ?_
            refine guard (b := false) rfl rfl rfl (fun e => by cases e) (fun _ => ?_)
            refine go T2_ok 200 rfl ?_
            refine call rfl rfl rfl (ok _ (by decide) rfl) (rCapital_any xs d k A c _ w2 ((hSl.no q1).no q2) hd0 hd1 (by omega) hn) ?_
            rintro v w4 ⟨A4, c4, rfl, q4, o4⟩
            have S4 : Sl w4 w4.heap.size 1 A4 (capC d k xs).length ((capC d k xs).map (.int .i64)) := by
              have := own_sl o4
              rw [capV_capC] at this
              rwa [capC_len]
            refine go T2_ok 200 rfl ?_
            rw [← capC_len d k xs]
            refine call rfl rfl rfl (ok _ (by decide) rfl) (Same_any (capC d k xs) (capC d k xs) A1 A4 c1 c4 _ _ w4 (S1.no q4) S4 (by rw [capC_len]; omega)) ?_
            rintro v w5 ⟨rfl, q5⟩
            refine go T2_ok 200 rfl ?_
            refine condF rfl (by simp) ?_
            refine go T2_ok 200 rfl ?_
            refine guard (b := false) rfl rfl rfl (fun e => by cases e) (fun _ => ?_)
            refine go T2_ok 200 rfl ?_
            refine call rfl rfl rfl (ok _ (by decide) rfl) (level_any lv 900000 w5) ?_
            rintro v w6 ⟨rfl, rfl⟩
            rw [hl]
            refine go T2_ok 200 rfl ?_
            refine condF rfl (rfl) ?_
            refine go T2_ok 200 rfl ?_
            refine call rfl rfl rfl (ok _ (by decide) rfl) (rExcluded_any xs d k lv A c _ w5 ((((hSl.no q1).no q2).no q4).no q5) hd0 hd1 (by omega) hn (by omega) (by omega)) ?_
            rintro v w7 ⟨rfl, q7⟩
            rw [hx]
            refine go T2_ok 200 rfl ?_
            refine condT rfl (by simp [optM]) ?_
            refine go T2_ok 200 rfl ?_
            refine guard (b := true) rfl rfl rfl (fun _ => ?_) (fun e => by cases e)
            refine go T2_ok 200 rfl ?_
            refine guard (b := true) rfl rfl (congrArg Value.bool (by simp [optM])) (fun _ => ?_) (fun e => by cases e)
            refine go T2_ok 200 rfl ?_
            refine call rfl rfl rfl (ok _ (by decide) rfl) (known_any _) ?_
            rintro v wk ⟨rfl, qk⟩
            refine go T2_ok 200 rfl ?_
            exact ret (ret1 (v := .bool true) Try.results9 rfl ⟨rfl, (((((q1.trans q2).trans q4).trans q5).trans q7)).trans qk⟩)
          | none =>
            have ho : (bst (d : Int) lv k xs).out = false := by rw [hx1 hx, cst_out]
            rw [if_neg (by simp [ho]), if_pos rfl, if_neg (by simp [ho])]
            refine go T2_ok 200 rfl ?_
            refine call rfl rfl rfl (ok _ (by decide) rfl) (wrong_any A xs.length c d w2) ?_
            rintro v w3 ⟨rfl, rfl⟩
            rw [hw]
            refine go T2_ok 200 rfl ?_
            refine condF rfl (rfl) ?_
            refine go T2_ok 200 rfl ?_
            rw [k0]
            refine guard (b := true) rfl rfl rfl (fun _ => ?_) (fun e => by cases e)
            refine go T2_ok 200 rfl ?_
            rw [k1]
            refine guard (b := false) rfl rfl rfl (fun e => by cases e) (fun _ => ?_)
            refine go T2_ok 200 rfl ?_
            refine guard (b := true) rfl rfl rfl (fun _ => ?_) (fun e => by cases e)
            refine go T2_ok 200 rfl ?_
            refine guard (b := false) rfl rfl rfl (fun e => by cases e) (fun _ => ?_)
            refine go T2_ok 200 rfl ?_
            refine call rfl rfl rfl (ok _ (by decide) rfl) (rCapital_any xs d k A c _ w2 ((hSl.no q1).no q2) hd0 hd1 (by omega) hn) ?_
            rintro v w4 ⟨A4, c4, rfl, q4, o4⟩
            have S4 : Sl w4 w4.heap.size 1 A4 (capC d k xs).length ((capC d k xs).map (.int .i64)) := by
              have := own_sl o4
              rw [capV_capC] at this
              rwa [capC_len]
            refine go T2_ok 200 rfl ?_
            rw [← capC_len d k xs]
            refine call rfl rfl rfl (ok _ (by decide) rfl) (Same_any (capC d k xs) (capC d k xs) A1 A4 c1 c4 _ _ w4 (S1.no q4) S4 (by rw [capC_len]; omega)) ?_
            rintro v w5 ⟨rfl, q5⟩
            refine go T2_ok 200 rfl ?_
            refine condF rfl (by simp) ?_
            refine go T2_ok 200 rfl ?_
            refine guard (b := false) rfl rfl rfl (fun e => by cases e) (fun _ => ?_)
            refine go T2_ok 200 rfl ?_
            refine call rfl rfl rfl (ok _ (by decide) rfl) (level_any lv 900000 w5) ?_
            rintro v w6 ⟨rfl, rfl⟩
            rw [hl]
            refine go T2_ok 200 rfl ?_
            refine condF rfl (rfl) ?_
            refine go T2_ok 200 rfl ?_
            refine call rfl rfl rfl (ok _ (by decide) rfl) (rExcluded_any xs d k lv A c _ w5 ((((hSl.no q1).no q2).no q4).no q5) hd0 hd1 (by omega) hn (by omega) (by omega)) ?_
            rintro v w7 ⟨rfl, q7⟩
            rw [hx]
            refine go T2_ok 200 rfl ?_
            refine condF rfl (by simp [optM]) ?_
            refine go T2_ok 200 rfl ?_
            refine guard (b := true) rfl rfl rfl (fun _ => ?_) (fun e => by cases e)
            refine go T2_ok 200 rfl ?_
            refine guard (b := true) rfl rfl rfl (fun _ => ?_) (fun e => by cases e)
            refine go T2_ok 200 rfl ?_
            refine call rfl rfl rfl (ok _ (by decide) rfl) (known_any _) ?_
            rintro v wk ⟨rfl, qk⟩
            refine go T2_ok 200 rfl ?_
            exact ret (ret1 (v := .bool true) Try.results9 rfl ⟨rfl, (((((q1.trans q2).trans q4).trans q5).trans q7)).trans qk⟩)
        | false =>
          rw [if_neg (by simp), if_neg (by simp), if_neg (by simp)]
          refine go T2_ok 200 rfl ?_
          refine call rfl rfl rfl (ok _ (by decide) rfl) (wrong_any A xs.length c d w2) ?_
          rintro v w3 ⟨rfl, rfl⟩
          rw [hw]
          refine go T2_ok 200 rfl ?_
          refine condF rfl (rfl) ?_
          refine go T2_ok 200 rfl ?_
          rw [k0]
          refine guard (b := true) rfl rfl rfl (fun _ => ?_) (fun e => by cases e)
          refine go T2_ok 200 rfl ?_
          rw [k1]
          refine guard (b := false) rfl rfl rfl (fun e => by cases e) (fun _ => ?_)
          refine go T2_ok 200 rfl ?_
          refine guard (b := true) rfl rfl rfl (fun _ => ?_) (fun e => by cases e)
          refine go T2_ok 200 rfl ?_
          refine guard (b := false) rfl rfl rfl (fun e => by cases e) (fun _ => ?_)
          refine go T2_ok 200 rfl ?_
          refine call rfl rfl rfl (ok _ (by decide) rfl) (rCapital_any xs d k A c _ w2 ((hSl.no q1).no q2) hd0 hd1 (by omega) hn) ?_
          rintro v w4 ⟨A4, c4, rfl, q4, o4⟩
          have S4 : Sl w4 w4.heap.size 1 A4 (capC d k xs).length ((capC d k xs).map (.int .i64)) := by
            have := own_sl o4
            rw [capV_capC] at this
            rwa [capC_len]
          refine go T2_ok 200 rfl ?_
          rw [← capC_len d k xs]
          refine call rfl rfl rfl (ok _ (by decide) rfl) (Same_any (capC d k xs) (capC d k xs) A1 A4 c1 c4 _ _ w4 (S1.no q4) S4 (by rw [capC_len]; omega)) ?_
          rintro v w5 ⟨rfl, q5⟩
          refine go T2_ok 200 rfl ?_
          refine condF rfl (by simp) ?_
          refine go T2_ok 200 rfl ?_
          refine guard (b := false) rfl rfl rfl (fun e => by cases e) (fun _ => ?_)
          refine go T2_ok 200 rfl ?_
          refine call rfl rfl rfl (ok _ (by decide) rfl) (level_any lv 900000 w5) ?_
          rintro v w6 ⟨rfl, rfl⟩
          rw [hl]
          refine go T2_ok 200 rfl ?_
          refine condT rfl (rfl) ?_
          refine go T2_ok 200 rfl ?_
          refine guard (b := true) rfl rfl rfl (fun _ => ?_) (fun e => by cases e)
          refine go T2_ok 200 rfl ?_
          refine guard (b := true) rfl rfl rfl (fun _ => ?_) (fun e => by cases e)
          refine go T2_ok 200 rfl ?_
          refine call rfl rfl rfl (ok _ (by decide) rfl) (known_any _) ?_
          rintro v wk ⟨rfl, qk⟩
          refine go T2_ok 200 rfl ?_
          exact ret (ret1 (v := .bool true) Try.results9 rfl ⟨rfl, (((((q1.trans q2).trans q4).trans q5))).trans qk⟩)
      | false =>
        rw [hkin] at hcap hexc
        rw [Bool.and_false] at hexc
        rw [if_neg (by simp)] at hcap hexc
        rcases h1 with ⟨_, rfl⟩ | ⟨h, _⟩
        rotate_left
        · have : capE xs.length d k = 2 := by unfold capE; rw [hkin]; exact hcap
          omega
        have hc2 : capE xs.length d k = 2 := by unfold capE; rw [hkin]; exact hcap
        have hex2 : exclE xs.length d lv k = 2 := by unfold exclE; rw [hkin, Bool.and_false]; exact hexc
        rw [hc2]
        refine go T2_ok 200 rfl ?_
        refine call rfl rfl rfl (ok _ (by decide) rfl) (Excluded_any xs d lv k A c _ w1 (hSl.no q1)) ?_
        rintro v w2 ⟨q2, rfl⟩
        rw [hex2, if_neg (by simp), if_neg (by simp)]
        refine go T2_ok 200 rfl ?_
        refine call rfl rfl rfl (ok _ (by decide) rfl) (wrong_any A xs.length c d w2) ?_
        rintro v w3 ⟨rfl, rfl⟩
        rw [hw]
        refine go T2_ok 200 rfl ?_
        refine condF rfl (rfl) ?_
        refine go T2_ok 200 rfl ?_
        refine guardD rfl rfl rfl (fun p => ?_) (fun p => ?_)
        · refine go T2_ok 200 rfl ?_
          have k1 : decide (k ≤ (d : Int)) = false := decide_eq_false (fun e => by
            have : inB k 0 d = true := (inB_iff _ _ _).2 ⟨p, e⟩
            rw [this] at hkin; cases hkin)
          rw [k1]
          repeat (first | (refine guardA (b := true) rfl rfl rfl rfl (fun _ => ?_) (fun e => by cases e); refine go T2_ok 200 rfl ?_) | (refine guardA (b := false) rfl rfl rfl rfl (fun e => by cases e) (fun _ => ?_); refine go T2_ok 200 rfl ?_) | (refine condT rfl rfl ?_; refine go T2_ok 200 rfl ?_) | (refine condF rfl rfl ?_; refine go T2_ok 200 rfl ?_))
          refine call rfl rfl rfl (ok _ (by decide) rfl) (known_any _) ?_
          rintro v wk ⟨rfl, qk⟩
          refine go T2_ok 200 rfl ?_
          exact ret (ret1 (v := .bool true) Try.results9 rfl ⟨rfl, (q1.trans q2).trans qk⟩)
        · refine go T2_ok 200 rfl ?_
          repeat (first | (refine guardA (b := true) rfl rfl rfl rfl (fun _ => ?_) (fun e => by cases e); refine go T2_ok 200 rfl ?_) | (refine guardA (b := false) rfl rfl rfl rfl (fun e => by cases e) (fun _ => ?_); refine go T2_ok 200 rfl ?_) | (refine condT rfl rfl ?_; refine go T2_ok 200 rfl ?_) | (refine condF rfl rfl ?_; refine go T2_ok 200 rfl ?_))
          refine call rfl rfl rfl (ok _ (by decide) rfl) (known_any _) ?_
          rintro v wk ⟨rfl, qk⟩
          refine go T2_ok 200 rfl ?_
          exact ret (ret1 (v := .bool true) Try.results9 rfl ⟨rfl, (q1.trans q2).trans qk⟩)
    · rw [if_pos hw] at hcap hexc
      rcases h1 with ⟨_, rfl⟩ | ⟨h, _⟩
      rotate_left
      · exact absurd (hcap.symm.trans h) hw
      have hc2 : capE xs.length D k = wrongE xs.length D := hcap
      have hex2 : exclE xs.length D lv k = wrongE xs.length D := hexc
      rw [hc2]
      refine go T2_ok 200 rfl ?_
      refine call rfl rfl rfl (ok _ (by decide) rfl) (Excluded_any xs D lv k A c _ w1 (hSl.no q1)) ?_
      rintro v w2 ⟨q2, rfl⟩
      rw [hex2, if_neg (by simp [hw]), if_neg (by simp [hw])]
      refine go T2_ok 200 rfl ?_
      refine call rfl rfl rfl (ok _ (by decide) rfl) (wrong_any A xs.length c D w2) ?_
      rintro v w3 ⟨rfl, rfl⟩
      generalize wrongE xs.length D = e0 at hw
      refine go T2_ok 200 rfl ?_
      refine condT rfl (by simpa using hw) ?_
      refine go T2_ok 200 rfl ?_
      refine guard (b := true) rfl rfl (congrArg Value.bool (by simp)) (fun _ => ?_) (fun e => by cases e)
      refine go T2_ok 200 rfl ?_
      refine guard (b := true) rfl rfl (congrArg Value.bool (by simp)) (fun _ => ?_) (fun e => by cases e)
      refine go T2_ok 200 rfl ?_
      refine guard (b := true) rfl rfl rfl (fun _ => ?_) (fun e => by cases e)
      refine go T2_ok 200 rfl ?_
      refine guard (b := true) rfl rfl rfl (fun _ => ?_) (fun e => by cases e)
      refine go T2_ok 200 rfl ?_
      refine call rfl rfl rfl (ok _ (by decide) rfl) (known_any _) ?_
      rintro v wk ⟨rfl, qk⟩
      refine go T2_ok 200 rfl ?_
      exact ret (ret1 (v := .bool true) Try.results9 rfl ⟨rfl, (q1.trans q2).trans qk⟩)
end Go.Proofs.Ytocolpbakaibnaa
