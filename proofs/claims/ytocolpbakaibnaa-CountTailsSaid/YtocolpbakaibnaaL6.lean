/- The walk of CountTails. -/
import Derived.Test.YtocolpbakaibnaaP8
namespace Go.Proofs.Ytocolpbakaibnaa
open Go.Ev Go.Proofs Go.Cnt
attribute [local irreducible] At AtH

set_option maxRecDepth 20000 in
set_option maxHeartbeats 4000000 in
theorem walk_CountTails (s D k h : Int) (w : World) (_hs : -9223372036854775808 ≤ s ∧ s ≤ 9223372036854775807) (_hD : -9223372036854775808 ≤ D ∧ D ≤ 9223372036854775807) (_hk : -9223372036854775808 ≤ k ∧ k ≤ 9223372036854775807) (_hh : -9223372036854775808 ≤ h ∧ h ≤ 9223372036854775807) :
    Ret Try.prog 6 [.int .i64 s, .int .i64 D, .int .i64 k, .int .i64 h] w fun v w' => v = .bool true ∧ Chg No w w' := by
  refine enter Try.func6 rfl Try.ntmps6 rfl ?_
  refine go T2_ok 200 rfl ?_
  by_cases hbad : inB D 2 1000 = false ∨ s < 0
  · have hE : tailE s D k h = 2 := by
      have : (wholeP s D).2 = 2 := by rw [wholeP, if_pos hbad]
      rw [tailE, this, if_pos (by decide)]
    have T := fun w => Tail_any s D k h w
    simp only [hE] at T
    refine guardD rfl rfl rfl (fun p => ?_) (fun p => ?_)
    · refine go T2_ok 200 rfl ?_
      refine condD rfl (fun p2 => ?_) (fun p2 => ?_)
      · refine go T2_ok 200 rfl ?_
        refine call rfl rfl rfl (ok _ (by decide) rfl) (known_any _) ?_
        rintro v wk ⟨rfl, qk⟩
        refine go T2_ok 200 rfl ?_
        exact ret (ret1 (v := .bool true) Try.results6 rfl ⟨rfl, qk⟩)
      · refine go T2_ok 200 rfl ?_
        refine call rfl rfl rfl (ok _ (by decide) rfl) (T w) ?_
        rintro v w1 ⟨q1, rfl⟩
        rw [if_neg (by decide)]
        refine go T2_ok 200 rfl ?_
        refine call rfl rfl rfl (ok _ (by decide) rfl) (Parts_any D w1) ?_
        rintro v w2 ⟨rfl, rfl⟩
        refine go T2_ok 200 rfl ?_
        rcases hbad with hb | hb
        · rw [hb]
          refine go T2_ok 200 rfl ?_
          repeat (first | (refine guardA (b := true) rfl rfl rfl rfl (fun _ => ?_) (fun e => by cases e); refine go T2_ok 200 rfl ?_) | (refine guardA (b := false) rfl rfl rfl rfl (fun e => by cases e) (fun _ => ?_); refine go T2_ok 200 rfl ?_) | (refine condT rfl rfl ?_; refine go T2_ok 200 rfl ?_) | (refine condF rfl rfl ?_; refine go T2_ok 200 rfl ?_))
          refine call rfl rfl rfl (ok _ (by decide) rfl) (known_any _) ?_
          rintro v wk ⟨rfl, qk⟩
          refine go T2_ok 200 rfl ?_
          exact ret (ret1 (v := .bool true) Try.results6 rfl ⟨rfl, (q1).trans qk⟩)
        · cases hb2 : inB D 2 1000 with
          | false =>
            refine go T2_ok 200 rfl ?_
            repeat (first | (refine guardA (b := true) rfl rfl rfl rfl (fun _ => ?_) (fun e => by cases e); refine go T2_ok 200 rfl ?_) | (refine guardA (b := false) rfl rfl rfl rfl (fun e => by cases e) (fun _ => ?_); refine go T2_ok 200 rfl ?_) | (refine condT rfl rfl ?_; refine go T2_ok 200 rfl ?_) | (refine condF rfl rfl ?_; refine go T2_ok 200 rfl ?_))
            refine call rfl rfl rfl (ok _ (by decide) rfl) (known_any _) ?_
            rintro v wk ⟨rfl, qk⟩
            refine go T2_ok 200 rfl ?_
            exact ret (ret1 (v := .bool true) Try.results6 rfl ⟨rfl, (q1).trans qk⟩)
          | true =>
            repeat (first | (refine guardA (b := true) rfl rfl rfl rfl (fun _ => ?_) (fun e => by cases e); refine go T2_ok 200 rfl ?_) | (refine guardA (b := false) rfl rfl rfl rfl (fun e => by cases e) (fun _ => ?_); refine go T2_ok 200 rfl ?_) | (refine condT rfl rfl ?_; refine go T2_ok 200 rfl ?_) | (refine condF rfl rfl ?_; refine go T2_ok 200 rfl ?_))
            refine condT rfl (decide_eq_true hb) ?_
            refine go T2_ok 200 rfl ?_
            refine go T2_ok 200 rfl ?_
            repeat (first | (refine guardA (b := true) rfl rfl rfl rfl (fun _ => ?_) (fun e => by cases e); refine go T2_ok 200 rfl ?_) | (refine guardA (b := false) rfl rfl rfl rfl (fun e => by cases e) (fun _ => ?_); refine go T2_ok 200 rfl ?_) | (refine condT rfl rfl ?_; refine go T2_ok 200 rfl ?_) | (refine condF rfl rfl ?_; refine go T2_ok 200 rfl ?_))
            refine call rfl rfl rfl (ok _ (by decide) rfl) (known_any _) ?_
            rintro v wk ⟨rfl, qk⟩
            refine go T2_ok 200 rfl ?_
            exact ret (ret1 (v := .bool true) Try.results6 rfl ⟨rfl, (q1).trans qk⟩)
    · refine go T2_ok 200 rfl ?_
      repeat (first | (refine guardA (b := true) rfl rfl rfl rfl (fun _ => ?_) (fun e => by cases e); refine go T2_ok 200 rfl ?_) | (refine guardA (b := false) rfl rfl rfl rfl (fun e => by cases e) (fun _ => ?_); refine go T2_ok 200 rfl ?_) | (refine condT rfl rfl ?_; refine go T2_ok 200 rfl ?_) | (refine condF rfl rfl ?_; refine go T2_ok 200 rfl ?_))
      refine call rfl rfl rfl (ok _ (by decide) rfl) (T w) ?_
      rintro v w1 ⟨q1, rfl⟩
      rw [if_neg (by decide)]
      refine go T2_ok 200 rfl ?_
      refine call rfl rfl rfl (ok _ (by decide) rfl) (Parts_any D w1) ?_
      rintro v w2 ⟨rfl, rfl⟩
      refine go T2_ok 200 rfl ?_
      rcases hbad with hb | hb
      · rw [hb]
        refine go T2_ok 200 rfl ?_
        repeat (first | (refine guardA (b := true) rfl rfl rfl rfl (fun _ => ?_) (fun e => by cases e); refine go T2_ok 200 rfl ?_) | (refine guardA (b := false) rfl rfl rfl rfl (fun e => by cases e) (fun _ => ?_); refine go T2_ok 200 rfl ?_) | (refine condT rfl rfl ?_; refine go T2_ok 200 rfl ?_) | (refine condF rfl rfl ?_; refine go T2_ok 200 rfl ?_))
        refine call rfl rfl rfl (ok _ (by decide) rfl) (known_any _) ?_
        rintro v wk ⟨rfl, qk⟩
        refine go T2_ok 200 rfl ?_
        exact ret (ret1 (v := .bool true) Try.results6 rfl ⟨rfl, (q1).trans qk⟩)
      · cases hb2 : inB D 2 1000 with
        | false =>
          refine go T2_ok 200 rfl ?_
          repeat (first | (refine guardA (b := true) rfl rfl rfl rfl (fun _ => ?_) (fun e => by cases e); refine go T2_ok 200 rfl ?_) | (refine guardA (b := false) rfl rfl rfl rfl (fun e => by cases e) (fun _ => ?_); refine go T2_ok 200 rfl ?_) | (refine condT rfl rfl ?_; refine go T2_ok 200 rfl ?_) | (refine condF rfl rfl ?_; refine go T2_ok 200 rfl ?_))
          refine call rfl rfl rfl (ok _ (by decide) rfl) (known_any _) ?_
          rintro v wk ⟨rfl, qk⟩
          refine go T2_ok 200 rfl ?_
          exact ret (ret1 (v := .bool true) Try.results6 rfl ⟨rfl, (q1).trans qk⟩)
        | true =>
          repeat (first | (refine guardA (b := true) rfl rfl rfl rfl (fun _ => ?_) (fun e => by cases e); refine go T2_ok 200 rfl ?_) | (refine guardA (b := false) rfl rfl rfl rfl (fun e => by cases e) (fun _ => ?_); refine go T2_ok 200 rfl ?_) | (refine condT rfl rfl ?_; refine go T2_ok 200 rfl ?_) | (refine condF rfl rfl ?_; refine go T2_ok 200 rfl ?_))
          refine condT rfl (decide_eq_true hb) ?_
          refine go T2_ok 200 rfl ?_
          refine go T2_ok 200 rfl ?_
          repeat (first | (refine guardA (b := true) rfl rfl rfl rfl (fun _ => ?_) (fun e => by cases e); refine go T2_ok 200 rfl ?_) | (refine guardA (b := false) rfl rfl rfl rfl (fun e => by cases e) (fun _ => ?_); refine go T2_ok 200 rfl ?_) | (refine condT rfl rfl ?_; refine go T2_ok 200 rfl ?_) | (refine condF rfl rfl ?_; refine go T2_ok 200 rfl ?_))
          refine call rfl rfl rfl (ok _ (by decide) rfl) (known_any _) ?_
          rintro v wk ⟨rfl, qk⟩
          refine go T2_ok 200 rfl ?_
          exact ret (ret1 (v := .bool true) Try.results6 rfl ⟨rfl, (q1).trans qk⟩)
  have hDb : inB D 2 1000 = true := by
    cases hb : inB D 2 1000 with
    | true => rfl
    | false => exact absurd (Or.inl hb) hbad
  have hs0 : ¬ s < 0 := fun e => hbad (.inr e)
  have hDi := (inB_iff _ _ _).1 hDb
  by_cases hlong : (wholeP s D).2 = 0
  · obtain ⟨n, d, rfl, rfl, hn, hd0, hd1⟩ := wholeP_ok hlong
    obtain ⟨r, hr⟩ : ∃ r, allN (d : Int) 1 n = some r := by
      rw [wholeP, if_neg hbad, if_neg (by omega), Int.toNat_natCast] at hlong
      cases ha : allN (d : Int) 1 n with
      | some r => exact ⟨r, rfl⟩
      | none => rw [ha] at hlong; cases hlong
    have hpow := allN_pow (D := (d : Int)) (by omega) n (o := 1) (by decide) (by decide) hr
    rw [Int.one_mul] at hpow
    refine guardD rfl rfl rfl (fun p => ?_) (fun p => ?_)
    · refine go T2_ok 200 rfl ?_
      refine condT rfl (decide_eq_true (show ((n : Nat) : Int) ≤ 12 by omega)) ?_
      refine go T2_ok 200 rfl ?_
      refine call rfl rfl rfl (ok _ (by decide) rfl) (known_any _) ?_
      rintro v wk ⟨rfl, qk⟩
      refine go T2_ok 200 rfl ?_
      exact ret (ret1 (v := .bool true) Try.results6 rfl ⟨rfl, qk⟩)
    have es : w64 ((n : Int) + 1) = (n : Int) + 1 := w64_id (by omega) (by omega)
    refine go T2_ok 200 rfl ?_
    repeat (first | (refine guardA (b := true) rfl rfl rfl rfl (fun _ => ?_) (fun e => by cases e); refine go T2_ok 200 rfl ?_) | (refine guardA (b := false) rfl rfl rfl rfl (fun e => by cases e) (fun _ => ?_); refine go T2_ok 200 rfl ?_) | (refine condT rfl rfl ?_; refine go T2_ok 200 rfl ?_) | (refine condF rfl rfl ?_; refine go T2_ok 200 rfl ?_))
    refine call rfl rfl rfl (ok _ (by decide) rfl) (Tail_any n d k h w) ?_
    rintro v w1 ⟨q1, rfl⟩
    have hE : tailE n d k h = if inB k 0 d && inB h 0 ((n : Int) + 1) then 0 else 2 := by rw [tailE, if_neg (by simp [hlong])]
    rw [hE]
    refine go T2_ok 200 rfl ?_
    refine call rfl rfl rfl (ok _ (by decide) rfl) (Parts_any d w1) ?_
    rintro v w2 ⟨rfl, rfl⟩
    rw [hDb]
    refine go T2_ok 200 rfl ?_
    repeat (first | (refine guardA (b := true) rfl rfl rfl rfl (fun _ => ?_) (fun e => by cases e); refine go T2_ok 200 rfl ?_) | (refine guardA (b := false) rfl rfl rfl rfl (fun e => by cases e) (fun _ => ?_); refine go T2_ok 200 rfl ?_) | (refine condT rfl rfl ?_; refine go T2_ok 200 rfl ?_) | (refine condF rfl rfl ?_; refine go T2_ok 200 rfl ?_))
    refine call rfl rfl rfl (ok _ (by decide) rfl) (rAll_all n d w1 (by omega) (by omega)) ?_
    rintro v w2 ⟨hv, rfl⟩
    have hv : v = .tuple #[.int .i64 r, .bool true] := by rw [hv, if_pos (by omega), Int.toNat_natCast, hr]
    subst hv
    refine go T2_ok 200 rfl ?_
    repeat (first | (refine guardA (b := true) rfl rfl rfl rfl (fun _ => ?_) (fun e => by cases e); refine go T2_ok 200 rfl ?_) | (refine guardA (b := false) rfl rfl rfl rfl (fun e => by cases e) (fun _ => ?_); refine go T2_ok 200 rfl ?_) | (refine condT rfl rfl ?_; refine go T2_ok 200 rfl ?_) | (refine condF rfl rfl ?_; refine go T2_ok 200 rfl ?_))
    cases hb : (inB k 0 d && inB h 0 ((n : Int) + 1)) with
    | false =>
      rw [if_neg (by simp), if_neg (by decide)]
      refine guardD rfl rfl rfl (fun p => ?_) (fun p1 => ?_)
      · skip
        refine go T2_ok 200 rfl ?_
        repeat (first | (refine guardA (b := true) rfl rfl rfl rfl (fun _ => ?_) (fun e => by cases e); refine go T2_ok 200 rfl ?_) | (refine guardA (b := false) rfl rfl rfl rfl (fun e => by cases e) (fun _ => ?_); refine go T2_ok 200 rfl ?_) | (refine condT rfl rfl ?_; refine go T2_ok 200 rfl ?_) | (refine condF rfl rfl ?_; refine go T2_ok 200 rfl ?_))
        refine call rfl rfl rfl (ok _ (by decide) rfl) (known_any _) ?_
        rintro v wk ⟨rfl, qk⟩
        refine go T2_ok 200 rfl ?_
        exact ret (ret1 (v := .bool true) Try.results6 rfl ⟨rfl, (q1).trans qk⟩)
      refine go T2_ok 200 rfl ?_
      refine guardD rfl rfl rfl (fun p => ?_) (fun p2 => ?_)
      · skip
        refine go T2_ok 200 rfl ?_
        repeat (first | (refine guardA (b := true) rfl rfl rfl rfl (fun _ => ?_) (fun e => by cases e); refine go T2_ok 200 rfl ?_) | (refine guardA (b := false) rfl rfl rfl rfl (fun e => by cases e) (fun _ => ?_); refine go T2_ok 200 rfl ?_) | (refine condT rfl rfl ?_; refine go T2_ok 200 rfl ?_) | (refine condF rfl rfl ?_; refine go T2_ok 200 rfl ?_))
        refine call rfl rfl rfl (ok _ (by decide) rfl) (known_any _) ?_
        rintro v wk ⟨rfl, qk⟩
        refine go T2_ok 200 rfl ?_
        exact ret (ret1 (v := .bool true) Try.results6 rfl ⟨rfl, (q1).trans qk⟩)
      refine go T2_ok 200 rfl ?_
      refine guardD rfl rfl rfl (fun p => ?_) (fun p3 => ?_)
      · skip
        refine go T2_ok 200 rfl ?_
        repeat (first | (refine guardA (b := true) rfl rfl rfl rfl (fun _ => ?_) (fun e => by cases e); refine go T2_ok 200 rfl ?_) | (refine guardA (b := false) rfl rfl rfl rfl (fun e => by cases e) (fun _ => ?_); refine go T2_ok 200 rfl ?_) | (refine condT rfl rfl ?_; refine go T2_ok 200 rfl ?_) | (refine condF rfl rfl ?_; refine go T2_ok 200 rfl ?_))
        refine call rfl rfl rfl (ok _ (by decide) rfl) (known_any _) ?_
        rintro v wk ⟨rfl, qk⟩
        refine go T2_ok 200 rfl ?_
        exact ret (ret1 (v := .bool true) Try.results6 rfl ⟨rfl, (q1).trans qk⟩)
      refine go T2_ok 200 rfl ?_
      rw [es]
      refine condD rfl (fun p => ?_) (fun p4 => ?_)
      · skip
        refine go T2_ok 200 rfl ?_
        repeat (first | (refine guardA (b := true) rfl rfl rfl rfl (fun _ => ?_) (fun e => by cases e); refine go T2_ok 200 rfl ?_) | (refine guardA (b := false) rfl rfl rfl rfl (fun e => by cases e) (fun _ => ?_); refine go T2_ok 200 rfl ?_) | (refine condT rfl rfl ?_; refine go T2_ok 200 rfl ?_) | (refine condF rfl rfl ?_; refine go T2_ok 200 rfl ?_))
        refine call rfl rfl rfl (ok _ (by decide) rfl) (known_any _) ?_
        rintro v wk ⟨rfl, qk⟩
        refine go T2_ok 200 rfl ?_
        exact ret (ret1 (v := .bool true) Try.results6 rfl ⟨rfl, (q1).trans qk⟩)
      exfalso
      have : (inB k 0 d && inB h 0 ((n : Int) + 1)) = true := by
        rw [Bool.and_eq_true, inB_iff, inB_iff]
        omega
      rw [hb] at this
      cases this
    | true =>
      rw [if_pos rfl, if_pos rfl, Int.toNat_natCast]
      simp only [Bool.and_eq_true, inB_iff] at hb
      obtain ⟨⟨hk0, hk1⟩, hh0, hh1⟩ := hb
      refine guardD rfl rfl rfl (fun p => absurd p (by omega)) (fun _ => ?_)
      refine go T2_ok 200 rfl ?_
      refine guardD rfl rfl rfl (fun p => absurd p (by omega)) (fun _ => ?_)
      refine go T2_ok 200 rfl ?_
      refine guardD rfl rfl rfl (fun p => absurd p (by omega)) (fun _ => ?_)
      refine go T2_ok 200 rfl ?_
      rw [es]
      refine condD rfl (fun p => absurd p (by omega)) (fun _ => ?_)
      obtain ⟨k, rfl⟩ : ∃ k' : Nat, k = k' := ⟨k.toNat, by omega⟩
      refine go T2_ok 200 rfl ?_
      repeat (first | (refine guardA (b := true) rfl rfl rfl rfl (fun _ => ?_) (fun e => by cases e); refine go T2_ok 200 rfl ?_) | (refine guardA (b := false) rfl rfl rfl rfl (fun e => by cases e) (fun _ => ?_); refine go T2_ok 200 rfl ?_) | (refine condT rfl rfl ?_; refine go T2_ok 200 rfl ?_) | (refine condF rfl rfl ?_; refine go T2_ok 200 rfl ?_))
      refine call rfl rfl rfl (ok _ (by decide) rfl) (rTail_any n d k h w1 (by omega)) ?_
      rintro v w2 ⟨rfl, q2⟩
      refine go T2_ok 200 rfl ?_
      refine condF rfl (by simp) ?_
      refine go T2_ok 200 rfl ?_
      refine cond rfl (fun p => ?_) (fun p => ?_)
      · refine go T2_ok 200 rfl ?_
        refine call rfl rfl rfl (ok _ (by decide) rfl) (known_any _) ?_
        rintro v wk ⟨rfl, qk⟩
        refine go T2_ok 200 rfl ?_
        exact ret (ret1 (v := .bool true) Try.results6 rfl ⟨rfl, (q1.trans q2).trans qk⟩)
      have hkd : ¬ (k : Int) = d := by simpa using p
      have ek : w64 ((k : Int) + 1) = (k : Int) + 1 := w64_id (by omega) (by omega)
      refine go T2_ok 200 rfl ?_
      rw [ek]
      refine call rfl rfl rfl (ok _ (by decide) rfl) (Tail_any n d ((k : Int) + 1) h w2) ?_
      rintro v w3 ⟨q3, rfl⟩
      have hE2 : tailE n d ((k : Int) + 1) h = 0 := by rw [tailE, if_neg (by simp [hlong]), (inB_iff _ _ _).2 (show 0 ≤ (k : Int) + 1 ∧ (k : Int) + 1 ≤ d by omega), (inB_iff _ _ _).2 (show 0 ≤ h ∧ h ≤ (n : Int) + 1 by omega)]; rfl
      rw [hE2, if_pos rfl, Int.toNat_natCast, tailF_tailT (by omega) (by omega) (by omega) n (by omega), tailF_tailT (by omega) (by omega) (by omega) n (by omega)]
      refine go T2_ok 200 rfl ?_
      repeat (first | (refine guardA (b := true) rfl rfl rfl rfl (fun _ => ?_) (fun e => by cases e); refine go T2_ok 200 rfl ?_) | (refine guardA (b := false) rfl rfl rfl rfl (fun e => by cases e) (fun _ => ?_); refine go T2_ok 200 rfl ?_) | (refine condT rfl rfl ?_; refine go T2_ok 200 rfl ?_) | (refine condF rfl rfl ?_; refine go T2_ok 200 rfl ?_))
      refine guard (b := true) rfl rfl (congrArg Value.bool (decide_eq_true (tailT_mono (D := (d : Int)) (k := (k : Int)) (by omega) (by omega) n h))) (fun _ => ?_) (fun e => by cases e)
      refine go T2_ok 200 rfl ?_
      refine call rfl rfl rfl (ok _ (by decide) rfl) (known_any _) ?_
      rintro v wk ⟨rfl, qk⟩
      refine go T2_ok 200 rfl ?_
      exact ret (ret1 (v := .bool true) Try.results6 rfl ⟨rfl, ((q1.trans q2).trans q3).trans qk⟩)
  · have hE : tailE s D k h = 3 := by
      have : (wholeP s D).2 = 3 := by
        rw [wholeP, if_neg hbad] at hlong ⊢
        split
        · rfl
        · rename_i h12
          rw [if_neg h12] at hlong
          cases ha : allN D 1 s.toNat with
          | some r => rw [ha] at hlong; exact absurd rfl hlong
          | none => rfl
      rw [tailE, this, if_pos (by decide)]
    refine guardD rfl rfl rfl (fun p => ?_) (fun p => ?_)
    · refine go T2_ok 200 rfl ?_
      refine condD rfl (fun p2 => ?_) (fun p2 => ?_)
      · refine go T2_ok 200 rfl ?_
        refine call rfl rfl rfl (ok _ (by decide) rfl) (known_any _) ?_
        rintro v wk ⟨rfl, qk⟩
        refine go T2_ok 200 rfl ?_
        exact ret (ret1 (v := .bool true) Try.results6 rfl ⟨rfl, qk⟩)
      · refine go T2_ok 200 rfl ?_
        refine call rfl rfl rfl (ok _ (by decide) rfl) (Tail_any s D k h w) ?_
        rintro v w1 ⟨q1, rfl⟩
        rw [hE, if_neg (by decide)]
        refine go T2_ok 200 rfl ?_
        refine call rfl rfl rfl (ok _ (by decide) rfl) (Parts_any D w1) ?_
        rintro v w2 ⟨rfl, rfl⟩
        rw [hDb]
        refine go T2_ok 200 rfl ?_
        repeat (first | (refine guardA (b := true) rfl rfl rfl rfl (fun _ => ?_) (fun e => by cases e); refine go T2_ok 200 rfl ?_) | (refine guardA (b := false) rfl rfl rfl rfl (fun e => by cases e) (fun _ => ?_); refine go T2_ok 200 rfl ?_) | (refine condT rfl rfl ?_; refine go T2_ok 200 rfl ?_) | (refine condF rfl rfl ?_; refine go T2_ok 200 rfl ?_))
        refine condF rfl (decide_eq_false hs0) ?_
        refine go T2_ok 200 rfl ?_
        refine call rfl rfl rfl (ok _ (by decide) rfl) (rAll_all s D w1 (by omega) (by omega)) ?_
        rintro v w2 ⟨hv, rfl⟩
        have hv : v = .tuple #[.int .i64 0, .bool false] := by
          rw [hv]
          split
          · rename_i h12
            rw [wholeP, if_neg hbad, if_neg (by omega)] at hlong
            cases ha : allN D 1 s.toNat with
            | some r => rw [ha] at hlong; exact absurd rfl hlong
            | none => rfl
          · rfl
        subst hv
        refine go T2_ok 200 rfl ?_
        repeat (first | (refine guardA (b := true) rfl rfl rfl rfl (fun _ => ?_) (fun e => by cases e); refine go T2_ok 200 rfl ?_) | (refine guardA (b := false) rfl rfl rfl rfl (fun e => by cases e) (fun _ => ?_); refine go T2_ok 200 rfl ?_) | (refine condT rfl rfl ?_; refine go T2_ok 200 rfl ?_) | (refine condF rfl rfl ?_; refine go T2_ok 200 rfl ?_))
        refine call rfl rfl rfl (ok _ (by decide) rfl) (known_any _) ?_
        rintro v wk ⟨rfl, qk⟩
        refine go T2_ok 200 rfl ?_
        exact ret (ret1 (v := .bool true) Try.results6 rfl ⟨rfl, (q1).trans qk⟩)
    · refine go T2_ok 200 rfl ?_
      repeat (first | (refine guardA (b := true) rfl rfl rfl rfl (fun _ => ?_) (fun e => by cases e); refine go T2_ok 200 rfl ?_) | (refine guardA (b := false) rfl rfl rfl rfl (fun e => by cases e) (fun _ => ?_); refine go T2_ok 200 rfl ?_) | (refine condT rfl rfl ?_; refine go T2_ok 200 rfl ?_) | (refine condF rfl rfl ?_; refine go T2_ok 200 rfl ?_))
      refine call rfl rfl rfl (ok _ (by decide) rfl) (Tail_any s D k h w) ?_
      rintro v w1 ⟨q1, rfl⟩
      rw [hE, if_neg (by decide)]
      refine go T2_ok 200 rfl ?_
      refine call rfl rfl rfl (ok _ (by decide) rfl) (Parts_any D w1) ?_
      rintro v w2 ⟨rfl, rfl⟩
      rw [hDb]
      refine go T2_ok 200 rfl ?_
      repeat (first | (refine guardA (b := true) rfl rfl rfl rfl (fun _ => ?_) (fun e => by cases e); refine go T2_ok 200 rfl ?_) | (refine guardA (b := false) rfl rfl rfl rfl (fun e => by cases e) (fun _ => ?_); refine go T2_ok 200 rfl ?_) | (refine condT rfl rfl ?_; refine go T2_ok 200 rfl ?_) | (refine condF rfl rfl ?_; refine go T2_ok 200 rfl ?_))
      refine condF rfl (decide_eq_false hs0) ?_
      refine go T2_ok 200 rfl ?_
      refine call rfl rfl rfl (ok _ (by decide) rfl) (rAll_all s D w1 (by omega) (by omega)) ?_
      rintro v w2 ⟨hv, rfl⟩
      have hv : v = .tuple #[.int .i64 0, .bool false] := by
        rw [hv]
        split
        · rename_i h12
          rw [wholeP, if_neg hbad, if_neg (by omega)] at hlong
          cases ha : allN D 1 s.toNat with
          | some r => rw [ha] at hlong; exact absurd rfl hlong
          | none => rfl
        · rfl
      subst hv
      refine go T2_ok 200 rfl ?_
      repeat (first | (refine guardA (b := true) rfl rfl rfl rfl (fun _ => ?_) (fun e => by cases e); refine go T2_ok 200 rfl ?_) | (refine guardA (b := false) rfl rfl rfl rfl (fun e => by cases e) (fun _ => ?_); refine go T2_ok 200 rfl ?_) | (refine condT rfl rfl ?_; refine go T2_ok 200 rfl ?_) | (refine condF rfl rfl ?_; refine go T2_ok 200 rfl ?_))
      refine call rfl rfl rfl (ok _ (by decide) rfl) (known_any _) ?_
      rintro v wk ⟨rfl, qk⟩
      refine go T2_ok 200 rfl ?_
      exact ret (ret1 (v := .bool true) Try.results6 rfl ⟨rfl, (q1).trans qk⟩)
end Go.Proofs.Ytocolpbakaibnaa
