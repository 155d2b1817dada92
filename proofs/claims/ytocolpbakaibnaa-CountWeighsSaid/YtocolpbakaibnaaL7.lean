/- The walk of CountWeighs. -/
import Derived.Test.YtocolpbakaibnaaP9
namespace Go.Proofs.Ytocolpbakaibnaa
open Go.Ev Go.Proofs Go.Cnt
attribute [local irreducible] At AtH

set_option maxRecDepth 20000 in
set_option maxHeartbeats 4000000 in
theorem walk_CountWeighs (s D lv k lo hi : Int) (w : World) (_hs : -9223372036854775808 ≤ s ∧ s ≤ 9223372036854775807) (_hD : -9223372036854775808 ≤ D ∧ D ≤ 9223372036854775807) (_hlv : -9223372036854775808 ≤ lv ∧ lv ≤ 9223372036854775807) (_hk : -9223372036854775808 ≤ k ∧ k ≤ 9223372036854775807)
    (_hlo : -9223372036854775808 ≤ lo ∧ lo ≤ 9223372036854775807) (_hhi : -9223372036854775808 ≤ hi ∧ hi ≤ 9223372036854775807) :
    Ret Try.prog 7 [.int .i64 s, .int .i64 D, .int .i64 lv, .int .i64 k, .int .i64 lo, .int .i64 hi] w fun v w' => v = .bool true ∧ Chg No w w' := by
  refine enter Try.func7 rfl Try.ntmps7 rfl ?_
  refine go T2_ok 200 rfl ?_
  refine guardD rfl rfl rfl (fun p => ?_) (fun hs0 => ?_)
  · refine go T2_ok 200 rfl ?_
    repeat (first | (refine guardA (b := true) rfl rfl rfl rfl (fun _ => ?_) (fun e => by cases e); refine go T2_ok 200 rfl ?_) | (refine guardA (b := false) rfl rfl rfl rfl (fun e => by cases e) (fun _ => ?_); refine go T2_ok 200 rfl ?_) | (refine condT rfl rfl ?_; refine go T2_ok 200 rfl ?_) | (refine condF rfl rfl ?_; refine go T2_ok 200 rfl ?_))
    refine call rfl rfl rfl (ok _ (by decide) rfl) (known_any _) ?_
    rintro v wk ⟨rfl, qk⟩
    refine go T2_ok 200 rfl ?_
    exact ret (ret1 (v := .bool true) Try.results7 rfl ⟨rfl, qk⟩)
  refine go T2_ok 200 rfl ?_
  refine guardD rfl rfl rfl (fun p => ?_) (fun hs1 => ?_)
  · refine go T2_ok 200 rfl ?_
    repeat (first | (refine guardA (b := true) rfl rfl rfl rfl (fun _ => ?_) (fun e => by cases e); refine go T2_ok 200 rfl ?_) | (refine guardA (b := false) rfl rfl rfl rfl (fun e => by cases e) (fun _ => ?_); refine go T2_ok 200 rfl ?_) | (refine condT rfl rfl ?_; refine go T2_ok 200 rfl ?_) | (refine condF rfl rfl ?_; refine go T2_ok 200 rfl ?_))
    refine call rfl rfl rfl (ok _ (by decide) rfl) (known_any _) ?_
    rintro v wk ⟨rfl, qk⟩
    refine go T2_ok 200 rfl ?_
    exact ret (ret1 (v := .bool true) Try.results7 rfl ⟨rfl, qk⟩)
  refine go T2_ok 200 rfl ?_
  refine guardD rfl rfl rfl (fun p => ?_) (fun hd0 => ?_)
  · refine go T2_ok 200 rfl ?_
    repeat (first | (refine guardA (b := true) rfl rfl rfl rfl (fun _ => ?_) (fun e => by cases e); refine go T2_ok 200 rfl ?_) | (refine guardA (b := false) rfl rfl rfl rfl (fun e => by cases e) (fun _ => ?_); refine go T2_ok 200 rfl ?_) | (refine condT rfl rfl ?_; refine go T2_ok 200 rfl ?_) | (refine condF rfl rfl ?_; refine go T2_ok 200 rfl ?_))
    refine call rfl rfl rfl (ok _ (by decide) rfl) (known_any _) ?_
    rintro v wk ⟨rfl, qk⟩
    refine go T2_ok 200 rfl ?_
    exact ret (ret1 (v := .bool true) Try.results7 rfl ⟨rfl, qk⟩)
  refine go T2_ok 200 rfl ?_
  refine guardD rfl rfl rfl (fun p => ?_) (fun hd1 => ?_)
  · refine go T2_ok 200 rfl ?_
    repeat (first | (refine guardA (b := true) rfl rfl rfl rfl (fun _ => ?_) (fun e => by cases e); refine go T2_ok 200 rfl ?_) | (refine guardA (b := false) rfl rfl rfl rfl (fun e => by cases e) (fun _ => ?_); refine go T2_ok 200 rfl ?_) | (refine condT rfl rfl ?_; refine go T2_ok 200 rfl ?_) | (refine condF rfl rfl ?_; refine go T2_ok 200 rfl ?_))
    refine call rfl rfl rfl (ok _ (by decide) rfl) (known_any _) ?_
    rintro v wk ⟨rfl, qk⟩
    refine go T2_ok 200 rfl ?_
    exact ret (ret1 (v := .bool true) Try.results7 rfl ⟨rfl, qk⟩)
  refine go T2_ok 200 rfl ?_
  refine call rfl rfl rfl (ok _ (by decide) rfl) (level_any lv 900000 w) ?_
  rintro v w0 ⟨rfl, rfl⟩
  refine go T2_ok 200 rfl ?_
  refine guardN rfl rfl rfl (fun p => ?_) (fun hl => ?_)
  · refine go T2_ok 200 rfl ?_
    repeat (first | (refine guardA (b := true) rfl rfl rfl rfl (fun _ => ?_) (fun e => by cases e); refine go T2_ok 200 rfl ?_) | (refine guardA (b := false) rfl rfl rfl rfl (fun e => by cases e) (fun _ => ?_); refine go T2_ok 200 rfl ?_) | (refine condT rfl rfl ?_; refine go T2_ok 200 rfl ?_) | (refine condF rfl rfl ?_; refine go T2_ok 200 rfl ?_))
    refine call rfl rfl rfl (ok _ (by decide) rfl) (known_any _) ?_
    rintro v wk ⟨rfl, qk⟩
    refine go T2_ok 200 rfl ?_
    exact ret (ret1 (v := .bool true) Try.results7 rfl ⟨rfl, qk⟩)
  refine go T2_ok 200 rfl ?_
  refine guardD rfl rfl rfl (fun p => ?_) (fun hk0 => ?_)
  · refine go T2_ok 200 rfl ?_
    repeat (first | (refine guardA (b := true) rfl rfl rfl rfl (fun _ => ?_) (fun e => by cases e); refine go T2_ok 200 rfl ?_) | (refine guardA (b := false) rfl rfl rfl rfl (fun e => by cases e) (fun _ => ?_); refine go T2_ok 200 rfl ?_) | (refine condT rfl rfl ?_; refine go T2_ok 200 rfl ?_) | (refine condF rfl rfl ?_; refine go T2_ok 200 rfl ?_))
    refine call rfl rfl rfl (ok _ (by decide) rfl) (known_any _) ?_
    rintro v wk ⟨rfl, qk⟩
    refine go T2_ok 200 rfl ?_
    exact ret (ret1 (v := .bool true) Try.results7 rfl ⟨rfl, qk⟩)
  refine go T2_ok 200 rfl ?_
  refine guardD rfl rfl rfl (fun p => ?_) (fun hk1 => ?_)
  · refine go T2_ok 200 rfl ?_
    repeat (first | (refine guardA (b := true) rfl rfl rfl rfl (fun _ => ?_) (fun e => by cases e); refine go T2_ok 200 rfl ?_) | (refine guardA (b := false) rfl rfl rfl rfl (fun e => by cases e) (fun _ => ?_); refine go T2_ok 200 rfl ?_) | (refine condT rfl rfl ?_; refine go T2_ok 200 rfl ?_) | (refine condF rfl rfl ?_; refine go T2_ok 200 rfl ?_))
    refine call rfl rfl rfl (ok _ (by decide) rfl) (known_any _) ?_
    rintro v wk ⟨rfl, qk⟩
    refine go T2_ok 200 rfl ?_
    exact ret (ret1 (v := .bool true) Try.results7 rfl ⟨rfl, qk⟩)
  refine go T2_ok 200 rfl ?_
  refine guardD rfl rfl rfl (fun p => ?_) (fun hlo0 => ?_)
  · refine go T2_ok 200 rfl ?_
    repeat (first | (refine guardA (b := true) rfl rfl rfl rfl (fun _ => ?_) (fun e => by cases e); refine go T2_ok 200 rfl ?_) | (refine guardA (b := false) rfl rfl rfl rfl (fun e => by cases e) (fun _ => ?_); refine go T2_ok 200 rfl ?_) | (refine condT rfl rfl ?_; refine go T2_ok 200 rfl ?_) | (refine condF rfl rfl ?_; refine go T2_ok 200 rfl ?_))
    refine call rfl rfl rfl (ok _ (by decide) rfl) (known_any _) ?_
    rintro v wk ⟨rfl, qk⟩
    refine go T2_ok 200 rfl ?_
    exact ret (ret1 (v := .bool true) Try.results7 rfl ⟨rfl, qk⟩)
  refine go T2_ok 200 rfl ?_
  refine guardD rfl rfl rfl (fun p => ?_) (fun hlohi => ?_)
  · refine go T2_ok 200 rfl ?_
    repeat (first | (refine guardA (b := true) rfl rfl rfl rfl (fun _ => ?_) (fun e => by cases e); refine go T2_ok 200 rfl ?_) | (refine guardA (b := false) rfl rfl rfl rfl (fun e => by cases e) (fun _ => ?_); refine go T2_ok 200 rfl ?_) | (refine condT rfl rfl ?_; refine go T2_ok 200 rfl ?_) | (refine condF rfl rfl ?_; refine go T2_ok 200 rfl ?_))
    refine call rfl rfl rfl (ok _ (by decide) rfl) (known_any _) ?_
    rintro v wk ⟨rfl, qk⟩
    refine go T2_ok 200 rfl ?_
    exact ret (ret1 (v := .bool true) Try.results7 rfl ⟨rfl, qk⟩)
  refine go T2_ok 200 rfl ?_
  refine condD rfl (fun p => ?_) (fun hhiD => ?_)
  · refine go T2_ok 200 rfl ?_
    refine call rfl rfl rfl (ok _ (by decide) rfl) (known_any _) ?_
    rintro v wk ⟨rfl, qk⟩
    refine go T2_ok 200 rfl ?_
    exact ret (ret1 (v := .bool true) Try.results7 rfl ⟨rfl, qk⟩)
  obtain ⟨d, rfl⟩ : ∃ d : Nat, D = d := ⟨D.toNat, by omega⟩
  obtain ⟨n, rfl⟩ : ∃ n : Nat, s = n := ⟨s.toNat, by omega⟩
  obtain ⟨k, rfl⟩ : ∃ k' : Nat, k = k' := ⟨k.toNat, by omega⟩
  obtain ⟨lo, rfl⟩ : ∃ k' : Nat, lo = k' := ⟨lo.toNat, by omega⟩
  obtain ⟨hi, rfl⟩ : ∃ k' : Nat, hi = k' := ⟨hi.toNat, by omega⟩
  have hlb := (inB_iff _ _ _).1 hl
  have hDb : inB (d : Int) 2 1000 = true := (inB_iff _ _ _).2 (by omega)
  refine go T2_ok 200 rfl ?_
  refine call rfl rfl rfl (ok _ (by decide) rfl) (rAll_all n d w (by omega) (by omega)) ?_
  rintro v w0 ⟨hv, rfl⟩
  have hW : wholeP n d = match allN (d : Int) 1 n with | some m => (m, 0) | none => (0, 3) := by
    rw [wholeP, if_neg (by rw [hDb]; simp), if_neg (by omega), Int.toNat_natCast]
    cases allN (d : Int) 1 n <;> rfl
  cases hr : allN (d : Int) 1 n with
  | none =>
    have hv : v = .tuple #[.int .i64 0, .bool false] := by rw [hv, if_pos (by omega), Int.toNat_natCast, hr]
    subst hv
    rw [hr] at hW
    have hE : powE n d lv k lo hi = 3 := by rw [powE, hW, if_pos (by decide)]
    refine go T2_ok 200 rfl ?_
    refine call rfl rfl rfl (ok _ (by decide) rfl) (Power_any n d lv k lo hi w (by omega)) ?_
    rintro v w1 ⟨q1, rfl⟩
    rw [hE, if_neg (by decide)]
    refine go T2_ok 200 rfl ?_
    refine nw rfl rfl (z := .agg #[.int .i64 0, .int .i64 0, .int .i64 0, .int .i64 0]) (by kernel_rfl) (cs := [.int .i64 0, .int .i64 0, .int .i64 0, .int .i64 0]) rfl ?_
    intro g2 w2 hg2 hs2 q2 B2
    refine go T2_ok 200 rfl ?_
    refine stA (vs := [.int .i64 0, .int .i64 0, .int .i64 0, .int .i64 0]) T2_ok rfl rfl rfl rfl rfl rfl rfl B2 rfl ?_
    intro w3 q3 B3 hs3
    have z1 := q1.size
    have q03 : Chg No w w3 := (q1.trans q2).step q3 (fun x hx e => by omega)
    refine go T2_ok 200 rfl ?_
    repeat (first | (refine guardA (b := true) rfl rfl rfl rfl (fun _ => ?_) (fun e => by cases e); refine go T2_ok 200 rfl ?_) | (refine guardA (b := false) rfl rfl rfl rfl (fun e => by cases e) (fun _ => ?_); refine go T2_ok 200 rfl ?_) | (refine condT rfl rfl ?_; refine go T2_ok 200 rfl ?_) | (refine condF rfl rfl ?_; refine go T2_ok 200 rfl ?_))
    refine call rfl rfl rfl (ok _ (by decide) rfl) (known_any _) ?_
    rintro v wk ⟨rfl, qk⟩
    refine go T2_ok 200 rfl ?_
    exact ret (ret1 (v := .bool true) Try.results7 rfl ⟨rfl, (q03).trans qk⟩)
  | some r =>
    have hv : v = .tuple #[.int .i64 r, .bool true] := by rw [hv, if_pos (by omega), Int.toNat_natCast, hr]
    subst hv
    rw [hr] at hW
    have hpow := allN_pow (D := (d : Int)) (by omega) n (o := 1) (by decide) (by decide) hr
    rw [Int.one_mul] at hpow
    have hE : powE n d lv k lo hi = 0 := by rw [powE, hW, if_neg (by simp), hl, (inB_iff (k : Int) 0 d).2 (by omega), (inB_iff (lo : Int) 0 ((hi : Int) - 1)).2 (by omega), decide_eq_true (show (hi : Int) ≤ d by omega)]; rfl
    obtain ⟨N, hN⟩ : ∃ N, 2 ^ n = N := ⟨_, rfl⟩
    have hN9 : 2 ^ n ≤ 2 ^ 10 := Nat.pow_le_pow_right (by omega) (by omega)
    have hp' : ((2 : Int) ^ n) = (N : Int) := by rw [← hN]; simp
    obtain ⟨S, hS⟩ : ∃ S : Int → Nat → Int, S = fun v m => sumN (fun b => wv d lv k lo hi v (outN n b)) m := ⟨_, rfl⟩
    have hSv : ∀ v : Int, powS d lv k lo hi v (outsN n (2 ^ n)) = S v N := fun v => by rw [powS_sum (by omega) (by omega) (by omega) n (by omega) _ (Nat.le_refl _), hS, hN]
    have hSb : ∀ (v : Int) (m : Nat), m ≤ N → 0 ≤ S v m ∧ S v m ≤ r := fun v m hm => by rw [hS, hpow.1]; exact wv_sum (by omega) (by omega) n (by omega)
    have hall : S 1 N + S 2 N + S 3 N = r := by rw [hS, hpow.1, ← hN]; exact wv_all n
    have hSs0 : ∀ v : Int, S v 0 = 0 := fun v => by rw [hS]; rfl
    have hSs : ∀ (v : Int) (b : Nat), S v (b + 1) = S v b + wv d lv k lo hi v (outN n b) := fun v b => by rw [hS]; rfl
    have hL : powL n d lv k lo hi = [.int .i64 (S 2 N), .int .i64 (S 3 N), .int .i64 (S 1 N), .int .i64 r] := by
      rw [powL, hW]
      simp only [Int.toNat_natCast, hSv]
    clear hS
    refine go T2_ok 200 rfl ?_
    refine call rfl rfl rfl (ok _ (by decide) rfl) (Power_any n d lv k lo hi w (by omega)) ?_
    rintro v w1 ⟨q1, rfl⟩
    rw [hE, if_pos rfl, hL]
    refine go T2_ok 200 rfl ?_
    refine nw rfl rfl (z := .agg #[.int .i64 0, .int .i64 0, .int .i64 0, .int .i64 0]) (by kernel_rfl) (cs := [.int .i64 0, .int .i64 0, .int .i64 0, .int .i64 0]) rfl ?_
    intro g2 w2 hg2 hs2 q2 B2
    refine go T2_ok 200 rfl ?_
    refine stA (vs := [.int .i64 (S 2 N), .int .i64 (S 3 N), .int .i64 (S 1 N), .int .i64 r]) T2_ok rfl rfl rfl rfl rfl rfl rfl B2 rfl ?_
    intro w3 q3 B3 hs3
    have z1 := q1.size
    have q03 : Chg No w w3 := (q1.trans q2).step q3 (fun x hx e => by omega)
    have B3 : Bk w3 g2 49 [.int .i64 (S 2 N), .int .i64 (S 3 N), .int .i64 (S 1 N), .int .i64 r] := B3
    have b1 := hSb 1 N (Nat.le_refl _)
    have b2 := hSb 2 N (Nat.le_refl _)
    have b3 := hSb 3 N (Nat.le_refl _)
    have e1 : w64 (S 2 N + S 3 N) = S 2 N + S 3 N := w64_id (by omega) (by omega)
    have e2 : w64 (r - S 2 N) = r - S 2 N := w64_id (by omega) (by omega)
    have e3 : w64 (r - S 2 N - S 3 N) = S 1 N := by rw [w64_id (by omega) (by omega)]; omega
    refine go T2_ok 200 rfl ?_
    repeat (first | (refine guardA (b := true) rfl rfl rfl rfl (fun _ => ?_) (fun e => by cases e); refine go T2_ok 200 rfl ?_) | (refine guardA (b := false) rfl rfl rfl rfl (fun e => by cases e) (fun _ => ?_); refine go T2_ok 200 rfl ?_) | (refine condT rfl rfl ?_; refine go T2_ok 200 rfl ?_) | (refine condF rfl rfl ?_; refine go T2_ok 200 rfl ?_))
    refine ld T2_ok rfl rfl rfl rfl (B3.get (i := 0 + 3) rfl) ?_
    refine go T2_ok 200 rfl ?_
    refine guard (b := false) rfl rfl (congrArg Value.bool (by simp)) (fun e => by cases e) (fun _ => ?_)
    refine go T2_ok 200 rfl ?_
    refine ld T2_ok rfl rfl rfl rfl (B3.get (i := 0) rfl) ?_
    refine go T2_ok 200 rfl ?_
    refine guardD rfl rfl rfl (fun p => absurd p (by omega)) (fun _ => ?_)
    refine go T2_ok 200 rfl ?_
    refine ld T2_ok rfl rfl rfl rfl (B3.get (i := 0 + 1) rfl) ?_
    refine go T2_ok 200 rfl ?_
    refine guardD rfl rfl rfl (fun p => absurd p (by omega)) (fun _ => ?_)
    refine go T2_ok 200 rfl ?_
    refine ld T2_ok rfl rfl rfl rfl (B3.get (i := 0 + 2) rfl) ?_
    refine go T2_ok 200 rfl ?_
    refine guardD rfl rfl rfl (fun p => absurd p (by omega)) (fun _ => ?_)
    refine go T2_ok 200 rfl ?_
    refine ld T2_ok rfl rfl rfl rfl (B3.get (i := 0) rfl) ?_
    refine go T2_ok 200 rfl ?_
    refine guardD rfl rfl rfl (fun p => absurd p (by omega)) (fun _ => ?_)
    refine go T2_ok 200 rfl ?_
    refine ld T2_ok rfl rfl rfl rfl (B3.get (i := 0 + 1) rfl) ?_
    refine go T2_ok 200 rfl ?_
    refine guardD rfl rfl rfl (fun p => absurd p (by omega)) (fun _ => ?_)
    refine go T2_ok 200 rfl ?_
    refine ld T2_ok rfl rfl rfl rfl (B3.get (i := 0) rfl) ?_
    refine go T2_ok 200 rfl ?_
    refine ld T2_ok rfl rfl rfl rfl (B3.get (i := 0 + 1) rfl) ?_
    refine go T2_ok 200 rfl ?_
    rw [e1]
    refine guardD rfl rfl rfl (fun p => absurd p (by omega)) (fun _ => ?_)
    refine go T2_ok 200 rfl ?_
    refine ld T2_ok rfl rfl rfl rfl (B3.get (i := 0 + 2) rfl) ?_
    refine go T2_ok 200 rfl ?_
    refine ld T2_ok rfl rfl rfl rfl (B3.get (i := 0) rfl) ?_
    refine go T2_ok 200 rfl ?_
    refine ld T2_ok rfl rfl rfl rfl (B3.get (i := 0 + 1) rfl) ?_
    refine go T2_ok 200 rfl ?_
    rw [e2, e3]
    refine condF rfl (by simp) ?_
    refine go T2_ok 200 rfl ?_
    refine loop [0, 1, 2, 3, 4, 5, 15, 17, 18, 19] (fun b : Nat => [.int .i64 n, .int .i64 d, .int .i64 lv, .int .i64 k, .int .i64 lo, .int .i64 hi, .pointer (some ⟨g2, 0, none⟩), .int .i64 (S 2 b), .int .i64 (S 3 b), .int .i64 (b : Int)])
      (fun b w' => Chg No w3 w' ∧ b ≤ N) (fun b => N - b) 0 (fun _ => rfl) ?_ ⟨Chg.refl _ _, by omega⟩ ?_
    · simp only [hSs0]
      rfl
    rintro b τ w4 ⟨q4, hb⟩
    refine go T2_ok 200 rfl ?_
    refine shl rfl rfl rfl rfl n rfl (by omega) ?_
    have ep : w64 (1 * 2 ^ n) = (N : Int) := by rw [Int.one_mul, hp']; exact w64_id (by omega) (by omega)
    rw [ep]
    refine go T2_ok 200 rfl ?_
    refine condD rfl (fun hlt => ?_) (fun hlt => ?_)
    · have hlt : b < N := by omega
      have eb : w64 ((b : Int) + 1) = ((b + 1 : Nat) : Int) := w64_id (by omega) (by omega)
      refine go T2_ok 200 rfl ?_
      refine call rfl rfl rfl (ok _ (by decide) rfl) (Outcome_any n b w4 (by omega) (by omega)) ?_
      rintro v w5 ⟨A5, c5, rfl, q5, o5⟩
      refine go T2_ok 200 rfl ?_
      have hlen := outN_len n b
      have S5 : Sl w5 w5.heap.size 1 A5 (outN n b).length (boolVs (outN n b)) := by rw [hlen]; exact own_sl o5
      have hE5 : decE (outN n b).length d lv lo hi = 0 := by unfold decE decB; rw [listed_wrong, wrong_small (by omega) (by omega) (by omega), hl, (inB_iff (lo : Int) 0 ((hi : Int) - 1)).2 (by omega), decide_eq_true (show (hi : Int) ≤ d by omega)]; rfl
      have K := Decide_any (outN n b) d lv lo hi A5 c5 _ w5 S5 (by omega)
      rw [hE5, if_pos rfl, if_pos rfl, Int.toNat_natCast, Int.toNat_natCast, Int.toNat_natCast, hlen] at K
      refine call rfl rfl rfl (ok _ (by decide) rfl) (K) ?_
      rintro v w6 ⟨q6, rfl⟩
      have q46 : Chg No w3 w6 := (q4.trans q5).trans q6
      have s2 := hSs 2 b
      have s3 := hSs 3 b
      rcases decS_cases (sts d lv (outN n b)) d lo hi with hv | hv | hv
      · have f2 : wv d lv k lo hi 2 (outN n b) = 0 := by unfold wv; rw [hv]; rfl
        have f3 : wv d lv k lo hi 3 (outN n b) = 0 := by unfold wv; rw [hv]; rfl
        rw [f2, Int.add_zero] at s2
        rw [f3, Int.add_zero] at s3
        rw [hv]
        refine go T2_ok 200 rfl ?_
        repeat (first | (refine guardA (b := true) rfl rfl rfl rfl (fun _ => ?_) (fun e => by cases e); refine go T2_ok 200 rfl ?_) | (refine guardA (b := false) rfl rfl rfl rfl (fun e => by cases e) (fun _ => ?_); refine go T2_ok 200 rfl ?_) | (refine condT rfl rfl ?_; refine go T2_ok 200 rfl ?_) | (refine condF rfl rfl ?_; refine go T2_ok 200 rfl ?_))
        rw [eb, ← s2, ← s3]
        exact round ⟨b + 1, rfl, ⟨q46, by omega⟩, by omega⟩
      · have f2 : wv d lv k lo hi 2 (outN n b) = wtI d k (outN n b) := by unfold wv; rw [hv]; rfl
        have f3 : wv d lv k lo hi 3 (outN n b) = 0 := by unfold wv; rw [hv]; rfl
        rw [f2] at s2
        rw [f3, Int.add_zero] at s3
        rw [hv]
        refine go T2_ok 200 rfl ?_
        repeat (first | (refine guardA (b := true) rfl rfl rfl rfl (fun _ => ?_) (fun e => by cases e); refine go T2_ok 200 rfl ?_) | (refine guardA (b := false) rfl rfl rfl rfl (fun e => by cases e) (fun _ => ?_); refine go T2_ok 200 rfl ?_) | (refine condT rfl rfl ?_; refine go T2_ok 200 rfl ?_) | (refine condF rfl rfl ?_; refine go T2_ok 200 rfl ?_))
        have W := rWeight_any (outN n b) d k A5 c5 _ w6 (S5.no q6) (by omega)
        rw [hlen] at W
        refine call rfl rfl rfl (ok _ (by decide) rfl) (W) ?_
        rintro v w7 ⟨rfl, rfl⟩
        rw [wtw_eq (by omega) (by omega) (by omega) (outN n b) (by rw [hlen]; omega)]
        refine go T2_ok 200 rfl ?_
        have bd := hSb 2 (b + 1) (by omega)
        have es : w64 (S 2 b + wtI d k (outN n b)) = S 2 (b + 1) := by rw [← s2]; exact w64_id (by omega) (by omega)
        rw [es, eb, ← s3]
        exact round ⟨b + 1, rfl, ⟨q46, by omega⟩, by omega⟩
      · have f2 : wv d lv k lo hi 2 (outN n b) = 0 := by unfold wv; rw [hv]; rfl
        have f3 : wv d lv k lo hi 3 (outN n b) = wtI d k (outN n b) := by unfold wv; rw [hv]; rfl
        rw [f2, Int.add_zero] at s2
        rw [f3] at s3
        rw [hv]
        refine go T2_ok 200 rfl ?_
        repeat (first | (refine guardA (b := true) rfl rfl rfl rfl (fun _ => ?_) (fun e => by cases e); refine go T2_ok 200 rfl ?_) | (refine guardA (b := false) rfl rfl rfl rfl (fun e => by cases e) (fun _ => ?_); refine go T2_ok 200 rfl ?_) | (refine condT rfl rfl ?_; refine go T2_ok 200 rfl ?_) | (refine condF rfl rfl ?_; refine go T2_ok 200 rfl ?_))
        have W := rWeight_any (outN n b) d k A5 c5 _ w6 (S5.no q6) (by omega)
        rw [hlen] at W
        refine call rfl rfl rfl (ok _ (by decide) rfl) (W) ?_
        rintro v w7 ⟨rfl, rfl⟩
        rw [wtw_eq (by omega) (by omega) (by omega) (outN n b) (by rw [hlen]; omega)]
        refine go T2_ok 200 rfl ?_
        have bd := hSb 3 (b + 1) (by omega)
        have es : w64 (S 3 b + wtI d k (outN n b)) = S 3 (b + 1) := by rw [← s3]; exact w64_id (by omega) (by omega)
        rw [es, eb, ← s2]
        exact round ⟨b + 1, rfl, ⟨q46, by omega⟩, by omega⟩
    have hbN : b = N := by omega
    subst hbN
    have B4 := B3.no q4
    refine go T2_ok 200 rfl ?_
    refine ld T2_ok rfl rfl rfl rfl (B4.get (i := 0) rfl) ?_
    refine go T2_ok 200 rfl ?_
    refine guard (b := true) rfl rfl (congrArg Value.bool (by simp)) (fun _ => ?_) (fun e => by cases e)
    refine go T2_ok 200 rfl ?_
    refine ld T2_ok rfl rfl rfl rfl (B4.get (i := 0 + 1) rfl) ?_
    refine go T2_ok 200 rfl ?_
    refine guard (b := true) rfl rfl (congrArg Value.bool (by simp)) (fun _ => ?_) (fun e => by cases e)
    refine go T2_ok 200 rfl ?_
    refine call rfl rfl rfl (ok _ (by decide) rfl) (known_any _) ?_
    rintro v wk ⟨rfl, qk⟩
    refine go T2_ok 200 rfl ?_
    exact ret (ret1 (v := .bool true) Try.results7 rfl ⟨rfl, (q03.trans q4).trans qk⟩)
end Go.Proofs.Ytocolpbakaibnaa
