/- The walk of CountRight. -/
import Derived.Test.YtocolpbakaibnaaP6
import Derived.Test.YtocolpbakaibnaaE1
namespace Go.Proofs.Ytocolpbakaibnaa
open Go.Ev Go.Proofs Go.Cnt
attribute [local irreducible] At AtH

set_option maxRecDepth 20000 in
set_option maxHeartbeats 8000000 in
theorem walk_CountRight (s D lv k lo hi : Int) (ls : List Bool) (A3 : Option Addr) (c3 : Nat) (w : World) (_hs : -9223372036854775808 ≤ s ∧ s ≤ 9223372036854775807) (_hD : -9223372036854775808 ≤ D ∧ D ≤ 9223372036854775807) (_hlv : -9223372036854775808 ≤ lv ∧ lv ≤ 9223372036854775807) (_hk : -9223372036854775808 ≤ k ∧ k ≤ 9223372036854775807)
    (_hlo : -9223372036854775808 ≤ lo ∧ lo ≤ 9223372036854775807) (_hhi : -9223372036854775808 ≤ hi ∧ hi ≤ 9223372036854775807) (_hL : ls.length ≤ c3) (hSl : Sl w w.heap.size 1 A3 ls.length (boolVs ls)) :
    Ret Try.prog 5 [.int .i64 s, .int .i64 D, .int .i64 lv, .int .i64 k, .int .i64 lo, .int .i64 hi, .slice A3 ls.length c3] w fun v w' => v = .bool true ∧ Chg No w w' := by
  refine enter Try.func5 rfl Try.ntmps5 rfl ?_
  refine go T2_ok 200 rfl ?_
  refine guardD rfl rfl rfl (fun p => ?_) (fun hs0 => ?_)
  · refine go T2_ok 200 rfl ?_
    repeat (first | (refine guardA (b := true) rfl rfl rfl rfl (fun _ => ?_) (fun e => by cases e); refine go T2_ok 200 rfl ?_) | (refine guardA (b := false) rfl rfl rfl rfl (fun e => by cases e) (fun _ => ?_); refine go T2_ok 200 rfl ?_) | (refine condT rfl rfl ?_; refine go T2_ok 200 rfl ?_) | (refine condF rfl rfl ?_; refine go T2_ok 200 rfl ?_))
    refine call rfl rfl rfl (ok _ (by decide) rfl) (known_any _) ?_
    rintro v wk ⟨rfl, qk⟩
    refine go T2_ok 200 rfl ?_
    exact ret (ret1 (v := .bool true) Try.results5 rfl ⟨rfl, qk⟩)
  refine go T2_ok 200 rfl ?_
  refine guardD rfl rfl rfl (fun p => ?_) (fun hs1 => ?_)
  · refine go T2_ok 200 rfl ?_
    repeat (first | (refine guardA (b := true) rfl rfl rfl rfl (fun _ => ?_) (fun e => by cases e); refine go T2_ok 200 rfl ?_) | (refine guardA (b := false) rfl rfl rfl rfl (fun e => by cases e) (fun _ => ?_); refine go T2_ok 200 rfl ?_) | (refine condT rfl rfl ?_; refine go T2_ok 200 rfl ?_) | (refine condF rfl rfl ?_; refine go T2_ok 200 rfl ?_))
    refine call rfl rfl rfl (ok _ (by decide) rfl) (known_any _) ?_
    rintro v wk ⟨rfl, qk⟩
    refine go T2_ok 200 rfl ?_
    exact ret (ret1 (v := .bool true) Try.results5 rfl ⟨rfl, qk⟩)
  refine go T2_ok 200 rfl ?_
  refine guardD rfl rfl rfl (fun p => ?_) (fun hd0 => ?_)
  · refine go T2_ok 200 rfl ?_
    repeat (first | (refine guardA (b := true) rfl rfl rfl rfl (fun _ => ?_) (fun e => by cases e); refine go T2_ok 200 rfl ?_) | (refine guardA (b := false) rfl rfl rfl rfl (fun e => by cases e) (fun _ => ?_); refine go T2_ok 200 rfl ?_) | (refine condT rfl rfl ?_; refine go T2_ok 200 rfl ?_) | (refine condF rfl rfl ?_; refine go T2_ok 200 rfl ?_))
    refine call rfl rfl rfl (ok _ (by decide) rfl) (known_any _) ?_
    rintro v wk ⟨rfl, qk⟩
    refine go T2_ok 200 rfl ?_
    exact ret (ret1 (v := .bool true) Try.results5 rfl ⟨rfl, qk⟩)
  refine go T2_ok 200 rfl ?_
  refine guardD rfl rfl rfl (fun p => ?_) (fun hd1 => ?_)
  · refine go T2_ok 200 rfl ?_
    repeat (first | (refine guardA (b := true) rfl rfl rfl rfl (fun _ => ?_) (fun e => by cases e); refine go T2_ok 200 rfl ?_) | (refine guardA (b := false) rfl rfl rfl rfl (fun e => by cases e) (fun _ => ?_); refine go T2_ok 200 rfl ?_) | (refine condT rfl rfl ?_; refine go T2_ok 200 rfl ?_) | (refine condF rfl rfl ?_; refine go T2_ok 200 rfl ?_))
    refine call rfl rfl rfl (ok _ (by decide) rfl) (known_any _) ?_
    rintro v wk ⟨rfl, qk⟩
    refine go T2_ok 200 rfl ?_
    exact ret (ret1 (v := .bool true) Try.results5 rfl ⟨rfl, qk⟩)
  refine go T2_ok 200 rfl ?_
  refine call rfl rfl rfl (ok _ (by decide) rfl) (level_any lv 900000 w) ?_
  rintro v w0 ⟨rfl, rfl⟩
  refine go T2_ok 200 rfl ?_
  refine guardN rfl rfl rfl (fun p => ?_) (fun hl => ?_)
  · refine go T2_ok 200 rfl ?_
    repeat (first | (refine guardA (b := true) rfl rfl rfl rfl (fun _ => ?_) (fun e => by cases e); refine go T2_ok 200 rfl ?_) | (refine guardA (b := false) rfl rfl rfl rfl (fun e => by cases e) (fun _ => ?_); refine go T2_ok 200 rfl ?_) | (refine condT rfl rfl ?_; refine go T2_ok 200 rfl ?_) | (refine condF rfl rfl ?_; refine go T2_ok 200 rfl ?_))
    refine call rfl rfl rfl (ok _ (by decide) rfl) (known_any _) ?_
    rintro v wk ⟨rfl, qk⟩
    refine go T2_ok 200 rfl ?_
    exact ret (ret1 (v := .bool true) Try.results5 rfl ⟨rfl, qk⟩)
  refine go T2_ok 200 rfl ?_
  refine guardD rfl rfl rfl (fun p => ?_) (fun hk0 => ?_)
  · refine go T2_ok 200 rfl ?_
    repeat (first | (refine guardA (b := true) rfl rfl rfl rfl (fun _ => ?_) (fun e => by cases e); refine go T2_ok 200 rfl ?_) | (refine guardA (b := false) rfl rfl rfl rfl (fun e => by cases e) (fun _ => ?_); refine go T2_ok 200 rfl ?_) | (refine condT rfl rfl ?_; refine go T2_ok 200 rfl ?_) | (refine condF rfl rfl ?_; refine go T2_ok 200 rfl ?_))
    refine call rfl rfl rfl (ok _ (by decide) rfl) (known_any _) ?_
    rintro v wk ⟨rfl, qk⟩
    refine go T2_ok 200 rfl ?_
    exact ret (ret1 (v := .bool true) Try.results5 rfl ⟨rfl, qk⟩)
  refine go T2_ok 200 rfl ?_
  refine guardD rfl rfl rfl (fun p => ?_) (fun hk1 => ?_)
  · refine go T2_ok 200 rfl ?_
    repeat (first | (refine guardA (b := true) rfl rfl rfl rfl (fun _ => ?_) (fun e => by cases e); refine go T2_ok 200 rfl ?_) | (refine guardA (b := false) rfl rfl rfl rfl (fun e => by cases e) (fun _ => ?_); refine go T2_ok 200 rfl ?_) | (refine condT rfl rfl ?_; refine go T2_ok 200 rfl ?_) | (refine condF rfl rfl ?_; refine go T2_ok 200 rfl ?_))
    refine call rfl rfl rfl (ok _ (by decide) rfl) (known_any _) ?_
    rintro v wk ⟨rfl, qk⟩
    refine go T2_ok 200 rfl ?_
    exact ret (ret1 (v := .bool true) Try.results5 rfl ⟨rfl, qk⟩)
  refine go T2_ok 200 rfl ?_
  refine guardD rfl rfl rfl (fun p => ?_) (fun hlo0 => ?_)
  · refine go T2_ok 200 rfl ?_
    repeat (first | (refine guardA (b := true) rfl rfl rfl rfl (fun _ => ?_) (fun e => by cases e); refine go T2_ok 200 rfl ?_) | (refine guardA (b := false) rfl rfl rfl rfl (fun e => by cases e) (fun _ => ?_); refine go T2_ok 200 rfl ?_) | (refine condT rfl rfl ?_; refine go T2_ok 200 rfl ?_) | (refine condF rfl rfl ?_; refine go T2_ok 200 rfl ?_))
    refine call rfl rfl rfl (ok _ (by decide) rfl) (known_any _) ?_
    rintro v wk ⟨rfl, qk⟩
    refine go T2_ok 200 rfl ?_
    exact ret (ret1 (v := .bool true) Try.results5 rfl ⟨rfl, qk⟩)
  refine go T2_ok 200 rfl ?_
  refine guardD rfl rfl rfl (fun p => ?_) (fun hlohi => ?_)
  · refine go T2_ok 200 rfl ?_
    repeat (first | (refine guardA (b := true) rfl rfl rfl rfl (fun _ => ?_) (fun e => by cases e); refine go T2_ok 200 rfl ?_) | (refine guardA (b := false) rfl rfl rfl rfl (fun e => by cases e) (fun _ => ?_); refine go T2_ok 200 rfl ?_) | (refine condT rfl rfl ?_; refine go T2_ok 200 rfl ?_) | (refine condF rfl rfl ?_; refine go T2_ok 200 rfl ?_))
    refine call rfl rfl rfl (ok _ (by decide) rfl) (known_any _) ?_
    rintro v wk ⟨rfl, qk⟩
    refine go T2_ok 200 rfl ?_
    exact ret (ret1 (v := .bool true) Try.results5 rfl ⟨rfl, qk⟩)
  refine go T2_ok 200 rfl ?_
  refine guardD rfl rfl rfl (fun p => ?_) (fun hhiD => ?_)
  · refine go T2_ok 200 rfl ?_
    repeat (first | (refine guardA (b := true) rfl rfl rfl rfl (fun _ => ?_) (fun e => by cases e); refine go T2_ok 200 rfl ?_) | (refine guardA (b := false) rfl rfl rfl rfl (fun e => by cases e) (fun _ => ?_); refine go T2_ok 200 rfl ?_) | (refine condT rfl rfl ?_; refine go T2_ok 200 rfl ?_) | (refine condF rfl rfl ?_; refine go T2_ok 200 rfl ?_))
    refine call rfl rfl rfl (ok _ (by decide) rfl) (known_any _) ?_
    rintro v wk ⟨rfl, qk⟩
    refine go T2_ok 200 rfl ?_
    exact ret (ret1 (v := .bool true) Try.results5 rfl ⟨rfl, qk⟩)
  refine go T2_ok 200 rfl ?_
  refine condD rfl (fun p => ?_) (fun hls => ?_)
  · refine go T2_ok 200 rfl ?_
    refine call rfl rfl rfl (ok _ (by decide) rfl) (known_any _) ?_
    rintro v wk ⟨rfl, qk⟩
    refine go T2_ok 200 rfl ?_
    exact ret (ret1 (v := .bool true) Try.results5 rfl ⟨rfl, qk⟩)
  obtain ⟨d, rfl⟩ : ∃ d : Nat, D = d := ⟨D.toNat, by omega⟩
  obtain ⟨n, rfl⟩ : ∃ n : Nat, s = n := ⟨s.toNat, by omega⟩
  obtain ⟨k, rfl⟩ : ∃ k' : Nat, k = k' := ⟨k.toNat, by omega⟩
  obtain ⟨lo, rfl⟩ : ∃ k' : Nat, lo = k' := ⟨lo.toNat, by omega⟩
  obtain ⟨hi, rfl⟩ : ∃ k' : Nat, hi = k' := ⟨hi.toNat, by omega⟩
  have hlb := (inB_iff _ _ _).1 hl
  have hd40 : ∀ i : Nat, i ≤ 9 → (d : Int) ^ i ≤ 262144000000000 := fun i hi => pow_40 (by omega) hi
  have hp0 : ∀ i : Nat, 0 ≤ (d : Int) ^ i := fun i => Int.pow_nonneg (by omega)
  refine go T2_ok 200 rfl ?_
  refine loop [0, 1, 2, 3, 4, 5, 6, 15, 16] (fun i : Nat => [.int .i64 n, .int .i64 d, .int .i64 lv, .int .i64 k, .int .i64 lo, .int .i64 hi, .slice A3 ls.length c3, .int .i64 ((d : Int) ^ i), .int .i64 (i : Int)])
    (fun i w' => w = w' ∧ i ≤ n) (fun i => n - i) 0 (fun _ => rfl) rfl ⟨rfl, by omega⟩ ?_
  rintro i τ w' ⟨rfl, hi'⟩
  refine go T2_ok 200 rfl ?_
  refine condD rfl (fun hlt => ?_) (fun hlt => ?_)
  · have hlt : i < n := by omega
    have e1 : w64 ((d : Int) ^ i * d) = (d : Int) ^ (i + 1) := by rw [show (d : Int) ^ i * d = (d : Int) ^ (i + 1) from (Int.pow_succ _ _).symm]; exact w64_id (by have := hp0 (i + 1); omega) (by have := hd40 (i + 1) (by omega); omega)
    have ei : w64 ((i : Int) + 1) = ((i + 1 : Nat) : Int) := w64_id (by omega) (by omega)
    refine go T2_ok 200 rfl ?_
    rw [e1, ei]
    exact round ⟨i + 1, rfl, ⟨rfl, by omega⟩, by omega⟩
  have hin : i = n := by omega
  subst hin
  obtain ⟨N, hN⟩ : ∃ N, 2 ^ i = N := ⟨_, rfl⟩
  have hN9 : 2 ^ i ≤ 2 ^ 9 := Nat.pow_le_pow_right (by omega) (by omega)
  have hp' : ((2 : Int) ^ i) = (N : Int) := by rw [← hN]; simp
  obtain ⟨f, hf⟩ : ∃ f : List Bool → Int, f = fun x => if ((decide ((hi : Int) ≤ k) && ((decS (sts d lv x) d lo hi).1 == 2)) || (decide ((k : Int) ≤ lo) && ((decS (sts d lv x) d lo hi).1 == 3))) = true then wtI d k x else 0 := ⟨_, rfl⟩
  have hf0 : ∀ x, 0 ≤ f x := fun x => by
    rw [hf]
    dsimp only
    split
    · exact (wtI_bd (by omega) (by omega) _).1
    · exact Int.le_refl _
  have hf1 : ∀ x, f x ≤ if (bst d lv k x).out then wtI d k x else 0 := fun x => by
    rw [hf]
    have h0 := (wtI_bd (D := (d : Int)) (k := k) (by omega) (by omega) x).1
    dsimp only
    split
    · rename_i hc
      have ho : (bst d lv k x).out = true := by
        simp only [Bool.or_eq_true, Bool.and_eq_true, decide_eq_true_eq, beq_iff_eq] at hc
        rcases hc with ⟨a, b⟩ | ⟨a, b⟩
        · exact dec_below b k (by omega) (by omega)
        · exact dec_above b k (by omega)
      rw [if_pos ho]
      exact Int.le_refl _
    · split
      · exact h0
      · exact Int.le_refl _
  obtain ⟨g, hg⟩ : ∃ g : Nat → Int, g = fun b => f (outN i b) := ⟨_, rfl⟩
  have hg0 : ∀ b, 0 ≤ g b := fun b => by rw [hg]; exact hf0 _
  have hsum : lv * sumN g N ≤ (d : Int) ^ i := by
    have h1 := sure (D := (d : Int)) (lv := lv) (k := k) (by omega) (by omega) i
    have h2 : tot i f ≤ tot i (fun x => if (bst d lv k x).out then wtI d k x else 0) := tot_le fun x _ => hf1 x
    have h3 := Int.mul_le_mul_of_nonneg_left h2 (show 0 ≤ lv by omega)
    have h4 : sumN g N = tot i f := by rw [hg, ← hN]; rfl
    rw [h4]
    omega
  have hle : ∀ b, b ≤ N → 0 ≤ sumN g b ∧ sumN g b ≤ (d : Int) ^ i := fun b hb => by
    have h1 := sumN_mono hg0 hb
    have h2 := sumN_nonneg hg0 b
    have h3 := sumN_nonneg hg0 N
    have h4 : 1 * sumN g N ≤ lv * sumN g N := Int.mul_le_mul_of_nonneg_right (by omega) h3
    omega
  have hall := hd40 i (by omega)
  have hall0 := hp0 i
  refine go T2_ok 200 rfl ?_
  refine loop [0, 1, 2, 3, 4, 5, 6, 15, 17, 18] (fun b : Nat => [.int .i64 i, .int .i64 d, .int .i64 lv, .int .i64 k, .int .i64 lo, .int .i64 hi, .slice A3 ls.length c3, .int .i64 ((d : Int) ^ i), .int .i64 (sumN g b), .int .i64 (b : Int)])
    (fun b w' => Chg No w w' ∧ b ≤ N) (fun b => N - b) 0 (fun _ => rfl) rfl ⟨Chg.refl _ _, by omega⟩ ?_
  rintro b τ w1 ⟨q1, hb⟩
  refine go T2_ok 200 rfl ?_
  refine shl rfl rfl rfl rfl i rfl (by omega) ?_
  have ep : w64 (1 * 2 ^ i) = (N : Int) := by rw [Int.one_mul, hp']; exact w64_id (by omega) (by omega)
  rw [ep]
  refine go T2_ok 200 rfl ?_
  refine condD rfl (fun hlt => ?_) (fun hlt => ?_)
  · have hlt : b < N := by omega
    have eb : w64 ((b : Int) + 1) = ((b + 1 : Nat) : Int) := w64_id (by omega) (by omega)
    refine go T2_ok 200 rfl ?_
    refine call rfl rfl rfl (ok _ (by decide) rfl) (Outcome_any i b w1 (by omega) (by omega)) ?_
    rintro v w2 ⟨A2, c2, rfl, q2, o2⟩
    refine go T2_ok 200 rfl ?_
    have hlen := outN_len i b
    have S2 : Sl w2 w2.heap.size 1 A2 (outN i b).length (boolVs (outN i b)) := by rw [hlen]; exact own_sl o2
    have S2i : Sl w2 w2.heap.size 1 A2 i (boolVs (outN i b)) := own_sl o2
    have hE : decE (outN i b).length d lv lo hi = 0 := by unfold decE decB; rw [listed_wrong, wrong_small (by omega) (by omega) (by omega), hl, (inB_iff (lo : Int) 0 ((hi : Int) - 1)).2 (by omega), decide_eq_true (show (hi : Int) ≤ d by omega)]; rfl
    have K := Decide_any (outN i b) d lv lo hi A2 c2 _ w2 S2 (by omega)
    rw [hE, if_pos rfl, if_pos rfl, Int.toNat_natCast, Int.toNat_natCast, Int.toNat_natCast, hlen] at K
    refine call rfl rfl rfl (ok _ (by decide) rfl) (K) ?_
    rintro v w3 ⟨q3, rfl⟩
    have bd := decS_bd (lv := lv) (outN i b) (lo := lo) (hi := hi) (D := d) (by omega) (by omega)
    rw [hlen] at bd
    have q13 : Chg No w w3 := (q1.trans q2).trans q3
    have hgb : g b = if ((decide ((hi : Int) ≤ k) && ((decS (sts d lv (outN i b)) d lo hi).1 == 2)) || (decide ((k : Int) ≤ lo) && ((decS (sts d lv (outN i b)) d lo hi).1 == 3))) = true then wtI d k (outN i b) else 0 := by rw [hg, hf]
    refine go T2_ok 200 rfl ?_
    repeat (first | (refine guardA (b := true) rfl rfl rfl rfl (fun _ => ?_) (fun e => by cases e); refine go T2_ok 200 rfl ?_) | (refine guardA (b := false) rfl rfl rfl rfl (fun e => by cases e) (fun _ => ?_); refine go T2_ok 200 rfl ?_) | (refine condT rfl rfl ?_; refine go T2_ok 200 rfl ?_) | (refine condF rfl rfl ?_; refine go T2_ok 200 rfl ?_))
    refine guardD rfl rfl rfl (fun p => absurd p (by omega)) (fun _ => ?_)
    refine go T2_ok 200 rfl ?_
    refine condD rfl (fun p => absurd p (by omega)) (fun _ => ?_)
    rcases decS_cases (sts d lv (outN i b)) d lo hi with hv | hv | hv
    · rw [hv] at hgb ⊢
      cases hA : decide ((hi : Int) ≤ k) with
      | true =>
        cases hB : decide ((k : Int) ≤ lo) with
        | true => skip
                  refine go T2_ok 200 rfl ?_
                  repeat (first | (refine guardA (b := true) rfl rfl rfl rfl (fun _ => ?_) (fun e => by cases e); refine go T2_ok 200 rfl ?_) | (refine guardA (b := false) rfl rfl rfl rfl (fun e => by cases e) (fun _ => ?_); refine go T2_ok 200 rfl ?_) | (refine condT rfl rfl ?_; refine go T2_ok 200 rfl ?_) | (refine condF rfl rfl ?_; refine go T2_ok 200 rfl ?_))
                  rw [hA]
                  repeat (first | (refine guardA (b := true) rfl rfl rfl rfl (fun _ => ?_) (fun e => by cases e); refine go T2_ok 200 rfl ?_) | (refine guardA (b := false) rfl rfl rfl rfl (fun e => by cases e) (fun _ => ?_); refine go T2_ok 200 rfl ?_) | (refine condT rfl rfl ?_; refine go T2_ok 200 rfl ?_) | (refine condF rfl rfl ?_; refine go T2_ok 200 rfl ?_))
                  try rw [hB]
                  repeat (first | (refine guardA (b := true) rfl rfl rfl rfl (fun _ => ?_) (fun e => by cases e); refine go T2_ok 200 rfl ?_) | (refine guardA (b := false) rfl rfl rfl rfl (fun e => by cases e) (fun _ => ?_); refine go T2_ok 200 rfl ?_) | (refine condT rfl rfl ?_; refine go T2_ok 200 rfl ?_) | (refine condF rfl rfl ?_; refine go T2_ok 200 rfl ?_))
                  have hsn : sumN g (b + 1) = sumN g b := by rw [sumN, hgb, hA, hB]; exact Int.add_zero _
                  refine remN rfl rfl rfl rfl (by omega) (by decide) ?_
                  refine go T2_ok 200 rfl ?_
                  refine guard rfl rfl rfl (fun p => ?_) (fun p => ?_)
                  · refine go T2_ok 200 rfl ?_
                    repeat (first | (refine guardA (b := true) rfl rfl rfl rfl (fun _ => ?_) (fun e => by cases e); refine go T2_ok 200 rfl ?_) | (refine guardA (b := false) rfl rfl rfl rfl (fun e => by cases e) (fun _ => ?_); refine go T2_ok 200 rfl ?_) | (refine condT rfl rfl ?_; refine go T2_ok 200 rfl ?_) | (refine condF rfl rfl ?_; refine go T2_ok 200 rfl ?_))
                    rw [eb,←hsn]
                    exact round ⟨b + 1, rfl, ⟨q13, by omega⟩, by omega⟩
                  · refine go T2_ok 200 rfl ?_
                    repeat (first | (refine guardA (b := true) rfl rfl rfl rfl (fun _ => ?_) (fun e => by cases e); refine go T2_ok 200 rfl ?_) | (refine guardA (b := false) rfl rfl rfl rfl (fun e => by cases e) (fun _ => ?_); refine go T2_ok 200 rfl ?_) | (refine condT rfl rfl ?_; refine go T2_ok 200 rfl ?_) | (refine condF rfl rfl ?_; refine go T2_ok 200 rfl ?_))
                    rw [eb,←hsn]
                    exact round ⟨b + 1, rfl, ⟨q13, by omega⟩, by omega⟩
        | false => skip
                   refine go T2_ok 200 rfl ?_
                   repeat (first | (refine guardA (b := true) rfl rfl rfl rfl (fun _ => ?_) (fun e => by cases e); refine go T2_ok 200 rfl ?_) | (refine guardA (b := false) rfl rfl rfl rfl (fun e => by cases e) (fun _ => ?_); refine go T2_ok 200 rfl ?_) | (refine condT rfl rfl ?_; refine go T2_ok 200 rfl ?_) | (refine condF rfl rfl ?_; refine go T2_ok 200 rfl ?_))
                   rw [hA]
                   repeat (first | (refine guardA (b := true) rfl rfl rfl rfl (fun _ => ?_) (fun e => by cases e); refine go T2_ok 200 rfl ?_) | (refine guardA (b := false) rfl rfl rfl rfl (fun e => by cases e) (fun _ => ?_); refine go T2_ok 200 rfl ?_) | (refine condT rfl rfl ?_; refine go T2_ok 200 rfl ?_) | (refine condF rfl rfl ?_; refine go T2_ok 200 rfl ?_))
                   try rw [hB]
                   repeat (first | (refine guardA (b := true) rfl rfl rfl rfl (fun _ => ?_) (fun e => by cases e); refine go T2_ok 200 rfl ?_) | (refine guardA (b := false) rfl rfl rfl rfl (fun e => by cases e) (fun _ => ?_); refine go T2_ok 200 rfl ?_) | (refine condT rfl rfl ?_; refine go T2_ok 200 rfl ?_) | (refine condF rfl rfl ?_; refine go T2_ok 200 rfl ?_))
                   have hsn : sumN g (b + 1) = sumN g b := by rw [sumN, hgb, hA, hB]; exact Int.add_zero _
                   refine remN rfl rfl rfl rfl (by omega) (by decide) ?_
                   refine go T2_ok 200 rfl ?_
                   refine guard rfl rfl rfl (fun p => ?_) (fun p => ?_)
                   · refine go T2_ok 200 rfl ?_
                     repeat (first | (refine guardA (b := true) rfl rfl rfl rfl (fun _ => ?_) (fun e => by cases e); refine go T2_ok 200 rfl ?_) | (refine guardA (b := false) rfl rfl rfl rfl (fun e => by cases e) (fun _ => ?_); refine go T2_ok 200 rfl ?_) | (refine condT rfl rfl ?_; refine go T2_ok 200 rfl ?_) | (refine condF rfl rfl ?_; refine go T2_ok 200 rfl ?_))
                     rw [eb,←hsn]
                     exact round ⟨b + 1, rfl, ⟨q13, by omega⟩, by omega⟩
                   · refine go T2_ok 200 rfl ?_
                     repeat (first | (refine guardA (b := true) rfl rfl rfl rfl (fun _ => ?_) (fun e => by cases e); refine go T2_ok 200 rfl ?_) | (refine guardA (b := false) rfl rfl rfl rfl (fun e => by cases e) (fun _ => ?_); refine go T2_ok 200 rfl ?_) | (refine condT rfl rfl ?_; refine go T2_ok 200 rfl ?_) | (refine condF rfl rfl ?_; refine go T2_ok 200 rfl ?_))
                     rw [eb,←hsn]
                     exact round ⟨b + 1, rfl, ⟨q13, by omega⟩, by omega⟩
      | false =>
        cases hB : decide ((k : Int) ≤ lo) with
        | true => skip
                  refine go T2_ok 200 rfl ?_
                  repeat (first | (refine guardA (b := true) rfl rfl rfl rfl (fun _ => ?_) (fun e => by cases e); refine go T2_ok 200 rfl ?_) | (refine guardA (b := false) rfl rfl rfl rfl (fun e => by cases e) (fun _ => ?_); refine go T2_ok 200 rfl ?_) | (refine condT rfl rfl ?_; refine go T2_ok 200 rfl ?_) | (refine condF rfl rfl ?_; refine go T2_ok 200 rfl ?_))
                  rw [hA]
                  repeat (first | (refine guardA (b := true) rfl rfl rfl rfl (fun _ => ?_) (fun e => by cases e); refine go T2_ok 200 rfl ?_) | (refine guardA (b := false) rfl rfl rfl rfl (fun e => by cases e) (fun _ => ?_); refine go T2_ok 200 rfl ?_) | (refine condT rfl rfl ?_; refine go T2_ok 200 rfl ?_) | (refine condF rfl rfl ?_; refine go T2_ok 200 rfl ?_))
                  try rw [hB]
                  repeat (first | (refine guardA (b := true) rfl rfl rfl rfl (fun _ => ?_) (fun e => by cases e); refine go T2_ok 200 rfl ?_) | (refine guardA (b := false) rfl rfl rfl rfl (fun e => by cases e) (fun _ => ?_); refine go T2_ok 200 rfl ?_) | (refine condT rfl rfl ?_; refine go T2_ok 200 rfl ?_) | (refine condF rfl rfl ?_; refine go T2_ok 200 rfl ?_))
                  have hsn : sumN g (b + 1) = sumN g b := by rw [sumN, hgb, hA, hB]; exact Int.add_zero _
                  refine remN rfl rfl rfl rfl (by omega) (by decide) ?_
                  refine go T2_ok 200 rfl ?_
                  refine guard rfl rfl rfl (fun p => ?_) (fun p => ?_)
                  · refine go T2_ok 200 rfl ?_
                    repeat (first | (refine guardA (b := true) rfl rfl rfl rfl (fun _ => ?_) (fun e => by cases e); refine go T2_ok 200 rfl ?_) | (refine guardA (b := false) rfl rfl rfl rfl (fun e => by cases e) (fun _ => ?_); refine go T2_ok 200 rfl ?_) | (refine condT rfl rfl ?_; refine go T2_ok 200 rfl ?_) | (refine condF rfl rfl ?_; refine go T2_ok 200 rfl ?_))
                    rw [eb,←hsn]
                    exact round ⟨b + 1, rfl, ⟨q13, by omega⟩, by omega⟩
                  · refine go T2_ok 200 rfl ?_
                    repeat (first | (refine guardA (b := true) rfl rfl rfl rfl (fun _ => ?_) (fun e => by cases e); refine go T2_ok 200 rfl ?_) | (refine guardA (b := false) rfl rfl rfl rfl (fun e => by cases e) (fun _ => ?_); refine go T2_ok 200 rfl ?_) | (refine condT rfl rfl ?_; refine go T2_ok 200 rfl ?_) | (refine condF rfl rfl ?_; refine go T2_ok 200 rfl ?_))
                    rw [eb,←hsn]
                    exact round ⟨b + 1, rfl, ⟨q13, by omega⟩, by omega⟩
        | false => skip
                   refine go T2_ok 200 rfl ?_
                   repeat (first | (refine guardA (b := true) rfl rfl rfl rfl (fun _ => ?_) (fun e => by cases e); refine go T2_ok 200 rfl ?_) | (refine guardA (b := false) rfl rfl rfl rfl (fun e => by cases e) (fun _ => ?_); refine go T2_ok 200 rfl ?_) | (refine condT rfl rfl ?_; refine go T2_ok 200 rfl ?_) | (refine condF rfl rfl ?_; refine go T2_ok 200 rfl ?_))
                   rw [hA]
                   repeat (first | (refine guardA (b := true) rfl rfl rfl rfl (fun _ => ?_) (fun e => by cases e); refine go T2_ok 200 rfl ?_) | (refine guardA (b := false) rfl rfl rfl rfl (fun e => by cases e) (fun _ => ?_); refine go T2_ok 200 rfl ?_) | (refine condT rfl rfl ?_; refine go T2_ok 200 rfl ?_) | (refine condF rfl rfl ?_; refine go T2_ok 200 rfl ?_))
                   try rw [hB]
                   repeat (first | (refine guardA (b := true) rfl rfl rfl rfl (fun _ => ?_) (fun e => by cases e); refine go T2_ok 200 rfl ?_) | (refine guardA (b := false) rfl rfl rfl rfl (fun e => by cases e) (fun _ => ?_); refine go T2_ok 200 rfl ?_) | (refine condT rfl rfl ?_; refine go T2_ok 200 rfl ?_) | (refine condF rfl rfl ?_; refine go T2_ok 200 rfl ?_))
                   have hsn : sumN g (b + 1) = sumN g b := by rw [sumN, hgb, hA, hB]; exact Int.add_zero _
                   refine remN rfl rfl rfl rfl (by omega) (by decide) ?_
                   refine go T2_ok 200 rfl ?_
                   refine guard rfl rfl rfl (fun p => ?_) (fun p => ?_)
                   · refine go T2_ok 200 rfl ?_
                     repeat (first | (refine guardA (b := true) rfl rfl rfl rfl (fun _ => ?_) (fun e => by cases e); refine go T2_ok 200 rfl ?_) | (refine guardA (b := false) rfl rfl rfl rfl (fun e => by cases e) (fun _ => ?_); refine go T2_ok 200 rfl ?_) | (refine condT rfl rfl ?_; refine go T2_ok 200 rfl ?_) | (refine condF rfl rfl ?_; refine go T2_ok 200 rfl ?_))
                     rw [eb,←hsn]
                     exact round ⟨b + 1, rfl, ⟨q13, by omega⟩, by omega⟩
                   · refine go T2_ok 200 rfl ?_
                     repeat (first | (refine guardA (b := true) rfl rfl rfl rfl (fun _ => ?_) (fun e => by cases e); refine go T2_ok 200 rfl ?_) | (refine guardA (b := false) rfl rfl rfl rfl (fun e => by cases e) (fun _ => ?_); refine go T2_ok 200 rfl ?_) | (refine condT rfl rfl ?_; refine go T2_ok 200 rfl ?_) | (refine condF rfl rfl ?_; refine go T2_ok 200 rfl ?_))
                     rw [eb,←hsn]
                     exact round ⟨b + 1, rfl, ⟨q13, by omega⟩, by omega⟩
    · rw [hv] at hgb ⊢
      cases hA : decide ((hi : Int) ≤ k) with
      | true =>
        cases hB : decide ((k : Int) ≤ lo) with
        | true => skip
                  refine go T2_ok 200 rfl ?_
                  repeat (first | (refine guardA (b := true) rfl rfl rfl rfl (fun _ => ?_) (fun e => by cases e); refine go T2_ok 200 rfl ?_) | (refine guardA (b := false) rfl rfl rfl rfl (fun e => by cases e) (fun _ => ?_); refine go T2_ok 200 rfl ?_) | (refine condT rfl rfl ?_; refine go T2_ok 200 rfl ?_) | (refine condF rfl rfl ?_; refine go T2_ok 200 rfl ?_))
                  rw [hA]
                  repeat (first | (refine guardA (b := true) rfl rfl rfl rfl (fun _ => ?_) (fun e => by cases e); refine go T2_ok 200 rfl ?_) | (refine guardA (b := false) rfl rfl rfl rfl (fun e => by cases e) (fun _ => ?_); refine go T2_ok 200 rfl ?_) | (refine condT rfl rfl ?_; refine go T2_ok 200 rfl ?_) | (refine condF rfl rfl ?_; refine go T2_ok 200 rfl ?_))
                  try rw [hB]
                  repeat (first | (refine guardA (b := true) rfl rfl rfl rfl (fun _ => ?_) (fun e => by cases e); refine go T2_ok 200 rfl ?_) | (refine guardA (b := false) rfl rfl rfl rfl (fun e => by cases e) (fun _ => ?_); refine go T2_ok 200 rfl ?_) | (refine condT rfl rfl ?_; refine go T2_ok 200 rfl ?_) | (refine condF rfl rfl ?_; refine go T2_ok 200 rfl ?_))
                  have hsn : sumN g (b + 1) = sumN g b + wtI d k (outN i b) := by rw [sumN, hgb, hA, hB]; rfl
                  have W := rWeight_any (outN i b) d k A2 c2 _ w3 (S2.no q3) (by omega)
                  rw [hlen] at W
                  refine call rfl rfl rfl (ok _ (by decide) rfl) (W) ?_
                  rintro v w4 ⟨rfl, rfl⟩
                  rw [wtw_eq (by omega) (by omega) (by omega) (outN i b) (by rw [hlen]; omega)]
                  refine go T2_ok 200 rfl ?_
                  have hs1 := hle (b + 1) (by omega)
                  have es : w64 (sumN g b + wtI d k (outN i b)) = sumN g (b + 1) := by rw [← hsn]; exact w64_id (by omega) (by omega)
                  rw [es]
                  refine remN rfl rfl rfl rfl (by omega) (by decide) ?_
                  refine go T2_ok 200 rfl ?_
                  refine guard rfl rfl rfl (fun p => ?_) (fun p => ?_)
                  · refine go T2_ok 200 rfl ?_
                    repeat (first | (refine guardA (b := true) rfl rfl rfl rfl (fun _ => ?_) (fun e => by cases e); refine go T2_ok 200 rfl ?_) | (refine guardA (b := false) rfl rfl rfl rfl (fun e => by cases e) (fun _ => ?_); refine go T2_ok 200 rfl ?_) | (refine condT rfl rfl ?_; refine go T2_ok 200 rfl ?_) | (refine condF rfl rfl ?_; refine go T2_ok 200 rfl ?_))
                    rw [eb]
                    exact round ⟨b + 1, rfl, ⟨q13, by omega⟩, by omega⟩
                  · refine go T2_ok 200 rfl ?_
                    repeat (first | (refine guardA (b := true) rfl rfl rfl rfl (fun _ => ?_) (fun e => by cases e); refine go T2_ok 200 rfl ?_) | (refine guardA (b := false) rfl rfl rfl rfl (fun e => by cases e) (fun _ => ?_); refine go T2_ok 200 rfl ?_) | (refine condT rfl rfl ?_; refine go T2_ok 200 rfl ?_) | (refine condF rfl rfl ?_; refine go T2_ok 200 rfl ?_))
                    refine appS T2_ok rfl rfl rfl rfl rfl (own_nil (w1 := w3) (B' := w3.heap.size)) (news := boolVs (outN i b)) (S2i.no q3) (by simp [boolVs, Value.oneCell']) (by unfold maxLen; omega) (by omega) (Nat.le_refl _) ?_
                    intro A5 c5 w5 o5 q5 _
                    have q35 : Chg No w3 w5 := q5.mono (fun x _ e => by simp [Value.ownBlock] at e)
                    refine go T2_ok 200 rfl ?_
                    refine appS T2_ok rfl rfl rfl rfl rfl o5 (news := boolVs ls) (((hSl.no q13).no q35)) (by simp [boolVs, Value.oneCell']) (by unfold maxLen; omega) (by omega) q35.size ?_
                    intro A6 c6 w6 o6 q6 _
                    have q36 : Chg No w3 w6 := q35.step q6 (fun x hx e => by have := own_ge o5 e; omega)
                    have hl6 : (outN i b ++ ls).length = 0 + i + ls.length := by rw [List.length_append, hlen]; omega
                    have S6 : Sl w6 w6.heap.size 1 A6 (outN i b ++ ls).length (boolVs (outN i b ++ ls)) := by
                      have := own_sl o6
                      rw [hl6]
                      simpa [boolVs] using this
                    have DD := Decide_any (outN i b ++ ls) d lv lo hi A6 c6 _ w6 S6 (by omega)
                    have hE6 : decE (outN i b ++ ls).length d lv lo hi = 0 := by unfold decE decB; rw [listed_wrong, wrong_small (by omega) (by omega) (by rw [hl6]; omega), hl, (inB_iff (lo : Int) 0 ((hi : Int) - 1)).2 (by omega), decide_eq_true (show (hi : Int) ≤ d by omega)]; rfl
                    rw [hE6, if_pos rfl, if_pos rfl, Int.toNat_natCast, Int.toNat_natCast, Int.toNat_natCast, dec_stays hlb.1 (outN i b) ls (by omega) (by omega) (by rw [hv]; decide), hv, hl6] at DD
                    refine go T2_ok 200 rfl ?_
                    refine call rfl rfl rfl (ok _ (by decide) rfl) (DD) ?_
                    rintro v w7 ⟨q7, rfl⟩
                    refine go T2_ok 200 rfl ?_
                    repeat (first | (refine guardA (b := true) rfl rfl rfl rfl (fun _ => ?_) (fun e => by cases e); refine go T2_ok 200 rfl ?_) | (refine guardA (b := false) rfl rfl rfl rfl (fun e => by cases e) (fun _ => ?_); refine go T2_ok 200 rfl ?_) | (refine condT rfl rfl ?_; refine go T2_ok 200 rfl ?_) | (refine condF rfl rfl ?_; refine go T2_ok 200 rfl ?_))
                    refine condF rfl (by simp) ?_
                    refine go T2_ok 200 rfl ?_
                    rw [eb]
                    exact round ⟨b + 1, rfl, ⟨(q13.trans q36).trans q7, by omega⟩, by omega⟩
        | false => skip
                   refine go T2_ok 200 rfl ?_
                   repeat (first | (refine guardA (b := true) rfl rfl rfl rfl (fun _ => ?_) (fun e => by cases e); refine go T2_ok 200 rfl ?_) | (refine guardA (b := false) rfl rfl rfl rfl (fun e => by cases e) (fun _ => ?_); refine go T2_ok 200 rfl ?_) | (refine condT rfl rfl ?_; refine go T2_ok 200 rfl ?_) | (refine condF rfl rfl ?_; refine go T2_ok 200 rfl ?_))
                   rw [hA]
                   repeat (first | (refine guardA (b := true) rfl rfl rfl rfl (fun _ => ?_) (fun e => by cases e); refine go T2_ok 200 rfl ?_) | (refine guardA (b := false) rfl rfl rfl rfl (fun e => by cases e) (fun _ => ?_); refine go T2_ok 200 rfl ?_) | (refine condT rfl rfl ?_; refine go T2_ok 200 rfl ?_) | (refine condF rfl rfl ?_; refine go T2_ok 200 rfl ?_))
                   try rw [hB]
                   repeat (first | (refine guardA (b := true) rfl rfl rfl rfl (fun _ => ?_) (fun e => by cases e); refine go T2_ok 200 rfl ?_) | (refine guardA (b := false) rfl rfl rfl rfl (fun e => by cases e) (fun _ => ?_); refine go T2_ok 200 rfl ?_) | (refine condT rfl rfl ?_; refine go T2_ok 200 rfl ?_) | (refine condF rfl rfl ?_; refine go T2_ok 200 rfl ?_))
                   have hsn : sumN g (b + 1) = sumN g b + wtI d k (outN i b) := by rw [sumN, hgb, hA, hB]; rfl
                   have W := rWeight_any (outN i b) d k A2 c2 _ w3 (S2.no q3) (by omega)
                   rw [hlen] at W
                   refine call rfl rfl rfl (ok _ (by decide) rfl) (W) ?_
                   rintro v w4 ⟨rfl, rfl⟩
                   rw [wtw_eq (by omega) (by omega) (by omega) (outN i b) (by rw [hlen]; omega)]
                   refine go T2_ok 200 rfl ?_
                   have hs1 := hle (b + 1) (by omega)
                   have es : w64 (sumN g b + wtI d k (outN i b)) = sumN g (b + 1) := by rw [← hsn]; exact w64_id (by omega) (by omega)
                   rw [es]
                   refine remN rfl rfl rfl rfl (by omega) (by decide) ?_
                   refine go T2_ok 200 rfl ?_
                   refine guard rfl rfl rfl (fun p => ?_) (fun p => ?_)
                   · refine go T2_ok 200 rfl ?_
                     repeat (first | (refine guardA (b := true) rfl rfl rfl rfl (fun _ => ?_) (fun e => by cases e); refine go T2_ok 200 rfl ?_) | (refine guardA (b := false) rfl rfl rfl rfl (fun e => by cases e) (fun _ => ?_); refine go T2_ok 200 rfl ?_) | (refine condT rfl rfl ?_; refine go T2_ok 200 rfl ?_) | (refine condF rfl rfl ?_; refine go T2_ok 200 rfl ?_))
                     rw [eb]
                     exact round ⟨b + 1, rfl, ⟨q13, by omega⟩, by omega⟩
                   · refine go T2_ok 200 rfl ?_
                     repeat (first | (refine guardA (b := true) rfl rfl rfl rfl (fun _ => ?_) (fun e => by cases e); refine go T2_ok 200 rfl ?_) | (refine guardA (b := false) rfl rfl rfl rfl (fun e => by cases e) (fun _ => ?_); refine go T2_ok 200 rfl ?_) | (refine condT rfl rfl ?_; refine go T2_ok 200 rfl ?_) | (refine condF rfl rfl ?_; refine go T2_ok 200 rfl ?_))
                     refine appS T2_ok rfl rfl rfl rfl rfl (own_nil (w1 := w3) (B' := w3.heap.size)) (news := boolVs (outN i b)) (S2i.no q3) (by simp [boolVs, Value.oneCell']) (by unfold maxLen; omega) (by omega) (Nat.le_refl _) ?_
                     intro A5 c5 w5 o5 q5 _
                     have q35 : Chg No w3 w5 := q5.mono (fun x _ e => by simp [Value.ownBlock] at e)
                     refine go T2_ok 200 rfl ?_
                     refine appS T2_ok rfl rfl rfl rfl rfl o5 (news := boolVs ls) (((hSl.no q13).no q35)) (by simp [boolVs, Value.oneCell']) (by unfold maxLen; omega) (by omega) q35.size ?_
                     intro A6 c6 w6 o6 q6 _
                     have q36 : Chg No w3 w6 := q35.step q6 (fun x hx e => by have := own_ge o5 e; omega)
                     have hl6 : (outN i b ++ ls).length = 0 + i + ls.length := by rw [List.length_append, hlen]; omega
                     have S6 : Sl w6 w6.heap.size 1 A6 (outN i b ++ ls).length (boolVs (outN i b ++ ls)) := by
                       have := own_sl o6
                       rw [hl6]
                       simpa [boolVs] using this
                     have DD := Decide_any (outN i b ++ ls) d lv lo hi A6 c6 _ w6 S6 (by omega)
                     have hE6 : decE (outN i b ++ ls).length d lv lo hi = 0 := by unfold decE decB; rw [listed_wrong, wrong_small (by omega) (by omega) (by rw [hl6]; omega), hl, (inB_iff (lo : Int) 0 ((hi : Int) - 1)).2 (by omega), decide_eq_true (show (hi : Int) ≤ d by omega)]; rfl
                     rw [hE6, if_pos rfl, if_pos rfl, Int.toNat_natCast, Int.toNat_natCast, Int.toNat_natCast, dec_stays hlb.1 (outN i b) ls (by omega) (by omega) (by rw [hv]; decide), hv, hl6] at DD
                     refine go T2_ok 200 rfl ?_
                     refine call rfl rfl rfl (ok _ (by decide) rfl) (DD) ?_
                     rintro v w7 ⟨q7, rfl⟩
                     refine go T2_ok 200 rfl ?_
                     repeat (first | (refine guardA (b := true) rfl rfl rfl rfl (fun _ => ?_) (fun e => by cases e); refine go T2_ok 200 rfl ?_) | (refine guardA (b := false) rfl rfl rfl rfl (fun e => by cases e) (fun _ => ?_); refine go T2_ok 200 rfl ?_) | (refine condT rfl rfl ?_; refine go T2_ok 200 rfl ?_) | (refine condF rfl rfl ?_; refine go T2_ok 200 rfl ?_))
                     refine condF rfl (by simp) ?_
                     refine go T2_ok 200 rfl ?_
                     rw [eb]
                     exact round ⟨b + 1, rfl, ⟨(q13.trans q36).trans q7, by omega⟩, by omega⟩
      | false =>
        cases hB : decide ((k : Int) ≤ lo) with
        | true => skip
                  refine go T2_ok 200 rfl ?_
                  repeat (first | (refine guardA (b := true) rfl rfl rfl rfl (fun _ => ?_) (fun e => by cases e); refine go T2_ok 200 rfl ?_) | (refine guardA (b := false) rfl rfl rfl rfl (fun e => by cases e) (fun _ => ?_); refine go T2_ok 200 rfl ?_) | (refine condT rfl rfl ?_; refine go T2_ok 200 rfl ?_) | (refine condF rfl rfl ?_; refine go T2_ok 200 rfl ?_))
                  rw [hA]
                  repeat (first | (refine guardA (b := true) rfl rfl rfl rfl (fun _ => ?_) (fun e => by cases e); refine go T2_ok 200 rfl ?_) | (refine guardA (b := false) rfl rfl rfl rfl (fun e => by cases e) (fun _ => ?_); refine go T2_ok 200 rfl ?_) | (refine condT rfl rfl ?_; refine go T2_ok 200 rfl ?_) | (refine condF rfl rfl ?_; refine go T2_ok 200 rfl ?_))
                  try rw [hB]
                  repeat (first | (refine guardA (b := true) rfl rfl rfl rfl (fun _ => ?_) (fun e => by cases e); refine go T2_ok 200 rfl ?_) | (refine guardA (b := false) rfl rfl rfl rfl (fun e => by cases e) (fun _ => ?_); refine go T2_ok 200 rfl ?_) | (refine condT rfl rfl ?_; refine go T2_ok 200 rfl ?_) | (refine condF rfl rfl ?_; refine go T2_ok 200 rfl ?_))
                  have hsn : sumN g (b + 1) = sumN g b := by rw [sumN, hgb, hA, hB]; exact Int.add_zero _
                  refine remN rfl rfl rfl rfl (by omega) (by decide) ?_
                  refine go T2_ok 200 rfl ?_
                  refine guard rfl rfl rfl (fun p => ?_) (fun p => ?_)
                  · refine go T2_ok 200 rfl ?_
                    repeat (first | (refine guardA (b := true) rfl rfl rfl rfl (fun _ => ?_) (fun e => by cases e); refine go T2_ok 200 rfl ?_) | (refine guardA (b := false) rfl rfl rfl rfl (fun e => by cases e) (fun _ => ?_); refine go T2_ok 200 rfl ?_) | (refine condT rfl rfl ?_; refine go T2_ok 200 rfl ?_) | (refine condF rfl rfl ?_; refine go T2_ok 200 rfl ?_))
                    rw [eb,←hsn]
                    exact round ⟨b + 1, rfl, ⟨q13, by omega⟩, by omega⟩
                  · refine go T2_ok 200 rfl ?_
                    repeat (first | (refine guardA (b := true) rfl rfl rfl rfl (fun _ => ?_) (fun e => by cases e); refine go T2_ok 200 rfl ?_) | (refine guardA (b := false) rfl rfl rfl rfl (fun e => by cases e) (fun _ => ?_); refine go T2_ok 200 rfl ?_) | (refine condT rfl rfl ?_; refine go T2_ok 200 rfl ?_) | (refine condF rfl rfl ?_; refine go T2_ok 200 rfl ?_))
                    refine appS T2_ok rfl rfl rfl rfl rfl (own_nil (w1 := w3) (B' := w3.heap.size)) (news := boolVs (outN i b)) (S2i.no q3) (by simp [boolVs, Value.oneCell']) (by unfold maxLen; omega) (by omega) (Nat.le_refl _) ?_
                    intro A5 c5 w5 o5 q5 _
                    have q35 : Chg No w3 w5 := q5.mono (fun x _ e => by simp [Value.ownBlock] at e)
                    refine go T2_ok 200 rfl ?_
                    refine appS T2_ok rfl rfl rfl rfl rfl o5 (news := boolVs ls) (((hSl.no q13).no q35)) (by simp [boolVs, Value.oneCell']) (by unfold maxLen; omega) (by omega) q35.size ?_
                    intro A6 c6 w6 o6 q6 _
                    have q36 : Chg No w3 w6 := q35.step q6 (fun x hx e => by have := own_ge o5 e; omega)
                    have hl6 : (outN i b ++ ls).length = 0 + i + ls.length := by rw [List.length_append, hlen]; omega
                    have S6 : Sl w6 w6.heap.size 1 A6 (outN i b ++ ls).length (boolVs (outN i b ++ ls)) := by
                      have := own_sl o6
                      rw [hl6]
                      simpa [boolVs] using this
                    have DD := Decide_any (outN i b ++ ls) d lv lo hi A6 c6 _ w6 S6 (by omega)
                    have hE6 : decE (outN i b ++ ls).length d lv lo hi = 0 := by unfold decE decB; rw [listed_wrong, wrong_small (by omega) (by omega) (by rw [hl6]; omega), hl, (inB_iff (lo : Int) 0 ((hi : Int) - 1)).2 (by omega), decide_eq_true (show (hi : Int) ≤ d by omega)]; rfl
                    rw [hE6, if_pos rfl, if_pos rfl, Int.toNat_natCast, Int.toNat_natCast, Int.toNat_natCast, dec_stays hlb.1 (outN i b) ls (by omega) (by omega) (by rw [hv]; decide), hv, hl6] at DD
                    refine go T2_ok 200 rfl ?_
                    refine call rfl rfl rfl (ok _ (by decide) rfl) (DD) ?_
                    rintro v w7 ⟨q7, rfl⟩
                    refine go T2_ok 200 rfl ?_
                    repeat (first | (refine guardA (b := true) rfl rfl rfl rfl (fun _ => ?_) (fun e => by cases e); refine go T2_ok 200 rfl ?_) | (refine guardA (b := false) rfl rfl rfl rfl (fun e => by cases e) (fun _ => ?_); refine go T2_ok 200 rfl ?_) | (refine condT rfl rfl ?_; refine go T2_ok 200 rfl ?_) | (refine condF rfl rfl ?_; refine go T2_ok 200 rfl ?_))
                    refine condF rfl (by simp) ?_
                    refine go T2_ok 200 rfl ?_
                    rw [eb,←hsn]
                    exact round ⟨b + 1, rfl, ⟨(q13.trans q36).trans q7, by omega⟩, by omega⟩
        | false => skip
                   refine go T2_ok 200 rfl ?_
                   repeat (first | (refine guardA (b := true) rfl rfl rfl rfl (fun _ => ?_) (fun e => by cases e); refine go T2_ok 200 rfl ?_) | (refine guardA (b := false) rfl rfl rfl rfl (fun e => by cases e) (fun _ => ?_); refine go T2_ok 200 rfl ?_) | (refine condT rfl rfl ?_; refine go T2_ok 200 rfl ?_) | (refine condF rfl rfl ?_; refine go T2_ok 200 rfl ?_))
                   rw [hA]
                   repeat (first | (refine guardA (b := true) rfl rfl rfl rfl (fun _ => ?_) (fun e => by cases e); refine go T2_ok 200 rfl ?_) | (refine guardA (b := false) rfl rfl rfl rfl (fun e => by cases e) (fun _ => ?_); refine go T2_ok 200 rfl ?_) | (refine condT rfl rfl ?_; refine go T2_ok 200 rfl ?_) | (refine condF rfl rfl ?_; refine go T2_ok 200 rfl ?_))
                   try rw [hB]
                   repeat (first | (refine guardA (b := true) rfl rfl rfl rfl (fun _ => ?_) (fun e => by cases e); refine go T2_ok 200 rfl ?_) | (refine guardA (b := false) rfl rfl rfl rfl (fun e => by cases e) (fun _ => ?_); refine go T2_ok 200 rfl ?_) | (refine condT rfl rfl ?_; refine go T2_ok 200 rfl ?_) | (refine condF rfl rfl ?_; refine go T2_ok 200 rfl ?_))
                   have hsn : sumN g (b + 1) = sumN g b := by rw [sumN, hgb, hA, hB]; exact Int.add_zero _
                   refine remN rfl rfl rfl rfl (by omega) (by decide) ?_
                   refine go T2_ok 200 rfl ?_
                   refine guard rfl rfl rfl (fun p => ?_) (fun p => ?_)
                   · refine go T2_ok 200 rfl ?_
                     repeat (first | (refine guardA (b := true) rfl rfl rfl rfl (fun _ => ?_) (fun e => by cases e); refine go T2_ok 200 rfl ?_) | (refine guardA (b := false) rfl rfl rfl rfl (fun e => by cases e) (fun _ => ?_); refine go T2_ok 200 rfl ?_) | (refine condT rfl rfl ?_; refine go T2_ok 200 rfl ?_) | (refine condF rfl rfl ?_; refine go T2_ok 200 rfl ?_))
                     rw [eb,←hsn]
                     exact round ⟨b + 1, rfl, ⟨q13, by omega⟩, by omega⟩
                   · refine go T2_ok 200 rfl ?_
                     repeat (first | (refine guardA (b := true) rfl rfl rfl rfl (fun _ => ?_) (fun e => by cases e); refine go T2_ok 200 rfl ?_) | (refine guardA (b := false) rfl rfl rfl rfl (fun e => by cases e) (fun _ => ?_); refine go T2_ok 200 rfl ?_) | (refine condT rfl rfl ?_; refine go T2_ok 200 rfl ?_) | (refine condF rfl rfl ?_; refine go T2_ok 200 rfl ?_))
                     refine appS T2_ok rfl rfl rfl rfl rfl (own_nil (w1 := w3) (B' := w3.heap.size)) (news := boolVs (outN i b)) (S2i.no q3) (by simp [boolVs, Value.oneCell']) (by unfold maxLen; omega) (by omega) (Nat.le_refl _) ?_
                     intro A5 c5 w5 o5 q5 _
                     have q35 : Chg No w3 w5 := q5.mono (fun x _ e => by simp [Value.ownBlock] at e)
                     refine go T2_ok 200 rfl ?_
                     refine appS T2_ok rfl rfl rfl rfl rfl o5 (news := boolVs ls) (((hSl.no q13).no q35)) (by simp [boolVs, Value.oneCell']) (by unfold maxLen; omega) (by omega) q35.size ?_
                     intro A6 c6 w6 o6 q6 _
                     have q36 : Chg No w3 w6 := q35.step q6 (fun x hx e => by have := own_ge o5 e; omega)
                     have hl6 : (outN i b ++ ls).length = 0 + i + ls.length := by rw [List.length_append, hlen]; omega
                     have S6 : Sl w6 w6.heap.size 1 A6 (outN i b ++ ls).length (boolVs (outN i b ++ ls)) := by
                       have := own_sl o6
                       rw [hl6]
                       simpa [boolVs] using this
                     have DD := Decide_any (outN i b ++ ls) d lv lo hi A6 c6 _ w6 S6 (by omega)
                     have hE6 : decE (outN i b ++ ls).length d lv lo hi = 0 := by unfold decE decB; rw [listed_wrong, wrong_small (by omega) (by omega) (by rw [hl6]; omega), hl, (inB_iff (lo : Int) 0 ((hi : Int) - 1)).2 (by omega), decide_eq_true (show (hi : Int) ≤ d by omega)]; rfl
                     rw [hE6, if_pos rfl, if_pos rfl, Int.toNat_natCast, Int.toNat_natCast, Int.toNat_natCast, dec_stays hlb.1 (outN i b) ls (by omega) (by omega) (by rw [hv]; decide), hv, hl6] at DD
                     refine go T2_ok 200 rfl ?_
                     refine call rfl rfl rfl (ok _ (by decide) rfl) (DD) ?_
                     rintro v w7 ⟨q7, rfl⟩
                     refine go T2_ok 200 rfl ?_
                     repeat (first | (refine guardA (b := true) rfl rfl rfl rfl (fun _ => ?_) (fun e => by cases e); refine go T2_ok 200 rfl ?_) | (refine guardA (b := false) rfl rfl rfl rfl (fun e => by cases e) (fun _ => ?_); refine go T2_ok 200 rfl ?_) | (refine condT rfl rfl ?_; refine go T2_ok 200 rfl ?_) | (refine condF rfl rfl ?_; refine go T2_ok 200 rfl ?_))
                     refine condF rfl (by simp) ?_
                     refine go T2_ok 200 rfl ?_
                     rw [eb,←hsn]
                     exact round ⟨b + 1, rfl, ⟨(q13.trans q36).trans q7, by omega⟩, by omega⟩
    · rw [hv] at hgb ⊢
      cases hB : decide ((k : Int) ≤ lo) with
      | true =>
        cases hA : decide ((hi : Int) ≤ k) with
        | true => skip
                  refine go T2_ok 200 rfl ?_
                  repeat (first | (refine guardA (b := true) rfl rfl rfl rfl (fun _ => ?_) (fun e => by cases e); refine go T2_ok 200 rfl ?_) | (refine guardA (b := false) rfl rfl rfl rfl (fun e => by cases e) (fun _ => ?_); refine go T2_ok 200 rfl ?_) | (refine condT rfl rfl ?_; refine go T2_ok 200 rfl ?_) | (refine condF rfl rfl ?_; refine go T2_ok 200 rfl ?_))
                  rw [hA]
                  repeat (first | (refine guardA (b := true) rfl rfl rfl rfl (fun _ => ?_) (fun e => by cases e); refine go T2_ok 200 rfl ?_) | (refine guardA (b := false) rfl rfl rfl rfl (fun e => by cases e) (fun _ => ?_); refine go T2_ok 200 rfl ?_) | (refine condT rfl rfl ?_; refine go T2_ok 200 rfl ?_) | (refine condF rfl rfl ?_; refine go T2_ok 200 rfl ?_))
                  try rw [hB]
                  repeat (first | (refine guardA (b := true) rfl rfl rfl rfl (fun _ => ?_) (fun e => by cases e); refine go T2_ok 200 rfl ?_) | (refine guardA (b := false) rfl rfl rfl rfl (fun e => by cases e) (fun _ => ?_); refine go T2_ok 200 rfl ?_) | (refine condT rfl rfl ?_; refine go T2_ok 200 rfl ?_) | (refine condF rfl rfl ?_; refine go T2_ok 200 rfl ?_))
                  have hsn : sumN g (b + 1) = sumN g b + wtI d k (outN i b) := by rw [sumN, hgb, hA, hB]; rfl
                  have W := rWeight_any (outN i b) d k A2 c2 _ w3 (S2.no q3) (by omega)
                  rw [hlen] at W
                  refine call rfl rfl rfl (ok _ (by decide) rfl) (W) ?_
                  rintro v w4 ⟨rfl, rfl⟩
                  rw [wtw_eq (by omega) (by omega) (by omega) (outN i b) (by rw [hlen]; omega)]
                  refine go T2_ok 200 rfl ?_
                  have hs1 := hle (b + 1) (by omega)
                  have es : w64 (sumN g b + wtI d k (outN i b)) = sumN g (b + 1) := by rw [← hsn]; exact w64_id (by omega) (by omega)
                  rw [es]
                  refine remN rfl rfl rfl rfl (by omega) (by decide) ?_
                  refine go T2_ok 200 rfl ?_
                  refine guard rfl rfl rfl (fun p => ?_) (fun p => ?_)
                  · refine go T2_ok 200 rfl ?_
                    repeat (first | (refine guardA (b := true) rfl rfl rfl rfl (fun _ => ?_) (fun e => by cases e); refine go T2_ok 200 rfl ?_) | (refine guardA (b := false) rfl rfl rfl rfl (fun e => by cases e) (fun _ => ?_); refine go T2_ok 200 rfl ?_) | (refine condT rfl rfl ?_; refine go T2_ok 200 rfl ?_) | (refine condF rfl rfl ?_; refine go T2_ok 200 rfl ?_))
                    rw [eb]
                    exact round ⟨b + 1, rfl, ⟨q13, by omega⟩, by omega⟩
                  · refine go T2_ok 200 rfl ?_
                    repeat (first | (refine guardA (b := true) rfl rfl rfl rfl (fun _ => ?_) (fun e => by cases e); refine go T2_ok 200 rfl ?_) | (refine guardA (b := false) rfl rfl rfl rfl (fun e => by cases e) (fun _ => ?_); refine go T2_ok 200 rfl ?_) | (refine condT rfl rfl ?_; refine go T2_ok 200 rfl ?_) | (refine condF rfl rfl ?_; refine go T2_ok 200 rfl ?_))
                    refine appS T2_ok rfl rfl rfl rfl rfl (own_nil (w1 := w3) (B' := w3.heap.size)) (news := boolVs (outN i b)) (S2i.no q3) (by simp [boolVs, Value.oneCell']) (by unfold maxLen; omega) (by omega) (Nat.le_refl _) ?_
                    intro A5 c5 w5 o5 q5 _
                    have q35 : Chg No w3 w5 := q5.mono (fun x _ e => by simp [Value.ownBlock] at e)
                    refine go T2_ok 200 rfl ?_
                    refine appS T2_ok rfl rfl rfl rfl rfl o5 (news := boolVs ls) (((hSl.no q13).no q35)) (by simp [boolVs, Value.oneCell']) (by unfold maxLen; omega) (by omega) q35.size ?_
                    intro A6 c6 w6 o6 q6 _
                    have q36 : Chg No w3 w6 := q35.step q6 (fun x hx e => by have := own_ge o5 e; omega)
                    have hl6 : (outN i b ++ ls).length = 0 + i + ls.length := by rw [List.length_append, hlen]; omega
                    have S6 : Sl w6 w6.heap.size 1 A6 (outN i b ++ ls).length (boolVs (outN i b ++ ls)) := by
                      have := own_sl o6
                      rw [hl6]
                      simpa [boolVs] using this
                    have DD := Decide_any (outN i b ++ ls) d lv lo hi A6 c6 _ w6 S6 (by omega)
                    have hE6 : decE (outN i b ++ ls).length d lv lo hi = 0 := by unfold decE decB; rw [listed_wrong, wrong_small (by omega) (by omega) (by rw [hl6]; omega), hl, (inB_iff (lo : Int) 0 ((hi : Int) - 1)).2 (by omega), decide_eq_true (show (hi : Int) ≤ d by omega)]; rfl
                    rw [hE6, if_pos rfl, if_pos rfl, Int.toNat_natCast, Int.toNat_natCast, Int.toNat_natCast, dec_stays hlb.1 (outN i b) ls (by omega) (by omega) (by rw [hv]; decide), hv, hl6] at DD
                    refine go T2_ok 200 rfl ?_
                    refine call rfl rfl rfl (ok _ (by decide) rfl) (DD) ?_
                    rintro v w7 ⟨q7, rfl⟩
                    refine go T2_ok 200 rfl ?_
                    repeat (first | (refine guardA (b := true) rfl rfl rfl rfl (fun _ => ?_) (fun e => by cases e); refine go T2_ok 200 rfl ?_) | (refine guardA (b := false) rfl rfl rfl rfl (fun e => by cases e) (fun _ => ?_); refine go T2_ok 200 rfl ?_) | (refine condT rfl rfl ?_; refine go T2_ok 200 rfl ?_) | (refine condF rfl rfl ?_; refine go T2_ok 200 rfl ?_))
                    refine condF rfl (by simp) ?_
                    refine go T2_ok 200 rfl ?_
                    rw [eb]
                    exact round ⟨b + 1, rfl, ⟨(q13.trans q36).trans q7, by omega⟩, by omega⟩
        | false => skip
                   refine go T2_ok 200 rfl ?_
                   repeat (first | (refine guardA (b := true) rfl rfl rfl rfl (fun _ => ?_) (fun e => by cases e); refine go T2_ok 200 rfl ?_) | (refine guardA (b := false) rfl rfl rfl rfl (fun e => by cases e) (fun _ => ?_); refine go T2_ok 200 rfl ?_) | (refine condT rfl rfl ?_; refine go T2_ok 200 rfl ?_) | (refine condF rfl rfl ?_; refine go T2_ok 200 rfl ?_))
                   rw [hA]
                   repeat (first | (refine guardA (b := true) rfl rfl rfl rfl (fun _ => ?_) (fun e => by cases e); refine go T2_ok 200 rfl ?_) | (refine guardA (b := false) rfl rfl rfl rfl (fun e => by cases e) (fun _ => ?_); refine go T2_ok 200 rfl ?_) | (refine condT rfl rfl ?_; refine go T2_ok 200 rfl ?_) | (refine condF rfl rfl ?_; refine go T2_ok 200 rfl ?_))
                   try rw [hB]
                   repeat (first | (refine guardA (b := true) rfl rfl rfl rfl (fun _ => ?_) (fun e => by cases e); refine go T2_ok 200 rfl ?_) | (refine guardA (b := false) rfl rfl rfl rfl (fun e => by cases e) (fun _ => ?_); refine go T2_ok 200 rfl ?_) | (refine condT rfl rfl ?_; refine go T2_ok 200 rfl ?_) | (refine condF rfl rfl ?_; refine go T2_ok 200 rfl ?_))
                   have hsn : sumN g (b + 1) = sumN g b + wtI d k (outN i b) := by rw [sumN, hgb, hA, hB]; rfl
                   have W := rWeight_any (outN i b) d k A2 c2 _ w3 (S2.no q3) (by omega)
                   rw [hlen] at W
                   refine call rfl rfl rfl (ok _ (by decide) rfl) (W) ?_
                   rintro v w4 ⟨rfl, rfl⟩
                   rw [wtw_eq (by omega) (by omega) (by omega) (outN i b) (by rw [hlen]; omega)]
                   refine go T2_ok 200 rfl ?_
                   have hs1 := hle (b + 1) (by omega)
                   have es : w64 (sumN g b + wtI d k (outN i b)) = sumN g (b + 1) := by rw [← hsn]; exact w64_id (by omega) (by omega)
                   rw [es]
                   refine remN rfl rfl rfl rfl (by omega) (by decide) ?_
                   refine go T2_ok 200 rfl ?_
                   refine guard rfl rfl rfl (fun p => ?_) (fun p => ?_)
                   · refine go T2_ok 200 rfl ?_
                     repeat (first | (refine guardA (b := true) rfl rfl rfl rfl (fun _ => ?_) (fun e => by cases e); refine go T2_ok 200 rfl ?_) | (refine guardA (b := false) rfl rfl rfl rfl (fun e => by cases e) (fun _ => ?_); refine go T2_ok 200 rfl ?_) | (refine condT rfl rfl ?_; refine go T2_ok 200 rfl ?_) | (refine condF rfl rfl ?_; refine go T2_ok 200 rfl ?_))
                     rw [eb]
                     exact round ⟨b + 1, rfl, ⟨q13, by omega⟩, by omega⟩
                   · refine go T2_ok 200 rfl ?_
                     repeat (first | (refine guardA (b := true) rfl rfl rfl rfl (fun _ => ?_) (fun e => by cases e); refine go T2_ok 200 rfl ?_) | (refine guardA (b := false) rfl rfl rfl rfl (fun e => by cases e) (fun _ => ?_); refine go T2_ok 200 rfl ?_) | (refine condT rfl rfl ?_; refine go T2_ok 200 rfl ?_) | (refine condF rfl rfl ?_; refine go T2_ok 200 rfl ?_))
                     refine appS T2_ok rfl rfl rfl rfl rfl (own_nil (w1 := w3) (B' := w3.heap.size)) (news := boolVs (outN i b)) (S2i.no q3) (by simp [boolVs, Value.oneCell']) (by unfold maxLen; omega) (by omega) (Nat.le_refl _) ?_
                     intro A5 c5 w5 o5 q5 _
                     have q35 : Chg No w3 w5 := q5.mono (fun x _ e => by simp [Value.ownBlock] at e)
                     refine go T2_ok 200 rfl ?_
                     refine appS T2_ok rfl rfl rfl rfl rfl o5 (news := boolVs ls) (((hSl.no q13).no q35)) (by simp [boolVs, Value.oneCell']) (by unfold maxLen; omega) (by omega) q35.size ?_
                     intro A6 c6 w6 o6 q6 _
                     have q36 : Chg No w3 w6 := q35.step q6 (fun x hx e => by have := own_ge o5 e; omega)
                     have hl6 : (outN i b ++ ls).length = 0 + i + ls.length := by rw [List.length_append, hlen]; omega
                     have S6 : Sl w6 w6.heap.size 1 A6 (outN i b ++ ls).length (boolVs (outN i b ++ ls)) := by
                       have := own_sl o6
                       rw [hl6]
                       simpa [boolVs] using this
                     have DD := Decide_any (outN i b ++ ls) d lv lo hi A6 c6 _ w6 S6 (by omega)
                     have hE6 : decE (outN i b ++ ls).length d lv lo hi = 0 := by unfold decE decB; rw [listed_wrong, wrong_small (by omega) (by omega) (by rw [hl6]; omega), hl, (inB_iff (lo : Int) 0 ((hi : Int) - 1)).2 (by omega), decide_eq_true (show (hi : Int) ≤ d by omega)]; rfl
                     rw [hE6, if_pos rfl, if_pos rfl, Int.toNat_natCast, Int.toNat_natCast, Int.toNat_natCast, dec_stays hlb.1 (outN i b) ls (by omega) (by omega) (by rw [hv]; decide), hv, hl6] at DD
                     refine go T2_ok 200 rfl ?_
                     refine call rfl rfl rfl (ok _ (by decide) rfl) (DD) ?_
                     rintro v w7 ⟨q7, rfl⟩
                     refine go T2_ok 200 rfl ?_
                     repeat (first | (refine guardA (b := true) rfl rfl rfl rfl (fun _ => ?_) (fun e => by cases e); refine go T2_ok 200 rfl ?_) | (refine guardA (b := false) rfl rfl rfl rfl (fun e => by cases e) (fun _ => ?_); refine go T2_ok 200 rfl ?_) | (refine condT rfl rfl ?_; refine go T2_ok 200 rfl ?_) | (refine condF rfl rfl ?_; refine go T2_ok 200 rfl ?_))
                     refine condF rfl (by simp) ?_
                     refine go T2_ok 200 rfl ?_
                     rw [eb]
                     exact round ⟨b + 1, rfl, ⟨(q13.trans q36).trans q7, by omega⟩, by omega⟩
      | false =>
        cases hA : decide ((hi : Int) ≤ k) with
        | true => skip
                  refine go T2_ok 200 rfl ?_
                  repeat (first | (refine guardA (b := true) rfl rfl rfl rfl (fun _ => ?_) (fun e => by cases e); refine go T2_ok 200 rfl ?_) | (refine guardA (b := false) rfl rfl rfl rfl (fun e => by cases e) (fun _ => ?_); refine go T2_ok 200 rfl ?_) | (refine condT rfl rfl ?_; refine go T2_ok 200 rfl ?_) | (refine condF rfl rfl ?_; refine go T2_ok 200 rfl ?_))
                  rw [hA]
                  repeat (first | (refine guardA (b := true) rfl rfl rfl rfl (fun _ => ?_) (fun e => by cases e); refine go T2_ok 200 rfl ?_) | (refine guardA (b := false) rfl rfl rfl rfl (fun e => by cases e) (fun _ => ?_); refine go T2_ok 200 rfl ?_) | (refine condT rfl rfl ?_; refine go T2_ok 200 rfl ?_) | (refine condF rfl rfl ?_; refine go T2_ok 200 rfl ?_))
                  try rw [hB]
                  repeat (first | (refine guardA (b := true) rfl rfl rfl rfl (fun _ => ?_) (fun e => by cases e); refine go T2_ok 200 rfl ?_) | (refine guardA (b := false) rfl rfl rfl rfl (fun e => by cases e) (fun _ => ?_); refine go T2_ok 200 rfl ?_) | (refine condT rfl rfl ?_; refine go T2_ok 200 rfl ?_) | (refine condF rfl rfl ?_; refine go T2_ok 200 rfl ?_))
                  have hsn : sumN g (b + 1) = sumN g b := by rw [sumN, hgb, hA, hB]; exact Int.add_zero _
                  refine remN rfl rfl rfl rfl (by omega) (by decide) ?_
                  refine go T2_ok 200 rfl ?_
                  refine guard rfl rfl rfl (fun p => ?_) (fun p => ?_)
                  · refine go T2_ok 200 rfl ?_
                    repeat (first | (refine guardA (b := true) rfl rfl rfl rfl (fun _ => ?_) (fun e => by cases e); refine go T2_ok 200 rfl ?_) | (refine guardA (b := false) rfl rfl rfl rfl (fun e => by cases e) (fun _ => ?_); refine go T2_ok 200 rfl ?_) | (refine condT rfl rfl ?_; refine go T2_ok 200 rfl ?_) | (refine condF rfl rfl ?_; refine go T2_ok 200 rfl ?_))
                    rw [eb,←hsn]
                    exact round ⟨b + 1, rfl, ⟨q13, by omega⟩, by omega⟩
                  · refine go T2_ok 200 rfl ?_
                    repeat (first | (refine guardA (b := true) rfl rfl rfl rfl (fun _ => ?_) (fun e => by cases e); refine go T2_ok 200 rfl ?_) | (refine guardA (b := false) rfl rfl rfl rfl (fun e => by cases e) (fun _ => ?_); refine go T2_ok 200 rfl ?_) | (refine condT rfl rfl ?_; refine go T2_ok 200 rfl ?_) | (refine condF rfl rfl ?_; refine go T2_ok 200 rfl ?_))
                    refine appS T2_ok rfl rfl rfl rfl rfl (own_nil (w1 := w3) (B' := w3.heap.size)) (news := boolVs (outN i b)) (S2i.no q3) (by simp [boolVs, Value.oneCell']) (by unfold maxLen; omega) (by omega) (Nat.le_refl _) ?_
                    intro A5 c5 w5 o5 q5 _
                    have q35 : Chg No w3 w5 := q5.mono (fun x _ e => by simp [Value.ownBlock] at e)
                    refine go T2_ok 200 rfl ?_
                    refine appS T2_ok rfl rfl rfl rfl rfl o5 (news := boolVs ls) (((hSl.no q13).no q35)) (by simp [boolVs, Value.oneCell']) (by unfold maxLen; omega) (by omega) q35.size ?_
                    intro A6 c6 w6 o6 q6 _
                    have q36 : Chg No w3 w6 := q35.step q6 (fun x hx e => by have := own_ge o5 e; omega)
                    have hl6 : (outN i b ++ ls).length = 0 + i + ls.length := by rw [List.length_append, hlen]; omega
                    have S6 : Sl w6 w6.heap.size 1 A6 (outN i b ++ ls).length (boolVs (outN i b ++ ls)) := by
                      have := own_sl o6
                      rw [hl6]
                      simpa [boolVs] using this
                    have DD := Decide_any (outN i b ++ ls) d lv lo hi A6 c6 _ w6 S6 (by omega)
                    have hE6 : decE (outN i b ++ ls).length d lv lo hi = 0 := by unfold decE decB; rw [listed_wrong, wrong_small (by omega) (by omega) (by rw [hl6]; omega), hl, (inB_iff (lo : Int) 0 ((hi : Int) - 1)).2 (by omega), decide_eq_true (show (hi : Int) ≤ d by omega)]; rfl
                    rw [hE6, if_pos rfl, if_pos rfl, Int.toNat_natCast, Int.toNat_natCast, Int.toNat_natCast, dec_stays hlb.1 (outN i b) ls (by omega) (by omega) (by rw [hv]; decide), hv, hl6] at DD
                    refine go T2_ok 200 rfl ?_
                    refine call rfl rfl rfl (ok _ (by decide) rfl) (DD) ?_
                    rintro v w7 ⟨q7, rfl⟩
                    refine go T2_ok 200 rfl ?_
                    repeat (first | (refine guardA (b := true) rfl rfl rfl rfl (fun _ => ?_) (fun e => by cases e); refine go T2_ok 200 rfl ?_) | (refine guardA (b := false) rfl rfl rfl rfl (fun e => by cases e) (fun _ => ?_); refine go T2_ok 200 rfl ?_) | (refine condT rfl rfl ?_; refine go T2_ok 200 rfl ?_) | (refine condF rfl rfl ?_; refine go T2_ok 200 rfl ?_))
                    refine condF rfl (by simp) ?_
                    refine go T2_ok 200 rfl ?_
                    rw [eb,←hsn]
                    exact round ⟨b + 1, rfl, ⟨(q13.trans q36).trans q7, by omega⟩, by omega⟩
        | false => skip
                   refine go T2_ok 200 rfl ?_
                   repeat (first | (refine guardA (b := true) rfl rfl rfl rfl (fun _ => ?_) (fun e => by cases e); refine go T2_ok 200 rfl ?_) | (refine guardA (b := false) rfl rfl rfl rfl (fun e => by cases e) (fun _ => ?_); refine go T2_ok 200 rfl ?_) | (refine condT rfl rfl ?_; refine go T2_ok 200 rfl ?_) | (refine condF rfl rfl ?_; refine go T2_ok 200 rfl ?_))
                   rw [hA]
                   repeat (first | (refine guardA (b := true) rfl rfl rfl rfl (fun _ => ?_) (fun e => by cases e); refine go T2_ok 200 rfl ?_) | (refine guardA (b := false) rfl rfl rfl rfl (fun e => by cases e) (fun _ => ?_); refine go T2_ok 200 rfl ?_) | (refine condT rfl rfl ?_; refine go T2_ok 200 rfl ?_) | (refine condF rfl rfl ?_; refine go T2_ok 200 rfl ?_))
                   try rw [hB]
                   repeat (first | (refine guardA (b := true) rfl rfl rfl rfl (fun _ => ?_) (fun e => by cases e); refine go T2_ok 200 rfl ?_) | (refine guardA (b := false) rfl rfl rfl rfl (fun e => by cases e) (fun _ => ?_); refine go T2_ok 200 rfl ?_) | (refine condT rfl rfl ?_; refine go T2_ok 200 rfl ?_) | (refine condF rfl rfl ?_; refine go T2_ok 200 rfl ?_))
                   have hsn : sumN g (b + 1) = sumN g b := by rw [sumN, hgb, hA, hB]; exact Int.add_zero _
                   refine remN rfl rfl rfl rfl (by omega) (by decide) ?_
                   refine go T2_ok 200 rfl ?_
                   refine guard rfl rfl rfl (fun p => ?_) (fun p => ?_)
                   · refine go T2_ok 200 rfl ?_
                     repeat (first | (refine guardA (b := true) rfl rfl rfl rfl (fun _ => ?_) (fun e => by cases e); refine go T2_ok 200 rfl ?_) | (refine guardA (b := false) rfl rfl rfl rfl (fun e => by cases e) (fun _ => ?_); refine go T2_ok 200 rfl ?_) | (refine condT rfl rfl ?_; refine go T2_ok 200 rfl ?_) | (refine condF rfl rfl ?_; refine go T2_ok 200 rfl ?_))
                     rw [eb,←hsn]
                     exact round ⟨b + 1, rfl, ⟨q13, by omega⟩, by omega⟩
                   · refine go T2_ok 200 rfl ?_
                     repeat (first | (refine guardA (b := true) rfl rfl rfl rfl (fun _ => ?_) (fun e => by cases e); refine go T2_ok 200 rfl ?_) | (refine guardA (b := false) rfl rfl rfl rfl (fun e => by cases e) (fun _ => ?_); refine go T2_ok 200 rfl ?_) | (refine condT rfl rfl ?_; refine go T2_ok 200 rfl ?_) | (refine condF rfl rfl ?_; refine go T2_ok 200 rfl ?_))
                     refine appS T2_ok rfl rfl rfl rfl rfl (own_nil (w1 := w3) (B' := w3.heap.size)) (news := boolVs (outN i b)) (S2i.no q3) (by simp [boolVs, Value.oneCell']) (by unfold maxLen; omega) (by omega) (Nat.le_refl _) ?_
                     intro A5 c5 w5 o5 q5 _
                     have q35 : Chg No w3 w5 := q5.mono (fun x _ e => by simp [Value.ownBlock] at e)
                     refine go T2_ok 200 rfl ?_
                     refine appS T2_ok rfl rfl rfl rfl rfl o5 (news := boolVs ls) (((hSl.no q13).no q35)) (by simp [boolVs, Value.oneCell']) (by unfold maxLen; omega) (by omega) q35.size ?_
                     intro A6 c6 w6 o6 q6 _
                     have q36 : Chg No w3 w6 := q35.step q6 (fun x hx e => by have := own_ge o5 e; omega)
                     have hl6 : (outN i b ++ ls).length = 0 + i + ls.length := by rw [List.length_append, hlen]; omega
                     have S6 : Sl w6 w6.heap.size 1 A6 (outN i b ++ ls).length (boolVs (outN i b ++ ls)) := by
                       have := own_sl o6
                       rw [hl6]
                       simpa [boolVs] using this
                     have DD := Decide_any (outN i b ++ ls) d lv lo hi A6 c6 _ w6 S6 (by omega)
                     have hE6 : decE (outN i b ++ ls).length d lv lo hi = 0 := by unfold decE decB; rw [listed_wrong, wrong_small (by omega) (by omega) (by rw [hl6]; omega), hl, (inB_iff (lo : Int) 0 ((hi : Int) - 1)).2 (by omega), decide_eq_true (show (hi : Int) ≤ d by omega)]; rfl
                     rw [hE6, if_pos rfl, if_pos rfl, Int.toNat_natCast, Int.toNat_natCast, Int.toNat_natCast, dec_stays hlb.1 (outN i b) ls (by omega) (by omega) (by rw [hv]; decide), hv, hl6] at DD
                     refine go T2_ok 200 rfl ?_
                     refine call rfl rfl rfl (ok _ (by decide) rfl) (DD) ?_
                     rintro v w7 ⟨q7, rfl⟩
                     refine go T2_ok 200 rfl ?_
                     repeat (first | (refine guardA (b := true) rfl rfl rfl rfl (fun _ => ?_) (fun e => by cases e); refine go T2_ok 200 rfl ?_) | (refine guardA (b := false) rfl rfl rfl rfl (fun e => by cases e) (fun _ => ?_); refine go T2_ok 200 rfl ?_) | (refine condT rfl rfl ?_; refine go T2_ok 200 rfl ?_) | (refine condF rfl rfl ?_; refine go T2_ok 200 rfl ?_))
                     refine condF rfl (by simp) ?_
                     refine go T2_ok 200 rfl ?_
                     rw [eb,←hsn]
                     exact round ⟨b + 1, rfl, ⟨(q13.trans q36).trans q7, by omega⟩, by omega⟩
  have hbN : b = N := by omega
  subst hbN
  refine go T2_ok 200 rfl ?_
  refine quoN rfl rfl rfl rfl hall0 (by omega) (by omega) ?_
  refine go T2_ok 200 rfl ?_
  have hfin : sumN g b ≤ (d : Int) ^ i / lv := by
    rw [Int.le_ediv_iff_mul_le (by omega), Int.mul_comm]
    exact hsum
  refine guard (b := true) rfl rfl (congrArg Value.bool (decide_eq_true hfin)) (fun _ => ?_) (fun e => by cases e)
  refine go T2_ok 200 rfl ?_
  refine call rfl rfl rfl (ok _ (by decide) rfl) (known_any _) ?_
  rintro v wk ⟨rfl, qk⟩
  refine go T2_ok 200 rfl ?_
  exact ret (ret1 (v := .bool true) Try.results5 rfl ⟨rfl, (q1).trans qk⟩)
end Go.Proofs.Ytocolpbakaibnaa
