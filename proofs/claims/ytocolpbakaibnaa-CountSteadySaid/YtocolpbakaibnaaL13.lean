/- The walk of CountSteady. -/
import Derived.Test.YtocolpbakaibnaaP7
import Derived.Test.YtocolpbakaibnaaE1
namespace Go.Proofs.Ytocolpbakaibnaa
open Go.Ev Go.Proofs Go.Cnt
attribute [local irreducible] At AtH

set_option maxRecDepth 20000 in
set_option maxHeartbeats 4000000 in
theorem walk_CountSteady (s D lv k : Int) (w : World) (_hs : -9223372036854775808 ≤ s ∧ s ≤ 9223372036854775807) (_hD : -9223372036854775808 ≤ D ∧ D ≤ 9223372036854775807) (_hlv : -9223372036854775808 ≤ lv ∧ lv ≤ 9223372036854775807) (_hk : -9223372036854775808 ≤ k ∧ k ≤ 9223372036854775807) :
    Ret Try.prog 13 [.int .i64 s, .int .i64 D, .int .i64 lv, .int .i64 k] w fun v w' => v = .bool true ∧ Chg No w w' := by
  refine enter Try.func13 rfl Try.ntmps13 rfl ?_
  refine go T2_ok 200 rfl ?_
  refine guardD rfl rfl rfl (fun p => ?_) (fun hs0 => ?_)
  · refine go T2_ok 200 rfl ?_
    repeat (first | (refine guardA (b := true) rfl rfl rfl rfl (fun _ => ?_) (fun e => by cases e); refine go T2_ok 200 rfl ?_) | (refine guardA (b := false) rfl rfl rfl rfl (fun e => by cases e) (fun _ => ?_); refine go T2_ok 200 rfl ?_) | (refine condT rfl rfl ?_; refine go T2_ok 200 rfl ?_) | (refine condF rfl rfl ?_; refine go T2_ok 200 rfl ?_))
    refine call rfl rfl rfl (ok _ (by decide) rfl) (known_any _) ?_
    rintro v wk ⟨rfl, qk⟩
    refine go T2_ok 200 rfl ?_
    exact ret (ret1 (v := .bool true) Try.results13 rfl ⟨rfl, qk⟩)
  refine go T2_ok 200 rfl ?_
  refine guardD rfl rfl rfl (fun p => ?_) (fun hs1 => ?_)
  · refine go T2_ok 200 rfl ?_
    repeat (first | (refine guardA (b := true) rfl rfl rfl rfl (fun _ => ?_) (fun e => by cases e); refine go T2_ok 200 rfl ?_) | (refine guardA (b := false) rfl rfl rfl rfl (fun e => by cases e) (fun _ => ?_); refine go T2_ok 200 rfl ?_) | (refine condT rfl rfl ?_; refine go T2_ok 200 rfl ?_) | (refine condF rfl rfl ?_; refine go T2_ok 200 rfl ?_))
    refine call rfl rfl rfl (ok _ (by decide) rfl) (known_any _) ?_
    rintro v wk ⟨rfl, qk⟩
    refine go T2_ok 200 rfl ?_
    exact ret (ret1 (v := .bool true) Try.results13 rfl ⟨rfl, qk⟩)
  refine go T2_ok 200 rfl ?_
  refine guardD rfl rfl rfl (fun p => ?_) (fun hd0 => ?_)
  · refine go T2_ok 200 rfl ?_
    repeat (first | (refine guardA (b := true) rfl rfl rfl rfl (fun _ => ?_) (fun e => by cases e); refine go T2_ok 200 rfl ?_) | (refine guardA (b := false) rfl rfl rfl rfl (fun e => by cases e) (fun _ => ?_); refine go T2_ok 200 rfl ?_) | (refine condT rfl rfl ?_; refine go T2_ok 200 rfl ?_) | (refine condF rfl rfl ?_; refine go T2_ok 200 rfl ?_))
    refine call rfl rfl rfl (ok _ (by decide) rfl) (known_any _) ?_
    rintro v wk ⟨rfl, qk⟩
    refine go T2_ok 200 rfl ?_
    exact ret (ret1 (v := .bool true) Try.results13 rfl ⟨rfl, qk⟩)
  refine go T2_ok 200 rfl ?_
  refine guardD rfl rfl rfl (fun p => ?_) (fun hd1 => ?_)
  · refine go T2_ok 200 rfl ?_
    repeat (first | (refine guardA (b := true) rfl rfl rfl rfl (fun _ => ?_) (fun e => by cases e); refine go T2_ok 200 rfl ?_) | (refine guardA (b := false) rfl rfl rfl rfl (fun e => by cases e) (fun _ => ?_); refine go T2_ok 200 rfl ?_) | (refine condT rfl rfl ?_; refine go T2_ok 200 rfl ?_) | (refine condF rfl rfl ?_; refine go T2_ok 200 rfl ?_))
    refine call rfl rfl rfl (ok _ (by decide) rfl) (known_any _) ?_
    rintro v wk ⟨rfl, qk⟩
    refine go T2_ok 200 rfl ?_
    exact ret (ret1 (v := .bool true) Try.results13 rfl ⟨rfl, qk⟩)
  refine go T2_ok 200 rfl ?_
  refine call rfl rfl rfl (ok _ (by decide) rfl) (level_any lv 100 w) ?_
  rintro v w0 ⟨rfl, rfl⟩
  refine go T2_ok 200 rfl ?_
  refine guardN rfl rfl rfl (fun p => ?_) (fun hl => ?_)
  · refine go T2_ok 200 rfl ?_
    repeat (first | (refine guardA (b := true) rfl rfl rfl rfl (fun _ => ?_) (fun e => by cases e); refine go T2_ok 200 rfl ?_) | (refine guardA (b := false) rfl rfl rfl rfl (fun e => by cases e) (fun _ => ?_); refine go T2_ok 200 rfl ?_) | (refine condT rfl rfl ?_; refine go T2_ok 200 rfl ?_) | (refine condF rfl rfl ?_; refine go T2_ok 200 rfl ?_))
    refine call rfl rfl rfl (ok _ (by decide) rfl) (known_any _) ?_
    rintro v wk ⟨rfl, qk⟩
    refine go T2_ok 200 rfl ?_
    exact ret (ret1 (v := .bool true) Try.results13 rfl ⟨rfl, qk⟩)
  refine go T2_ok 200 rfl ?_
  refine guardD rfl rfl rfl (fun p => ?_) (fun hk0 => ?_)
  · refine go T2_ok 200 rfl ?_
    repeat (first | (refine guardA (b := true) rfl rfl rfl rfl (fun _ => ?_) (fun e => by cases e); refine go T2_ok 200 rfl ?_) | (refine guardA (b := false) rfl rfl rfl rfl (fun e => by cases e) (fun _ => ?_); refine go T2_ok 200 rfl ?_) | (refine condT rfl rfl ?_; refine go T2_ok 200 rfl ?_) | (refine condF rfl rfl ?_; refine go T2_ok 200 rfl ?_))
    refine call rfl rfl rfl (ok _ (by decide) rfl) (known_any _) ?_
    rintro v wk ⟨rfl, qk⟩
    refine go T2_ok 200 rfl ?_
    exact ret (ret1 (v := .bool true) Try.results13 rfl ⟨rfl, qk⟩)
  refine go T2_ok 200 rfl ?_
  refine condD rfl (fun p => ?_) (fun hk1 => ?_)
  · refine go T2_ok 200 rfl ?_
    refine call rfl rfl rfl (ok _ (by decide) rfl) (known_any _) ?_
    rintro v wk ⟨rfl, qk⟩
    refine go T2_ok 200 rfl ?_
    exact ret (ret1 (v := .bool true) Try.results13 rfl ⟨rfl, qk⟩)
  obtain ⟨d, rfl⟩ : ∃ d : Nat, D = d := ⟨D.toNat, by omega⟩
  obtain ⟨n, rfl⟩ : ∃ n : Nat, s = n := ⟨s.toNat, by omega⟩
  have hlb := (inB_iff _ _ _).1 hl
  have hd40 : ∀ i : Nat, i ≤ 9 → (d : Int) ^ i ≤ 262144000000000 := fun i hi => pow_40 (by omega) hi
  have hp0 : ∀ i : Nat, 0 ≤ (d : Int) ^ i := fun i => Int.pow_nonneg (by omega)
  refine go T2_ok 200 rfl ?_
  refine loop [0, 1, 2, 3, 9, 10] (fun i : Nat => [.int .i64 n, .int .i64 d, .int .i64 lv, .int .i64 k, .int .i64 ((d : Int) ^ i), .int .i64 (i : Int)])
    (fun i w' => w = w' ∧ i ≤ n) (fun i => n - i) 0 (fun _ => rfl) rfl ⟨rfl, by omega⟩ ?_
  rintro i τ w' ⟨rfl, hi⟩
  refine go T2_ok 200 rfl ?_
  refine condD rfl (fun hlt => ?_) (fun hlt => ?_)
  · have hlt : i < n := by omega
    have e1 : w64 ((d : Int) ^ i * d) = (d : Int) ^ (i + 1) := by rw [show (d : Int) ^ i * d = (d : Int) ^ (i + 1) from (Int.pow_succ _ _).symm]; exact w64_id (by have := hp0 (i + 1); omega) (by have := hd40 (i + 1) (by omega); omega)
    have ei : w64 ((i : Int) + 1) = ((i + 1 : Nat) : Int) := w64_id (by omega) (by omega)
    refine go T2_ok 200 rfl ?_
    rw [e1, ei]
    exact round ⟨i + 1, rfl, ⟨rfl, by omega⟩, by omega⟩
  have hin : i = n := by omega
  subst hin
  obtain ⟨N, hN⟩ : ∃ N, 2 ^ i = N := ⟨_, rfl⟩
  have hN9 : 2 ^ i ≤ 2 ^ 9 := Nat.pow_le_pow_right (by omega) (by omega)
  have hp' : ((2 : Int) ^ i) = (N : Int) := by rw [← hN]; simp
  obtain ⟨g, hg⟩ : ∃ g : Nat → Int, g = fun b => if (chgN d lv (outN i b) 0 (outN i b).length).isSome then wtI d k (outN i b) else 0 := ⟨_, rfl⟩
  have hg0 : ∀ b, 0 ≤ g b := fun b => by
    rw [hg]
    show 0 ≤ if (chgN d lv (outN i b) 0 (outN i b).length).isSome then wtI d k (outN i b) else 0
    split
    · exact (wtI_bd (by omega) (by omega) _).1
    · exact Int.le_refl _
  have hsum : lv * sumN g N ≤ (d : Int) ^ i := by
    obtain ⟨k', rfl⟩ : ∃ k' : Nat, k = k' := ⟨k.toNat, by omega⟩
    have := steady (D := d) (lv := lv) (by omega) k' (by omega) i (by omega)
    unfold tot at this
    rw [hN] at this
    rw [hg]
    exact this
  have hle : ∀ b, b ≤ N → 0 ≤ sumN g b ∧ sumN g b ≤ (d : Int) ^ i := fun b hb => by
    have h1 := sumN_mono hg0 hb
    have h2 := sumN_nonneg hg0 b
    have h3 := sumN_nonneg hg0 N
    have h4 : 1 * sumN g N ≤ lv * sumN g N := Int.mul_le_mul_of_nonneg_right (by omega) h3
    omega
  have hall := hd40 i (by omega)
  have hall0 := hp0 i
  refine go T2_ok 200 rfl ?_
  refine loop [0, 1, 2, 3, 9, 11, 12] (fun b : Nat => [.int .i64 i, .int .i64 d, .int .i64 lv, .int .i64 k, .int .i64 ((d : Int) ^ i), .int .i64 (sumN g b), .int .i64 (b : Int)])
    (fun b w' => Chg No w w' ∧ b ≤ N) (fun b => N - b) 0 (fun _ => rfl) rfl ⟨Chg.refl _ _, by omega⟩ ?_
  rintro b τ w1 ⟨q1, hb⟩
  refine go T2_ok 200 rfl ?_
  refine shl rfl rfl rfl rfl i rfl (by omega) ?_
  have ep : w64 (1 * 2 ^ i) = (N : Int) := by rw [Int.one_mul, hp']; exact w64_id (by omega) (by omega)
  rw [ep]
  refine go T2_ok 200 rfl ?_
  refine condD rfl (fun hlt => ?_) (fun hlt => ?_)
  · have hlt : b < N := by omega
    have eb : w64 ((b : Int) + 1) = ((b + 1 : Nat) : Int) := w64_id (by omega) (by omega)
    refine go T2_ok 200 rfl ?_
    refine call rfl rfl rfl (ok _ (by decide) rfl) (Outcome_any i b w1 (by omega) (by omega)) ?_
    rintro v w2 ⟨A2, c2, rfl, q2, o2⟩
    refine go T2_ok 200 rfl ?_
    have hlen := outN_len i b
    have S2 : Sl w2 w2.heap.size 1 A2 (outN i b).length (boolVs (outN i b)) := by rw [hlen]; exact own_sl o2
    have hE : chgE (outN i b).length d lv = 0 := by unfold chgE; rw [listed_wrong, wrong_small (by omega) (by omega) (by omega), hl]; rfl
    have K := Change_any (outN i b) d lv A2 c2 _ w2 S2
    rw [hE, if_pos rfl, Int.toNat_natCast] at K
    have hsn : sumN g (b + 1) = sumN g b + if (chgN d lv (outN i b) 0 (outN i b).length).isSome then wtI d k (outN i b) else 0 := by rw [sumN, hg]
    cases hc : chgN d lv (outN i b) 0 (outN i b).length with
    | some r =>
      obtain ⟨r1, r2⟩ := r
      rw [hc] at hsn K
      rw [hlen] at K
      simp only [Option.isSome_some, if_true] at hsn
      refine call rfl rfl rfl (ok _ (by decide) rfl) (K) ?_
      rintro v w3 ⟨q3, rfl⟩
      have q13 : Chg No w w3 := (q1.trans q2).trans q3
      refine go T2_ok 200 rfl ?_
      repeat (first | (refine guardA (b := true) rfl rfl rfl rfl (fun _ => ?_) (fun e => by cases e); refine go T2_ok 200 rfl ?_) | (refine guardA (b := false) rfl rfl rfl rfl (fun e => by cases e) (fun _ => ?_); refine go T2_ok 200 rfl ?_) | (refine condT rfl rfl ?_; refine go T2_ok 200 rfl ?_) | (refine condF rfl rfl ?_; refine go T2_ok 200 rfl ?_))
      have W := rWeight_any (outN i b) d k A2 c2 _ w3 (S2.no q3) (by omega)
      rw [hlen] at W
      refine call rfl rfl rfl (ok _ (by decide) rfl) (W) ?_
      rintro v w4 ⟨rfl, rfl⟩
      rw [wtw_eq (by omega) (by omega) (by omega) (outN i b) (by rw [hlen]; omega)]
      refine go T2_ok 200 rfl ?_
      have hs1 := hle (b + 1) (by omega)
      have es : w64 (sumN g b + wtI d k (outN i b)) = sumN g (b + 1) := by rw [← hsn]; exact w64_id (by omega) (by omega)
      rw [es, eb]
      exact round ⟨b + 1, rfl, ⟨q13, by omega⟩, by omega⟩
    | none =>
      rw [hc] at hsn K
      rw [hlen] at K
      simp only [Option.isSome_none, Bool.false_eq_true, if_false, Int.add_zero] at hsn
      refine call rfl rfl rfl (ok _ (by decide) rfl) (K) ?_
      rintro v w3 ⟨q3, rfl⟩
      have q13 : Chg No w w3 := (q1.trans q2).trans q3
      refine go T2_ok 200 rfl ?_
      repeat (first | (refine guardA (b := true) rfl rfl rfl rfl (fun _ => ?_) (fun e => by cases e); refine go T2_ok 200 rfl ?_) | (refine guardA (b := false) rfl rfl rfl rfl (fun e => by cases e) (fun _ => ?_); refine go T2_ok 200 rfl ?_) | (refine condT rfl rfl ?_; refine go T2_ok 200 rfl ?_) | (refine condF rfl rfl ?_; refine go T2_ok 200 rfl ?_))
      rw [← hsn, eb]
      exact round ⟨b + 1, rfl, ⟨q13, by omega⟩, by omega⟩
  have hbN : b = N := by omega
  subst hbN
  refine go T2_ok 200 rfl ?_
  refine quoN rfl rfl rfl rfl hall0 (by omega) (by omega) ?_
  refine go T2_ok 200 rfl ?_
  have hfin : sumN g b ≤ (d : Int) ^ i / lv := by
    rw [Int.le_ediv_iff_mul_le (by omega), Int.mul_comm]
    exact hsum
  refine guard (b := true) rfl rfl (congrArg Value.bool (decide_eq_true hfin)) (fun _ => ?_) (fun e => by cases e)
  refine go T2_ok 200 rfl ?_
  refine call rfl rfl rfl (ok _ (by decide) rfl) (known_any _) ?_
  rintro v wk ⟨rfl, qk⟩
  refine go T2_ok 200 rfl ?_
  exact ret (ret1 (v := .bool true) Try.results13 rfl ⟨rfl, (q1).trans qk⟩)
end Go.Proofs.Ytocolpbakaibnaa
