/- Contracts of the specification's All and Tail; plain laws of tails. -/
import Derived.Test.YtocolpbakaibnaaP5
import Derived.Test.YtocolpbakaibnaaE1
namespace Go.Proofs.Ytocolpbakaibnaa
open Go.Ev Go.Proofs Go.Cnt
theorem allN_pow {D : Int} (hD : 2 ≤ D) : ∀ (m : Nat) {o r : Int}, 1 ≤ o → o ≤ 1152921504606846976 → allN D o m = some r → r = o * D ^ m ∧ r ≤ 1152921504606846976 := by
  intro m
  induction m with
  | zero => intro o r h0 h1 h; simp only [allN, Option.some.injEq] at h; subst h; simp [h1]
  | succ m ih =>
    intro o r h0 h1 h
    rw [allN] at h
    split at h
    · cases h
    · rename_i hc
      have hb := allN_bd hD h0 h1 hc
      obtain ⟨h2, h3⟩ := ih hb.1 hb.2 h
      refine ⟨?_, h3⟩
      rw [h2, Int.pow_succ, Int.mul_assoc, Int.mul_comm D]
/-- the weights of all outcomes with at least so many hits -/
def tailT (D k : Int) (n : Nat) (h : Int) : Int := tot n fun x => if h ≤ (hitsL x : Int) then wtI D k x else 0
theorem hitsL_app (x : List Bool) (b : Bool) : hitsL (x ++ [b]) = hitsL x + if b then 1 else 0 := by
  unfold hitsL
  rw [List.countP_append]
  cases b <;> rfl
theorem tailT_succ {D k : Int} (n : Nat) (h : Int) : tailT D k (n + 1) h = (D - k) * tailT D k n h + k * tailT D k n (h - 1) := by
  unfold tailT
  rw [tot_succ, ← tot_mul, ← tot_mul, ← tot_add]
  refine tot_congr fun x _ => ?_
  rw [wtI_app, wtI_app, hitsL_app, hitsL_app]
  simp only [Bool.false_eq_true, if_false, if_true, Nat.add_zero]
  congr 1
  · split
    · rw [Int.mul_comm]
    · rw [Int.mul_zero]
  · by_cases hc : h - 1 ≤ (hitsL x : Int)
    · rw [if_pos hc, if_pos (by omega), Int.mul_comm]
    · rw [if_neg hc, if_neg (by omega), Int.mul_zero]
theorem tailT_less {D k : Int} (hk0 : 0 ≤ k) (hk1 : k ≤ D) (n : Nat) (h : Int) : tailT D k n h ≤ tailT D k n (h - 1) := by
  refine tot_le fun x _ => ?_
  have hw := (wtI_bd hk0 hk1 x).1
  split
  · rw [if_pos (by omega)]; exact Int.le_refl _
  · split <;> omega
/-- a greater rate never makes it lighter -/
theorem tailT_mono {D k : Int} (hk0 : 0 ≤ k) (hk1 : k + 1 ≤ D) : ∀ (n : Nat) (h : Int), tailT D k n h ≤ tailT D (k + 1) n h := by
  intro n
  induction n with
  | zero => intro h; exact Int.le_refl _
  | succ n ih =>
    intro h
    rw [tailT_succ, tailT_succ]
    have h1 := Int.mul_le_mul_of_nonneg_left (ih h) (show 0 ≤ D - k by omega)
    have h2 := Int.mul_le_mul_of_nonneg_left (ih (h - 1)) hk0
    have h3 := tailT_less (D := D) (k := k + 1) (by omega) hk1 n h
    have e1 : (D - (k + 1)) * tailT D (k + 1) n h = (D - k) * tailT D (k + 1) n h - tailT D (k + 1) n h := by
      rw [show D - (k + 1) = (D - k) - 1 by omega, Int.sub_mul, Int.one_mul]
    have e2 : (k + 1) * tailT D (k + 1) n (h - 1) = k * tailT D (k + 1) n (h - 1) + tailT D (k + 1) n (h - 1) := by rw [Int.add_mul, Int.one_mul]
    omega
/-- a sum that the machine reckons without a wrap -/
theorem sumW {g : Nat → Int} {N : Nat} {X : Int} (hX : X ≤ 4611686018427387904) (hg0 : ∀ b, 0 ≤ g b) (hs : sumN g N ≤ X) {b : Nat} (hb : b < N) : w64 (sumN g b + g b) = sumN g (b + 1) := by
  have h1 := sumN_mono hg0 (show b + 1 ≤ N by omega)
  have h2 := sumN_nonneg hg0 (b + 1)
  show w64 (sumN g (b + 1)) = sumN g (b + 1)
  exact w64_id (by omega) (by omega)
theorem tailF_sum {D k h : Int} (hk0 : 0 ≤ k) (hk1 : k ≤ D) (hD : 1 ≤ D) (n : Nat) (hb : D ^ n ≤ 4611686018427387904) : ∀ m, m ≤ 2 ^ n → tailF D k h (outsN n m) = sumN (fun b => if h ≤ (hitsL (outN n b) : Int) then wtI D k (outN n b) else 0) m := by
  have hg0 : ∀ b, 0 ≤ (fun b => if h ≤ (hitsL (outN n b) : Int) then wtI D k (outN n b) else 0) b := fun b => by
    dsimp only
    split
    · exact (wtI_bd hk0 hk1 _).1
    · exact Int.le_refl _
  have hs : sumN (fun b => if h ≤ (hitsL (outN n b) : Int) then wtI D k (outN n b) else 0) (2 ^ n) ≤ D ^ n := by
    rw [← tot_wt (D := D) (k := k) n]
    refine sumN_le fun b _ => ?_
    have := (wtI_bd hk0 hk1 (outN n b)).1
    show (if h ≤ (hitsL (outN n b) : Int) then wtI D k (outN n b) else 0) ≤ wtI D k (outN n b)
    split <;> omega
  intro m
  induction m with
  | zero => intro _; rfl
  | succ m ih =>
    intro hm
    rw [outsN_succ, tailF_snoc, ih (by omega), ← sumW hb hg0 hs (show m < 2 ^ n by omega), wtw_eq hk0 hk1 hD (outN n m) (by rw [outN_len]; exact hb)]
    split
    · rfl
    · rw [Int.add_zero]
      have h1 := sumN_mono hg0 (show m ≤ 2 ^ n by omega)
      have h2 := sumN_nonneg hg0 m
      exact (w64_id (by omega) (by omega)).symm
theorem tailF_tailT {D k h : Int} (hk0 : 0 ≤ k) (hk1 : k ≤ D) (hD : 1 ≤ D) (n : Nat) (hb : D ^ n ≤ 4611686018427387904) : tailF D k h (outsN n (2 ^ n)) = tailT D k n h := tailF_sum hk0 hk1 hD n hb _ (Nat.le_refl _)
attribute [local irreducible] At AtH
theorem rAll_all (s D : Int) (w : World) (hD : 2 ≤ D) (hs0 : 0 ≤ s) : Ret Try.prog 26 [.int .i64 s, .int .i64 D] w fun v w' =>
    v = (if s ≤ 12 then match allN D 1 s.toNat with | some n => .tuple #[.int .i64 n, .bool true] | none => .tuple #[.int .i64 0, .bool false] else .tuple #[.int .i64 0, .bool false]) ∧ w = w' := by
  obtain ⟨s, rfl⟩ : ∃ k : Nat, s = k := ⟨s.toNat, by omega⟩
  refine enter Try.func26 rfl Try.ntmps26 rfl ?_
  refine go T_ok 100 rfl ?_
  refine loop [0, 1, 6, 7] (fun x : Nat × Int => [.int .i64 s, .int .i64 D, .int .i64 x.2, .int .i64 (x.1 : Int)])
    (fun x w' => w = w' ∧ x.1 ≤ s ∧ x.1 ≤ 12 ∧ 1 ≤ x.2 ∧ x.2 ≤ 1152921504606846976 ∧ allN D 1 s = allN D x.2 (s - x.1)) (fun x => s - x.1) (0, 1) (fun _ => rfl) rfl ⟨rfl, by simp, by simp, by simp, by simp, by simp⟩ ?_
  rintro ⟨i, out⟩ τ w' ⟨rfl, hi, hi2, h1, h2, h3⟩
  simp only at hi hi2 h1 h2 h3
  dsimp only
  refine go T_ok 100 rfl ?_
  refine condD rfl (fun hlt => ?_) (fun hlt => ?_)
  · have hlt : i < s := by omega
    rw [show s - i = (s - (i + 1)) + 1 by omega, allN] at h3
    refine go T_ok 100 rfl ?_
    refine guardD rfl rfl rfl (fun h4 => ?_) (fun h4 => ?_)
    · refine go T_ok 100 rfl ?_
      refine ret (ret2 (v := .int .i64 _) (x := .bool _) Try.results26 rfl rfl ⟨?_, rfl⟩)
      rw [if_neg (by omega)]
    · refine go T_ok 100 rfl ?_
      refine quoN rfl rfl rfl rfl (by omega) (by omega) (by omega) ?_
      refine go T_ok 100 rfl ?_
      refine condD rfl (fun h5 => ?_) (fun h5 => ?_)
      · refine go T_ok 100 rfl ?_
        refine ret (ret2 (v := .int .i64 _) (x := .bool _) Try.results26 rfl rfl ⟨?_, rfl⟩)
        rw [if_pos h5] at h3
        rw [Int.toNat_natCast, h3]
        split <;> rfl
      · have hb := allN_bd hD h1 h2 h5
        rw [if_neg h5] at h3
        have e1 : w64 (out * D) = out * D := w64_id (by omega) (by omega)
        have ei : w64 ((i : Int) + 1) = ((i + 1 : Nat) : Int) := w64_id (by omega) (by omega)
        refine go T_ok 100 rfl ?_
        rw [e1, ei]
        exact round ⟨(i + 1, out * D), rfl, ⟨rfl, by simp only; omega, by simp only; omega, hb.1, hb.2, h3⟩, by simp only; omega⟩
  · refine go T_ok 100 rfl ?_
    refine ret (ret2 (v := .int .i64 _) (x := .bool _) Try.results26 rfl rfl ⟨?_, rfl⟩)
    rw [show s - i = 0 by omega] at h3
    rw [if_pos (by omega), Int.toNat_natCast, h3]
    rfl
theorem rTail_any (n d k : Nat) (h : Int) (w : World) (hn : n ≤ 12) : Ret Try.prog 27 [.int .i64 n, .int .i64 d, .int .i64 k, .int .i64 h] w fun v w' => v = .int .i64 (tailF d k h (outsN n (2 ^ n))) ∧ Chg No w w' := by
  obtain ⟨N, hN⟩ : ∃ N, 2 ^ n = N := ⟨_, rfl⟩
  have hN9 : 2 ^ n ≤ 2 ^ 12 := Nat.pow_le_pow_right (by omega) (by omega)
  have hp' : ((2 : Int) ^ n) = (N : Int) := by rw [← hN]; simp
  rw [hN]
  refine enter Try.func27 rfl Try.ntmps27 rfl ?_
  refine go T_ok 100 rfl ?_
  refine loop [0, 1, 2, 3, 9, 10] (fun b : Nat => [.int .i64 n, .int .i64 d, .int .i64 k, .int .i64 h, .int .i64 (tailF d k h (outsN n b)), .int .i64 (b : Int)])
    (fun b w' => Chg No w w' ∧ b ≤ N) (fun b => N - b) 0 (fun _ => rfl) rfl ⟨Chg.refl _ _, by omega⟩ ?_
  rintro b τ w1 ⟨q1, hb⟩
  refine go T_ok 100 rfl ?_
  refine shl rfl rfl rfl rfl n rfl (by omega) ?_
  have ep : w64 (1 * 2 ^ n) = (N : Int) := by rw [Int.one_mul, hp']; exact w64_id (by omega) (by omega)
  rw [ep]
  refine go T_ok 100 rfl ?_
  refine condD rfl (fun hlt => ?_) (fun hlt => ?_)
  · have hlt : b < N := by omega
    have eb : w64 ((b : Int) + 1) = ((b + 1 : Nat) : Int) := w64_id (by omega) (by omega)
    have es := tailF_snoc d k h (outsN n b) (outN n b)
    rw [← outsN_succ] at es
    have hlen := outN_len n b
    refine go T_ok 100 rfl ?_
    refine call rfl rfl rfl (ok _ (by decide) rfl) (Outcome_any n b w1 (by omega) (by omega)) ?_
    rintro v w2 ⟨A2, c2, rfl, q2, o2⟩
    refine go T_ok 100 rfl ?_
    have S2 : Sl w2 w2.heap.size 1 A2 (outN n b).length (boolVs (outN n b)) := by rw [hlen]; exact own_sl o2
    have H := Hits_any (outN n b) A2 c2 _ w2 S2 (by omega)
    rw [hlen] at H
    refine call rfl rfl rfl (ok _ (by decide) rfl) H ?_
    rintro v w3 ⟨rfl, rfl⟩
    refine go T_ok 100 rfl ?_
    refine condD rfl (fun hc => ?_) (fun hc => ?_)
    · rw [if_pos hc] at es
      refine go T_ok 100 rfl ?_
      have W := rWeight_any (outN n b) d k A2 c2 _ w2 S2 (by omega)
      rw [hlen] at W
      refine call rfl rfl rfl (ok _ (by decide) rfl) W ?_
      rintro v w3 ⟨rfl, rfl⟩
      refine go T_ok 100 rfl ?_
      rw [← es, eb]
      exact round ⟨b + 1, rfl, ⟨q1.trans q2, by omega⟩, by omega⟩
    · rw [if_neg hc] at es
      refine go T_ok 100 rfl ?_
      rw [← es, eb]
      exact round ⟨b + 1, rfl, ⟨q1.trans q2, by omega⟩, by omega⟩
  · have : b = N := by omega
    subst this
    refine go T_ok 100 rfl ?_
    exact ret (ret1 (v := .int .i64 _) Try.results27 rfl ⟨rfl, q1⟩)
end Go.Proofs.Ytocolpbakaibnaa
