/- Plain laws: the theorem of verdicts. -/
import Derived.Test.YtocolpbakaibnaaP5
namespace Go.Proofs.Ytocolpbakaibnaa
open Go.Cnt Go.Ev
theorem allFrom_out {S : Nat → BS} : ∀ {m k : Nat} {n : Int}, (allFrom S k n m).2 = true → ∀ j, k ≤ j → j < k + m → (S j).out = true := by
  intro m
  induction m with
  | zero => intro k n _ j h1 h2; omega
  | succ m ih =>
    intro k n h j h1 h2
    rw [allFrom] at h
    by_cases ho : (S k).out = true
    · rw [if_pos ho] at h
      by_cases e : j = k
      · subst e; exact ho
      · exact ih h j (by omega) (by omega)
    · rw [if_neg ho] at h; cases h
theorem allFrom_true {S : Nat → BS} : ∀ {m k : Nat} {n : Int}, (∀ j, k ≤ j → j < k + m → (S j).out = true) → (allFrom S k n m).2 = true := by
  intro m
  induction m with
  | zero => intro k n _; rfl
  | succ m ih =>
    intro k n h
    rw [allFrom, if_pos (h k (Nat.le_refl _) (by omega))]
    exact ih fun j h1 h2 => h j (by omega) (by omega)
theorem allFrom_same {S S' : Nat → BS} (hs : ∀ j, (S j).out = true → S' j = S j) : ∀ {m k : Nat} {n : Int}, (allFrom S k n m).2 = true → allFrom S' k n m = allFrom S k n m := by
  intro m
  induction m with
  | zero => intro k n _; rfl
  | succ m ih =>
    intro k n h
    rw [allFrom] at h
    by_cases ho : (S k).out = true
    · rw [if_pos ho] at h
      rw [allFrom, allFrom, hs k ho, if_pos ho, if_pos ho]
      exact ih h
    · rw [if_neg ho] at h; cases h
theorem allFrom_le {S : Nat → BS} {N : Int} : ∀ {m k : Nat} {n : Int}, (∀ j, k ≤ j → j < k + m → 0 ≤ (S j).at_ ∧ (S j).at_ ≤ N) → 0 ≤ n → n ≤ N → 0 ≤ (allFrom S k n m).1 ∧ (allFrom S k n m).1 ≤ N := by
  intro m
  induction m with
  | zero => intro k n _ h0 h1; exact ⟨h0, h1⟩
  | succ m ih =>
    intro k n h h0 h1
    rw [allFrom]
    split
    · have := h k (Nat.le_refl _) (by omega)
      exact ih (fun j a b => h j (by omega) (by omega)) (by omega) (by omega)
    · exact ⟨Int.le_refl _, by omega⟩
theorem allFrom_init {S : Nat → BS} : ∀ {m k : Nat} {n : Int}, (allFrom S k n m).2 = true → n ≤ (allFrom S k n m).1 := by
  intro m
  induction m with
  | zero => intro k n _; exact Int.le_refl _
  | succ m ih =>
    intro k n h
    rw [allFrom] at h ⊢
    by_cases ho : (S k).out = true
    · rw [if_pos ho] at h ⊢
      have := ih h
      omega
    · rw [if_neg ho] at h; cases h
theorem allFrom_ge {S : Nat → BS} : ∀ {m k : Nat} {n : Int}, (allFrom S k n m).2 = true → ∀ j, k ≤ j → j < k + m → (S j).at_ ≤ (allFrom S k n m).1 := by
  intro m
  induction m with
  | zero => intro k n _ j h1 h2; omega
  | succ m ih =>
    intro k n h j h1 h2
    rw [allFrom] at h ⊢
    by_cases ho : (S k).out = true
    · rw [if_pos ho] at h ⊢
      by_cases e : j = k
      · subst e
        have := allFrom_init h
        omega
      · exact ih h j (by omega) (by omega)
    · rw [if_neg ho] at h; cases h
/-- what is excluded later, is excluded later -/
theorem at_later {D lv k : Int} (hl : 2 ≤ lv) (xs ys : List Bool) (h : (bst D lv k xs).out = false) (h2 : (bst D lv k (xs ++ ys)).out = true) : (xs.length : Int) + 1 ≤ (bst D lv k (xs ++ ys)).at_ := by
  rw [out_ex hl] at h h2
  obtain ⟨m, hm⟩ := Option.isSome_iff_exists.1 h2
  rw [((bst_ex hl (xs ++ ys)).2 m hm).2]
  have h3 : exN D lv k xs = none := by
    cases he : exN D lv k xs with
    | none => rfl
    | some _ => rw [he] at h; cases h
  have h4 := firstN_none _ _ h3
  obtain ⟨_, _, h5, _⟩ := firstN_some _ _ hm
  rcases Nat.lt_or_ge xs.length m with h6 | h6
  · omega
  · have := h4 m (by omega) (by omega)
    rw [List.take_append_of_le_length h6] at h5
    rw [this] at h5
    cases h5
theorem at_bd {D : Nat} {lv : Int} (xs : List Bool) (j : Nat) (hj : j ≤ D) : 0 ≤ (sts D lv xs j).at_ ∧ (sts D lv xs j).at_ ≤ xs.length := by
  have := bst_ok (D := (D : Int)) (lv := lv) (k := j) (by omega) (by omega) (by omega) xs
  exact ⟨this.2.2.2.2.2.1, this.2.2.2.2.2.2⟩
theorem decS_bd {D : Nat} {lv : Int} (xs : List Bool) {lo hi : Nat} (hlo : lo ≤ D) (hhi : hi ≤ D) : 0 ≤ (decS (sts D lv xs) D lo hi).2 ∧ (decS (sts D lv xs) D lo hi).2 ≤ xs.length := by
  have h1 := allFrom_le (S := sts D lv xs) (N := xs.length) (m := D + 1 - hi) (k := hi) (n := 0) (fun j a b => at_bd xs j (by omega)) (Int.le_refl _) (by omega)
  have h2 := allFrom_le (S := sts D lv xs) (N := xs.length) (m := lo + 1) (k := 0) (n := 0) (fun j a b => at_bd xs j (by omega)) (Int.le_refl _) (by omega)
  unfold decS
  split
  · exact h1
  · split
    · exact h2
    · exact ⟨Int.le_refl _, by simp⟩
theorem dec_below {S : Nat → BS} {D lo hi : Nat} (h : (decS S D lo hi).1 = 2) (k : Nat) (h1 : hi ≤ k) (h2 : k ≤ D) : (S k).out = true := by
  unfold decS at h
  split at h
  · rename_i hc
    simp only [Bool.and_eq_true] at hc
    exact allFrom_out hc.1 k h1 (by omega)
  · split at h <;> simp at h
theorem dec_above {S : Nat → BS} {D lo hi : Nat} (h : (decS S D lo hi).1 = 3) (k : Nat) (h1 : k ≤ lo) : (S k).out = true := by
  unfold decS at h
  split at h
  · simp at h
  · split at h
    · rename_i hc
      exact allFrom_out hc k (by omega) (by omega)
    · simp at h
/-- a verdict that was decided stays -/
theorem dec_stays {D : Nat} {lv : Int} (hl : 2 ≤ lv) (xs ys : List Bool) {lo hi : Nat} (hlo : lo ≤ D) (hhi : hi ≤ D) (h : (decS (sts D lv xs) D lo hi).1 ≠ 1) : decS (sts D lv (xs ++ ys)) D lo hi = decS (sts D lv xs) D lo hi := by
  have hs : ∀ j, (sts D lv xs j).out = true → sts D lv (xs ++ ys) j = sts D lv xs j := fun j hj => out_more xs ys hj
  have late : ∀ (k m : Nat), k + m ≤ D + 1 → (allFrom (sts D lv xs) k 0 m).2 = false → (allFrom (sts D lv (xs ++ ys)) k 0 m).2 = true → (xs.length : Int) + 1 ≤ (allFrom (sts D lv (xs ++ ys)) k 0 m).1 := by
    intro k m hkm h1 h2
    have h3 : ∃ j, k ≤ j ∧ j < k + m ∧ (sts D lv xs j).out = false := by
      cases Classical.em (∃ j, k ≤ j ∧ j < k + m ∧ (sts D lv xs j).out = false) with
      | inl h => exact h
      | inr hno =>
        have : (allFrom (sts D lv xs) k 0 m).2 = true := allFrom_true fun j a b => by
          cases hb : (sts D lv xs j).out with
          | true => rfl
          | false => exact absurd ⟨j, a, b, hb⟩ hno
        rw [h1] at this
        cases this
    obtain ⟨j, a, b, hj⟩ := h3
    have h4 := allFrom_out h2 j a b
    have h5 := at_later hl xs ys hj h4
    have h6 := allFrom_ge h2 j a b
    exact Int.le_trans h5 h6
  have bdB := allFrom_le (S := sts D lv xs) (N := xs.length) (m := D + 1 - hi) (k := hi) (n := 0) (fun j a b => at_bd xs j (by omega)) (Int.le_refl _) (by omega)
  have bdA := allFrom_le (S := sts D lv xs) (N := xs.length) (m := lo + 1) (k := 0) (n := 0) (fun j a b => at_bd xs j (by omega)) (Int.le_refl _) (by omega)
  have lB := late hi (D + 1 - hi) (by omega)
  have lA := late 0 (lo + 1) (by omega)
  have sB := allFrom_same hs (m := D + 1 - hi) (k := hi) (n := 0)
  have sA := allFrom_same hs (m := lo + 1) (k := 0) (n := 0)
  unfold decS at *
  generalize allFrom (sts D lv xs) hi 0 (D + 1 - hi) = B at *
  generalize allFrom (sts D lv xs) 0 0 (lo + 1) = A at *
  generalize allFrom (sts D lv (xs ++ ys)) hi 0 (D + 1 - hi) = B' at *
  generalize allFrom (sts D lv (xs ++ ys)) 0 0 (lo + 1) = A' at *
  obtain ⟨b, tb⟩ := B
  obtain ⟨a, ta⟩ := A
  simp only at *
  cases tb with
  | true =>
    have := sB rfl
    subst this
    cases ta with
    | true =>
      have := sA rfl
      subst this
      rfl
    | false =>
      cases hA : A'.2 with
      | false => simp
      | true =>
        have := lA rfl hA
        have h7 : b ≤ A'.1 := by omega
        simp [h7]
  | false =>
    cases ta with
    | true =>
      have := sA rfl
      subst this
      cases hB : B'.2 with
      | false => simp
      | true =>
        have := lB rfl hB
        have h7 : ¬ B'.1 ≤ a := by omega
        simp [h7]
    | false => simp at h
end Go.Proofs.Ytocolpbakaibnaa
