/- Runs of kept rates, as plain functions. -/
import Derived.Test.YtocolpbakaibnaaSpec
namespace Go.Cnt
/-- the runs of p below n -/
def addSp (l : List (Nat × Nat)) (k : Nat) : List (Nat × Nat) :=
  match l.getLast? with
  | some (a, b) => if b + 1 = k then l.dropLast ++ [(a, k)] else l ++ [(k, k)]
  | none => [(k, k)]
def spansTo (p : Nat → Bool) : Nat → List (Nat × Nat)
  | 0 => []
  | k + 1 => if p k then addSp (spansTo p k) k else spansTo p k
theorem spansTo_congr {p q : Nat → Bool} : ∀ {n : Nat}, (∀ j, j < n → p j = q j) → spansTo p n = spansTo q n := by
  intro n
  induction n with
  | zero => intro _; rfl
  | succ n ih => intro h; simp only [spansTo, ih fun j hj => h j (by omega), h n (by omega)]
/-- the last one, where there is one -/
theorem addSp_last (l : List (Nat × Nat)) (k : Nat) : ∃ a, (addSp l k).getLast? = some (a, k) ∧ a ≤ k ∨ (addSp l k).getLast? = some (a, k) := by
  unfold addSp
  split
  · split
    · exact ⟨_, .inr (by simp; rfl)⟩
    · exact ⟨k, .inl ⟨by simp, Nat.le_refl _⟩⟩
  · exact ⟨k, .inl ⟨by simp, Nat.le_refl _⟩⟩
theorem mem_addSp {l : List (Nat × Nat)} {k : Nat} {s : Nat × Nat} (h : s ∈ addSp l k) : s ∈ l ∨ s = (k, k) ∨ ∃ a, (a, k - 1) ∈ l ∧ 0 < k ∧ s = (a, k) := by
  unfold addSp at h
  split at h
  · rename_i a b hl
    split at h
    · rename_i hb
      simp only [List.mem_append, List.mem_singleton] at h
      rcases h with h | h
      · exact .inl ((List.dropLast_sublist _).subset h)
      · refine .inr (.inr ⟨a, ?_, by omega, h⟩)
        have := List.mem_of_getLast? hl
        rw [show k - 1 = b by omega]
        exact this
    · simp only [List.mem_append, List.mem_singleton] at h
      rcases h with h | h
      · exact .inl h
      · exact .inr (.inl h)
  · simp only [List.mem_singleton] at h
    exact .inr (.inl h)
/-- what is in a run -/
theorem spansTo_run {p : Nat → Bool} : ∀ {n : Nat} {s : Nat × Nat}, s ∈ spansTo p n → s.1 ≤ s.2 ∧ s.2 < n ∧ ∀ j, s.1 ≤ j → j ≤ s.2 → p j = true := by
  intro n
  induction n with
  | zero => intro s h; simp [spansTo] at h
  | succ n ih =>
    intro s h
    simp only [spansTo] at h
    split at h
    · rename_i hp
      rcases mem_addSp h with h | rfl | ⟨a, ha, h0, rfl⟩
      · obtain ⟨h1, h2, h3⟩ := ih h
        exact ⟨h1, by omega, h3⟩
      · exact ⟨Nat.le_refl _, by simp, fun j h1 h2 => by
          have : j = n := Nat.le_antisymm h2 h1
          rw [this]; exact hp⟩
      · obtain ⟨h1, h2, h3⟩ := ih ha
        refine ⟨by simp only at h1 ⊢; omega, by simp, fun j h4 h5 => ?_⟩
        by_cases e : j = n
        · rw [e]; exact hp
        · exact h3 j h4 (by simp only at h5 ⊢; omega)
    · obtain ⟨h1, h2, h3⟩ := ih h
      exact ⟨h1, by omega, h3⟩
/-- a run from low to high behind a rate that is not kept -/
theorem spansTo_add {p : Nat → Bool} {low : Nat} (h0 : low = 0 ∨ p (low - 1) = false) : ∀ (m : Nat), (∀ j, low ≤ j → j ≤ low + m → p j = true) → spansTo p (low + m + 1) = spansTo p low ++ [(low, low + m)] := by
  intro m
  induction m with
  | zero =>
    intro h
    simp only [Nat.add_zero, spansTo, h low (Nat.le_refl _) (by omega), if_true, addSp]
    split
    · rename_i a b hl
      rw [if_neg]
      intro hb
      obtain ⟨_, h2, h3⟩ := spansTo_run (List.mem_of_getLast? hl)
      rcases h0 with h0 | h0
      · omega
      · have := h3 b (by assumption) (Nat.le_refl _)
        rw [show low - 1 = b by omega] at h0
        rw [h0] at this
        cases this
    · rename_i hl
      have : spansTo p low = [] := by simpa using hl
      rw [this]
      rfl
  | succ m ih =>
    intro h
    have h1 := ih fun j a b => h j a (by omega)
    rw [show low + (m + 1) + 1 = (low + m + 1) + 1 by omega]
    rw [spansTo, h (low + m + 1) (by omega) (by omega), if_pos rfl, h1]
    simp [addSp]
    omega
/-- the kept rates are those in runs -/
theorem spansTo_has {p : Nat → Bool} : ∀ {n k : Nat}, k < n → p k = true → ∃ s ∈ spansTo p n, s.1 ≤ k ∧ k ≤ s.2 := by
  intro n
  induction n with
  | zero => intro k h; omega
  | succ n ih =>
    intro k hk hp
    simp only [spansTo]
    by_cases e : k = n
    · subst e
      rw [if_pos hp]
      unfold addSp
      split
      · rename_i a b hl
        split
        · rename_i hb
          have := (spansTo_run (List.mem_of_getLast? hl)).1
          exact ⟨(a, k), by simp, by simp only at this ⊢; omega, Nat.le_refl _⟩
        · exact ⟨(k, k), by simp, Nat.le_refl _, Nat.le_refl _⟩
      · exact ⟨(k, k), by simp, Nat.le_refl _, Nat.le_refl _⟩
    · obtain ⟨s, hs, h1, h2⟩ := ih (by omega) hp
      split
      · unfold addSp
        split
        · rename_i a b hl
          split
          · rename_i hb
            by_cases e2 : s = (a, b)
            · subst e2
              exact ⟨(a, n), by simp, h1, by simp only at h2 ⊢; omega⟩
            · refine ⟨s, ?_, h1, h2⟩
              have : spansTo p n = (spansTo p n).dropLast ++ [(a, b)] := by
                have hne : spansTo p n ≠ [] := by intro e; rw [e] at hl; cases hl
                have h2 := List.dropLast_concat_getLast hne
                have h3 : (spansTo p n).getLast hne = (a, b) := by
                  rw [List.getLast?_eq_some_getLast hne] at hl
                  exact Option.some.inj hl
                rw [h3] at h2
                exact h2.symm
              rw [this] at hs
              simp only [List.mem_append, List.mem_singleton] at hs ⊢
              exact .inl (hs.resolve_right e2)
          · exact ⟨s, by simp [hs], h1, h2⟩
        · rename_i hl
          have : spansTo p n = [] := by simpa using hl
          rw [this] at hs
          cases hs
      · exact ⟨s, hs, h1, h2⟩
theorem spansTo_iff {p : Nat → Bool} {n k : Nat} : (∃ s ∈ spansTo p n, s.1 ≤ k ∧ k ≤ s.2) ↔ k < n ∧ p k = true := by
  constructor
  · rintro ⟨s, hs, h1, h2⟩
    obtain ⟨_, h3, h4⟩ := spansTo_run hs
    exact ⟨by omega, h4 k h1 h2⟩
  · rintro ⟨h1, h2⟩
    exact spansTo_has h1 h2
theorem spansTo_len (p : Nat → Bool) : ∀ n, (spansTo p n).length ≤ n := by
  intro n
  induction n with
  | zero => simp [spansTo]
  | succ n ih =>
    simp only [spansTo]
    split
    · unfold addSp
      split
      · split
        · simp; omega
        · simp; omega
      · simp
    · omega
end Go.Cnt
