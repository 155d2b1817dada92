/- Plain laws of verdicts on two lists: exchanged, it is the other one; and the errors of Compare. -/
import Derived.Test.YtocolpbakaibnaaK2
namespace Go.Proofs.Ytocolpbakaibnaa
open Go.Cnt
theorem lows_addSp (l : List (Nat × Nat)) (k : Nat) : (addSp l k).map Prod.fst = l.map Prod.fst ∨ (addSp l k).map Prod.fst = l.map Prod.fst ++ [k] := by
  unfold addSp
  split
  · rename_i a b hl
    split
    · left
      have hne : l ≠ [] := by intro e; rw [e] at hl; cases hl
      have h2 := List.dropLast_concat_getLast hne
      have h3 : l.getLast hne = (a, b) := by
        rw [List.getLast?_eq_some_getLast hne] at hl
        exact Option.some.inj hl
      rw [h3] at h2
      rw [List.map_append]
      conv => rhs; rw [← h2, List.map_append]
      rfl
    · right; simp
  · rename_i hl
    right
    have : l = [] := by simpa using hl
    rw [this]
    rfl
theorem low_least {p : Nat → Bool} : ∀ {n : Nat}, ∀ x ∈ (spansTo p n).map Prod.fst, ((spansTo p n).map Prod.fst).headD 0 ≤ x := by
  intro n
  induction n with
  | zero => intro x h; simp [spansTo] at h
  | succ n ih =>
    intro x h
    simp only [spansTo] at h ⊢
    split at h
    · rename_i hp
      rw [if_pos hp]
      have hlt : ∀ y ∈ (spansTo p n).map Prod.fst, y < n := by
        intro y hy
        obtain ⟨s, hs, rfl⟩ := List.mem_map.1 hy
        have := spansTo_run hs
        omega
      rcases lows_addSp (spansTo p n) n with e | e
      · rw [e] at h ⊢
        exact ih x h
      · rw [e] at h ⊢
        generalize (spansTo p n).map Prod.fst = l at ih h hlt
        cases l with
        | nil => simp at h; simp [h]
        | cons y l =>
          simp only [List.cons_append, List.headD_cons]
          simp only [List.cons_append, List.mem_cons, List.mem_append] at h
          have h1 := hlt y (by simp)
          rcases h with rfl | h | h
          · exact Nat.le_refl _
          · exact ih x (by simp [h])
          · simp at h; omega
    · rename_i hp
      rw [if_neg hp]
      exact ih x h
theorem hull_le {p : Nat → Bool} {n : Nat} (hne : spansTo p n ≠ []) : (hullL (spansTo p n)).1 ≤ (hullL (spansTo p n)).2 := by
  have h1 := low_least (p := p) (n := n)
  have h2 : ∀ s ∈ spansTo p n, s.1 ≤ s.2 := fun s hs => (spansTo_run hs).1
  unfold hullL
  generalize spansTo p n = l at *
  cases l with
  | nil => exact absurd rfl hne
  | cons y l =>
    have hm : (y :: l).getLastD (0, 0) ∈ y :: l := by
      rw [← List.getLast_eq_getLastD (by simp)]
      exact List.getLast_mem _
    have := h1 ((y :: l).getLastD (0, 0)).1 (List.mem_map.2 ⟨_, hm, rfl⟩)
    have := h2 _ hm
    simp only [List.map_cons, List.headD_cons] at *
    omega
theorem cmpL_vals (l m : List (Nat × Nat)) : cmpL l m = 1 ∨ cmpL l m = 2 ∨ cmpL l m = 3 := by
  unfold cmpL
  split
  · exact .inl rfl
  · split
    · exact .inr (.inl rfl)
    · split
      · exact .inr (.inr rfl)
      · exact .inl rfl
theorem cmpL_flip {p q : Nat → Bool} {n : Nat} : cmpL (spansTo q n) (spansTo p n) = if cmpL (spansTo p n) (spansTo q n) = 2 then 3 else if cmpL (spansTo p n) (spansTo q n) = 3 then 2 else cmpL (spansTo p n) (spansTo q n) := by
  have h1 := hull_le (p := p) (n := n)
  have h2 := hull_le (p := q) (n := n)
  generalize spansTo p n = l at *
  generalize spansTo q n = m at *
  unfold cmpL
  by_cases hl : l = []
  · subst hl; simp
  · by_cases hm : m = []
    · subst hm; simp
    · have h1 := h1 hl
      have h2 := h2 hm
      have e1 : (l.isEmpty || m.isEmpty) = false := by cases l <;> cases m <;> simp_all
      have e2 : (m.isEmpty || l.isEmpty) = false := by rw [Bool.or_comm]; exact e1
      rw [e1, e2]
      simp only [Bool.false_eq_true, if_false]
      by_cases a : (hullL l).2 < (hullL m).1
      · have b : ¬ (hullL m).2 < (hullL l).1 := by omega
        simp [a, b]
      · by_cases b : (hullL m).2 < (hullL l).1
        · simp [a, b]
        · simp [a, b]
theorem cmpE_eq (n m : Nat) (D lv : Int) : cmpE n m D lv = if wrongE n D ≠ 0 then wrongE n D else if wrongE m D ≠ 0 then wrongE m D else if inB lv 2 450000 then 0 else 2 := by
  unfold cmpE
  rw [listed_wrong, listed_wrong]
  unfold wrongE
  cases hD : inB D 2 1000 with
  | false => simp
  | true =>
    simp only [Bool.true_eq_false, if_false]
    by_cases h1 : (4000 : Int) < n
    · have : ¬ n ≤ 4000 := by omega
      simp [h1, this]
    · have : n ≤ 4000 := by omega
      by_cases h2 : (4000 : Int) < m
      · simp [h1, h2, this]
      · simp [h1, h2]
end Go.Proofs.Ytocolpbakaibnaa
