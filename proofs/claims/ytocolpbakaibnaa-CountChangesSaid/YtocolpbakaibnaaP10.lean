/- Plain laws: the program announces the change that the specification announces. -/
import Derived.Test.YtocolpbakaibnaaR10
import Derived.Test.YtocolpbakaibnaaP7
namespace Go.Proofs.Ytocolpbakaibnaa
open Go.Cnt Go.Ev
theorem firstN_of {p : Nat → Bool} : ∀ (m n : Nat) {i : Nat}, n ≤ i → i < n + m → p i = true → (∀ j, n ≤ j → j < i → p j = false) → firstN p n m = some i := by
  intro m
  induction m with
  | zero => intro n i h1 h2 _ _; omega
  | succ m ih =>
    intro n i h1 h2 h3 h4
    rw [firstN]
    by_cases e : n = i
    · subst e; rw [if_pos h3]
    · rw [if_neg (by rw [h4 n (Nat.le_refl _) (by omega)]; simp)]
      exact ih (n + 1) (by omega) (by omega) h3 fun j a b => h4 j (by omega) b
theorem lastL_iff (E : Nat → Option Nat) (p : Int) : ∀ (m k : Nat) (n : Int), 0 ≤ n → ((0 ≤ lastL E k n m ∧ lastL E k n m ≤ p) ↔ (n ≤ p ∧ ∀ i, k ≤ i → i < k + m → ∃ t : Nat, E i = some t ∧ (t : Int) ≤ p)) := by
  intro m
  induction m with
  | zero =>
    intro k n hn
    rw [lastL]
    exact ⟨fun h => ⟨h.2, fun i a b => by omega⟩, fun h => ⟨hn, h.1⟩⟩
  | succ m ih =>
    intro k n hn
    rw [lastL]
    cases hE : E k with
    | none =>
      dsimp only
      refine ⟨fun h => by omega, fun h => ?_⟩
      obtain ⟨t, ht, _⟩ := h.2 k (Nat.le_refl _) (by omega)
      rw [hE] at ht
      cases ht
    | some t =>
      dsimp only
      rw [ih (k + 1) (max n t) (by omega)]
      constructor
      · rintro ⟨h1, h2⟩
        refine ⟨by omega, fun i a b => ?_⟩
        by_cases e : i = k
        · subst e; exact ⟨t, hE, by omega⟩
        · exact h2 i (by omega) (by omega)
      · rintro ⟨h1, h2⟩
        obtain ⟨t', ht', h3⟩ := h2 k (Nat.le_refl _) (by omega)
        rw [hE] at ht'
        cases ht'
        exact ⟨by omega, fun i a b => h2 i (by omega) (by omega)⟩
theorem exN_take {D lv k : Int} {ys : List Bool} {m : Nat} (hm : m ≤ ys.length) : (exN D lv k (ys.take m)).isSome = true ↔ ∃ t, exN D lv k ys = some t ∧ t ≤ m := by
  have same : ∀ i, i ≤ m → decide (lv * 1048576 ≤ (cst D k ((ys.take m).take i)).c) = decide (lv * 1048576 ≤ (cst D k (ys.take i)).c) := fun i hi => by
    rw [List.take_take, Nat.min_eq_left hi]
  have hlen : (ys.take m).length = m := by rw [List.length_take]; omega
  constructor
  · intro h
    obtain ⟨t, ht⟩ := Option.isSome_iff_exists.1 h
    unfold exN at ht
    rw [hlen] at ht
    obtain ⟨_, h2, h3, h4⟩ := firstN_some _ _ ht
    rw [same t (by omega)] at h3
    exact ⟨t, firstN_of _ _ (by omega) (by omega) h3 fun j a b => by rw [← same j (by omega)]; exact h4 j a b, by omega⟩
  · rintro ⟨t, ht, hle⟩
    unfold exN at ht
    obtain ⟨_, h2, h3, h4⟩ := firstN_some _ _ ht
    have : exN D lv k (ys.take m) = some t := by
      unfold exN
      rw [hlen]
      exact firstN_of _ _ (by omega) (by omega) (by rw [same t hle]; exact h3) fun j a b => by rw [same j (by omega)]; exact h4 j a b
    rw [this]
    rfl
theorem empty_iff {D : Nat} {lv : Int} {xs : List Bool} : (keptL D lv xs).isEmpty = true ↔ ∀ k : Nat, k ≤ D → (bst D lv k xs).out = true := by
  constructor
  · intro h k hk; exact empty_out h k hk
  · intro h
    cases hl : keptL D lv xs with
    | nil => rfl
    | cons s l =>
      have hs : s ∈ keptL D lv xs := by rw [hl]; simp
      obtain ⟨h1, h2, h3⟩ := spansTo_run hs
      have h4 := h3 s.1 (Nat.le_refl _) h1
      have h5 := h s.1 (by omega)
      unfold kp sts at h4
      rw [h5] at h4
      cases h4
theorem wlT : ∀ m, m < 42 → ∀ j, j < (wl m).length → (wl m).getD j 0 = begN j ∧ begN j < m := by decide
theorem wlL : ∀ m, m < 42 → ∀ j, j < 8 → begN j < m → j < (wl m).length := by decide
theorem wlv_2 {lv : Int} (hl : 2 ≤ lv) (j : Nat) : 2 ≤ wlv lv j := by
  unfold wlv
  have h1 : (1 : Int) ≤ 2 ^ (j + 1) := by
    have : 0 < (2 : Int) ^ (j + 1) := Int.pow_pos (by decide)
    omega
  have := Int.mul_le_mul hl h1 (by decide) (by omega)
  omega
theorem dead_iff {D : Nat} {lv : Int} (hl : 2 ≤ lv) {xs : List Bool} (hn : xs.length ≤ 40) {i j : Nat} (hi : i < xs.length) (hj : j < (wl (i + 1)).length) : dead D lv xs i j = true ↔ 0 ≤ atW D lv xs j ∧ (begN j : Int) + atW D lv xs j ≤ i + 1 := by
  obtain ⟨h1, h2⟩ := wlT (i + 1) (by omega) j hj
  unfold dead seen
  rw [h1, empty_iff, List.drop_take]
  have hle : i + 1 - begN j ≤ (xs.drop (begN j)).length := by rw [List.length_drop]; omega
  have key := lastL_iff (fun (k : Nat) => exN D (wlv lv j) (k : Int) (xs.drop (begN j))) ((i + 1 - begN j : Nat) : Int) (D + 1) 0 0 (Int.le_refl _)
  have e : (0 ≤ atW D lv xs j ∧ (begN j : Int) + atW D lv xs j ≤ i + 1) ↔ (0 ≤ atW D lv xs j ∧ atW D lv xs j ≤ ((i + 1 - begN j : Nat) : Int)) := by omega
  rw [e]
  unfold atW
  rw [key]
  constructor
  · intro h
    refine ⟨by omega, fun k _ hk => ?_⟩
    have h3 := h k (by omega)
    rw [out_ex (wlv_2 hl j), exN_take hle] at h3
    obtain ⟨t, h4, h5⟩ := h3
    exact ⟨t, h4, by omega⟩
  · rintro ⟨_, h⟩ k hk
    obtain ⟨t, h4, h5⟩ := h k (by omega) (by omega)
    rw [out_ex (wlv_2 hl j), exN_take hle]
    exact ⟨t, h4, by omega⟩
theorem atW_ge {D : Nat} {lv : Int} (hl : 2 ≤ lv) {xs : List Bool} {j : Nat} (h : 0 ≤ atW D lv xs j) : 1 ≤ atW D lv xs j := by
  by_cases h1 : 0 < atW D lv xs j
  · omega
  · exfalso
    have key := lastL_iff (fun (k : Nat) => exN D (wlv lv j) (k : Int) (xs.drop (begN j))) 0 (D + 1) 0 0 (Int.le_refl _)
    obtain ⟨_, h2⟩ := key.1 ⟨h, by show atW D lv xs j ≤ 0; omega⟩
    obtain ⟨t, h3, h4⟩ := h2 0 (Nat.le_refl _) (by omega)
    obtain ⟨_, _, h5, _⟩ := firstN_some _ _ h3
    have ht : t = 0 := by omega
    subst ht
    have hw := wlv_2 hl j
    have : ¬ wlv lv j * 1048576 ≤ (1048576 : Int) := by omega
    simp [cst, BS.new, this] at h5
theorem atW_le {D : Nat} {lv : Int} {xs : List Bool} {j : Nat} (hj : begN j ≤ xs.length) : (begN j : Int) + atW D lv xs j ≤ xs.length := by
  have := lastL_bd (fun (k : Nat) => exN D (wlv lv j) (k : Int) (xs.drop (begN j))) ((xs.length : Int) - begN j) (fun k n h => by have := exN_bd h; rw [List.length_drop] at this; omega) (D + 1) 0 0 (by decide) (by omega) (by omega)
  have e : atW D lv xs j = lastL (fun (k : Nat) => exN D (wlv lv j) (k : Int) (xs.drop (begN j))) 0 0 (D + 1) := rfl
  omega
theorem chgR_spec {D : Nat} {lv : Int} {xs : List Bool} : ∀ J : Nat, (chgR D lv xs J = (-1, 0) ∧ ∀ j, j < J → atW D lv xs j < 0) ∨
    ∃ j0 : Nat, j0 < J ∧ 0 ≤ atW D lv xs j0 ∧ chgR D lv xs J = ((begN j0 : Int) + atW D lv xs j0, (j0 : Int)) ∧ ∀ j, j < J → 0 ≤ atW D lv xs j →
      (begN j0 : Int) + atW D lv xs j0 ≤ (begN j : Int) + atW D lv xs j ∧ (j < j0 → (begN j0 : Int) + atW D lv xs j0 < (begN j : Int) + atW D lv xs j) := by
  intro J
  induction J with
  | zero => exact .inl ⟨rfl, fun j h => by omega⟩
  | succ J ih =>
    have hstep : chgR D lv xs (J + 1) = if 0 ≤ atW D lv xs J ∧ ((chgR D lv xs J).1 < 0 ∨ (begN J : Int) + atW D lv xs J < (chgR D lv xs J).1) then ((begN J : Int) + atW D lv xs J, (J : Int)) else chgR D lv xs J := rfl
    rcases ih with ⟨h1, h2⟩ | ⟨j0, h1, h2, h3, h4⟩
    · by_cases h0 : 0 ≤ atW D lv xs J
      · right
        rw [if_pos ⟨h0, .inl (by rw [h1]; decide)⟩] at hstep
        refine ⟨J, by omega, h0, hstep, fun j hj hj0 => ?_⟩
        by_cases e : j = J
        · subst e; exact ⟨Int.le_refl _, fun h => by omega⟩
        · have := h2 j (by omega); omega
      · left
        rw [if_neg (fun h => h0 h.1)] at hstep
        refine ⟨by rw [hstep, h1], fun j hj => ?_⟩
        by_cases e : j = J
        · subst e; omega
        · exact h2 j (by omega)
    · right
      by_cases hc : 0 ≤ atW D lv xs J ∧ ((chgR D lv xs J).1 < 0 ∨ (begN J : Int) + atW D lv xs J < (chgR D lv xs J).1)
      · rw [if_pos hc] at hstep
        have hlt : (begN J : Int) + atW D lv xs J < (begN j0 : Int) + atW D lv xs j0 := by
          have h5 := hc.2
          rw [h3] at h5
          simp only at h5
          omega
        refine ⟨J, by omega, hc.1, hstep, fun j hj hj0 => ?_⟩
        by_cases e : j = J
        · subst e; exact ⟨Int.le_refl _, fun h => by omega⟩
        · have := h4 j (by omega) hj0
          omega
      · rw [if_neg hc] at hstep
        refine ⟨j0, by omega, h2, by rw [hstep, h3], fun j hj hj0 => ?_⟩
        by_cases e : j = J
        · subst e
          have : ¬ ((chgR D lv xs j).1 < 0 ∨ (begN j : Int) + atW D lv xs j < (chgR D lv xs j).1) := fun h => hc ⟨hj0, h⟩
          rw [h3] at this
          simp only at this
          omega
        · exact h4 j (by omega) hj0
theorem chgN_none {D : Nat} {lv : Int} {xs : List Bool} : ∀ (m i : Nat), (∀ i', i ≤ i' → i' < i + m → ∀ j, j < (wl (i' + 1)).length → dead D lv xs i' j = false) → chgN D lv xs i m = none := by
  intro m
  induction m with
  | zero => intro i _; rfl
  | succ m ih =>
    intro i h
    rw [chgN, firstN_all _ _ fun j _ hj => h i (Nat.le_refl _) (by omega) j (by omega)]
    exact ih (i + 1) fun i' a b => h i' (by omega) (by omega)
theorem chgN_at {D : Nat} {lv : Int} {xs : List Bool} {t j0 : Nat} (hd : dead D lv xs t j0 = true) (hL : j0 < (wl (t + 1)).length) (hb : ∀ j, j < j0 → dead D lv xs t j = false) :
    ∀ (m i : Nat), i ≤ t → t < i + m → (∀ i', i ≤ i' → i' < t → ∀ j, j < (wl (i' + 1)).length → dead D lv xs i' j = false) → chgN D lv xs i m = some (t + 1, j0) := by
  intro m
  induction m with
  | zero => intro i h1 h2 _; omega
  | succ m ih =>
    intro i h1 h2 h
    by_cases e : i = t
    · subst e
      rw [chgN, firstN_of _ _ (by omega) (by omega) hd fun j _ hj => hb j hj]
    · rw [chgN, firstN_all _ _ fun j _ hj => h i (Nat.le_refl _) (by omega) j (by omega)]
      exact ih (i + 1) (by omega) (by omega) fun i' a b => h i' (by omega) b
theorem begN_mono {i j : Nat} (h : i ≤ j) : begN i ≤ begN j := by
  cases i with
  | zero => exact Nat.zero_le _
  | succ i =>
    cases j with
    | zero => omega
    | succ j => exact Nat.pow_le_pow_right (by omega) (by omega)
theorem bool_false {b : Bool} (h : ¬ b = true) : b = false := by cases b <;> simp_all
/-- what the program announces, by the specification's change -/
theorem chg_eq {D : Nat} {lv : Int} (hl : 2 ≤ lv) {xs : List Bool} (hn : xs.length ≤ 40) {J : Nat} (hJ : ∀ j, j < J → begN j ≤ xs.length) (hJ2 : xs.length < begN J) :
    (chgR D lv xs J = (-1, 0) ∧ chgN D lv xs 0 xs.length = none) ∨ ∃ t j0 : Nat, chgR D lv xs J = ((t : Int), (j0 : Int)) ∧ chgN D lv xs 0 xs.length = some (t, j0) := by
  have inJ : ∀ i, i < xs.length → ∀ j, j < (wl (i + 1)).length → j < J := fun i hi j hj => by
    have := (wlT (i + 1) (by omega) j hj).2
    rcases Nat.lt_or_ge j J with h | h
    · exact h
    · have := begN_mono h; omega
  rcases chgR_spec (D := D) (lv := lv) (xs := xs) J with ⟨h1, h2⟩ | ⟨j0, h1, h2, h3, h4⟩
  · left
    refine ⟨h1, chgN_none _ _ fun i _ hi j hj => bool_false fun hd => ?_⟩
    have := ((dead_iff hl hn (show i < xs.length by omega) hj).1 hd).1
    have := h2 j (inJ i (by omega) j hj)
    omega
  · right
    have hg := atW_ge hl h2
    have hle := atW_le (D := D) (lv := lv) (hJ j0 h1)
    obtain ⟨t, ht⟩ : ∃ t : Nat, (begN j0 : Int) + atW D lv xs j0 = ((t + 1 : Nat) : Int) := ⟨((begN j0 : Int) + atW D lv xs j0 - 1).toNat, by omega⟩
    refine ⟨t + 1, j0, by rw [h3, ht], ?_⟩
    have h6 := begN_bd (hJ j0 h1) hn
    have hjt : j0 < (wl (t + 1)).length := wlL (t + 1) (by omega) j0 (by omega) (by omega)
    refine chgN_at ((dead_iff hl hn (by omega) hjt).2 ⟨h2, by omega⟩) hjt (fun j hj => bool_false fun hd => ?_) _ _ (Nat.zero_le _) (by omega) fun i _ hi j hj => bool_false fun hd => ?_
    · have hd := (dead_iff hl hn (show t < xs.length by omega) (show j < (wl (t + 1)).length by omega)).1 hd
      have := (h4 j (by omega) hd.1).2 hj
      omega
    · have hd := (dead_iff hl hn (show i < xs.length by omega) hj).1 hd
      have := (h4 j (inJ i (by omega) j hj) hd.1).1
      omega
end Go.Proofs.Ytocolpbakaibnaa
