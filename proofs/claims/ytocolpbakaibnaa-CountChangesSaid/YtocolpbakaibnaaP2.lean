/- Plain laws: the program's bets stop at exclusion, the specification's go on: they exclude the same rates, at the same time. -/
import Derived.Test.YtocolpbakaibnaaR9
namespace Go.Proofs.Ytocolpbakaibnaa
open Go.Cnt
theorem firstN_end (p : Nat → Bool) : ∀ (m n : Nat), firstN p n (m + 1) = (firstN p n m).or (if p (n + m) then some (n + m) else none) := by
  intro m
  induction m with
  | zero => intro n; simp [firstN]
  | succ m ih =>
    intro n
    rw [firstN]
    by_cases h : p n = true
    · rw [if_pos h, firstN, if_pos h]; rfl
    · rw [if_neg h, ih (n + 1), firstN, if_neg h, show n + 1 + m = n + (m + 1) by omega]
theorem firstN_congr {p q : Nat → Bool} : ∀ (m n : Nat), (∀ i, n ≤ i → i < n + m → p i = q i) → firstN p n m = firstN q n m := by
  intro m
  induction m with
  | zero => intro n _; rfl
  | succ m ih =>
    intro n h
    rw [firstN, firstN, h n (Nat.le_refl _) (by omega), ih (n + 1) fun i h1 h2 => h i (by omega) (by omega)]
theorem firstN_some {p : Nat → Bool} : ∀ (m n : Nat) {i : Nat}, firstN p n m = some i → n ≤ i ∧ i < n + m ∧ p i = true ∧ ∀ j, n ≤ j → j < i → p j = false := by
  intro m
  induction m with
  | zero => intro n i h; cases h
  | succ m ih =>
    intro n i h
    rw [firstN] at h
    by_cases hp : p n = true
    · rw [if_pos hp] at h
      cases h
      exact ⟨Nat.le_refl _, by omega, hp, fun j h1 h2 => by omega⟩
    · rw [if_neg hp] at h
      obtain ⟨h1, h2, h3, h4⟩ := ih (n + 1) h
      refine ⟨by omega, by omega, h3, fun j h5 h6 => ?_⟩
      by_cases e : j = n
      · subst e; simpa using hp
      · exact h4 j (by omega) h6
theorem firstN_none {p : Nat → Bool} : ∀ (m n : Nat), firstN p n m = none → ∀ j, n ≤ j → j < n + m → p j = false := by
  intro m
  induction m with
  | zero => intro n _ j h1 h2; omega
  | succ m ih =>
    intro n h j h1 h2
    rw [firstN] at h
    by_cases hp : p n = true
    · rw [if_pos hp] at h; cases h
    · rw [if_neg hp] at h
      by_cases e : j = n
      · subst e; simpa using hp
      · exact ih (n + 1) h j (by omega) (by omega)
theorem cst_app (D k : Int) (xs : List Bool) (x : Bool) : cst D k (xs ++ [x]) = bnext D k (cst D k xs) x := by
  unfold cst
  rw [List.foldl_append]
  rfl
theorem bst_app (D lv k : Int) (xs : List Bool) (x : Bool) : bst D lv k (xs ++ [x]) = bstep D lv k (bst D lv k xs) x := by
  unfold bst brun
  rw [List.foldl_append]
  rfl
theorem ex_app (D lv k : Int) (xs : List Bool) (x : Bool) : exN D lv k (xs ++ [x]) = (exN D lv k xs).or (if lv * 1048576 ≤ (cst D k (xs ++ [x])).c then some (xs.length + 1) else none) := by
  unfold exN
  rw [show (xs ++ [x]).length + 1 = (xs.length + 1) + 1 by simp, firstN_end]
  congr 1
  · refine firstN_congr _ _ fun i _ hi => ?_
    rw [List.take_append_of_le_length (by omega)]
  · rw [Nat.zero_add, List.take_of_length_le (by simp)]
    simp
theorem cst_out (D k : Int) (xs : List Bool) : (cst D k xs).out = false := by
  have : ∀ (xs : List Bool) (s : BS), s.out = false → (xs.foldl (bnext D k) s).out = false := by
    intro xs
    induction xs with
    | nil => intro s h; exact h
    | cons x xs ih => intro s h; exact ih _ h
  exact this xs BS.new rfl
theorem cst_n (D k : Int) (xs : List Bool) : (cst D k xs).n = xs.length := by
  have : ∀ (xs : List Bool) (s : BS), (xs.foldl (bnext D k) s).n = s.n + xs.length := by
    intro xs
    induction xs with
    | nil => intro s; simp
    | cons x xs ih =>
      intro s
      rw [List.foldl_cons, ih]
      show s.n + 1 + _ = _
      simp only [List.length_cons]
      omega
  have := this xs BS.new
  simpa [cst, BS.new] using this
theorem snoc_ind {P : List Bool → Prop} (h0 : P []) (h1 : ∀ xs x, P xs → P (xs ++ [x])) (xs : List Bool) : P xs := by
  have : ∀ ys : List Bool, P ys.reverse := by
    intro ys
    induction ys with
    | nil => exact h0
    | cons y ys ih => rw [List.reverse_cons]; exact h1 _ _ ih
  have := this xs.reverse
  rwa [List.reverse_reverse] at this
theorem bstep_no {D lv k : Int} {s : BS} {hit : Bool} (h : s.out = false) (hc : ¬ lv * 1048576 ≤ (bnext D k s hit).c) : bstep D lv k s hit = bnext D k s hit := by
  unfold bstep
  rw [if_neg (by rw [h]; simp), if_neg hc]
theorem bstep_yes {D lv k : Int} {s : BS} {hit : Bool} (h : s.out = false) (hc : lv * 1048576 ≤ (bnext D k s hit).c) : bstep D lv k s hit = { bnext D k s hit with out := true, at_ := s.n + 1 } := by
  unfold bstep
  rw [if_neg (by rw [h]; simp), if_pos hc]
/-- the program's state against a rate, by the specification's -/
theorem bst_ex {D lv k : Int} (hl : 2 ≤ lv) (xs : List Bool) :
    (exN D lv k xs = none → bst D lv k xs = cst D k xs) ∧ ∀ n, exN D lv k xs = some n → (bst D lv k xs).out = true ∧ (bst D lv k xs).at_ = n := by
  induction xs using snoc_ind with
  | h0 =>
    refine ⟨fun _ => rfl, fun n h => ?_⟩
    have : ¬ (lv * 1048576 ≤ (1048576 : Int)) := by omega
    simp [exN, firstN, cst, BS.new, this] at h
  | h1 xs x ih =>
    rw [ex_app, bst_app]
    cases he : exN D lv k xs with
    | some n =>
      obtain ⟨h1, h2⟩ := ih.2 n he
      have e : bstep D lv k (bst D lv k xs) x = bst D lv k xs := by rw [bstep, if_pos h1]
      rw [e]
      refine ⟨fun h => by simp at h, fun m h => ?_⟩
      simp only [Option.some_or, Option.some.injEq] at h
      subst h
      exact ⟨h1, h2⟩
    | none =>
      have e := ih.1 he
      have e2 : bnext D k (bst D lv k xs) x = cst D k (xs ++ [x]) := by rw [e, cst_app]
      have hout : (bst D lv k xs).out = false := by rw [e]; exact cst_out _ _ _
      rw [Option.none_or]
      by_cases hc : lv * 1048576 ≤ (cst D k (xs ++ [x])).c
      · rw [if_pos hc, bstep_yes hout (by rw [e2]; exact hc)]
        refine ⟨fun h => by (cases h), fun m h => ?_⟩
        cases h
        refine ⟨rfl, ?_⟩
        show (bst D lv k xs).n + 1 = _
        rw [e, cst_n]
        simp
      · rw [if_neg hc, bstep_no hout (by rw [e2]; exact hc)]
        exact ⟨fun _ => e2, fun m h => by (cases h)⟩
theorem out_ex {D lv k : Int} (hl : 2 ≤ lv) (xs : List Bool) : (bst D lv k xs).out = (exN D lv k xs).isSome := by
  cases he : exN D lv k xs with
  | none => rw [(bst_ex hl xs).1 he, cst_out]; rfl
  | some n => rw [((bst_ex hl xs).2 n he).1]; rfl
theorem kp_rkp {D : Nat} {lv : Int} (hl : 2 ≤ lv) (xs : List Bool) : kp (sts D lv xs) = rkp D lv xs := by
  funext k
  unfold kp rkp sts
  rw [out_ex hl]
  cases exN (D : Int) lv k xs <;> rfl
theorem kept_rkept {D : Nat} {lv : Int} (hl : 2 ≤ lv) (xs : List Bool) : keptL D lv xs = rkeptL D lv xs := by rw [keptL, rkeptL, kp_rkp hl]
/-- what is out stays out -/
theorem out_more {D lv k : Int} (xs ys : List Bool) (h : (bst D lv k xs).out = true) : bst D lv k (xs ++ ys) = bst D lv k xs := by
  induction ys using snoc_ind with
  | h0 => rw [List.append_nil]
  | h1 ys y ih => rw [← List.append_assoc, bst_app, ih, bstep, if_pos h]
theorem kp_less {D : Nat} {lv : Int} (xs ys : List Bool) (k : Nat) (h : kp (sts D lv (xs ++ ys)) k = true) : kp (sts D lv xs) k = true := by
  unfold kp sts at *
  cases hb : (bst D lv k xs).out with
  | false => rfl
  | true => rw [out_more xs ys hb, hb] at h; cases h
end Go.Proofs.Ytocolpbakaibnaa
