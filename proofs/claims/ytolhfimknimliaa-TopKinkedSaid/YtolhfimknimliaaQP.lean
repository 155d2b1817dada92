/- From another seat: module P1. -/
import Derived.Test.YtolhfimknimliaaQC
import Derived.Test.YtolhfimknimliaaE1
namespace Go.Cnt
theorem mul_ediv_le {k X m : Int} (hk : 0 < k) (hm : 0 < m) : k * (X / (m * k)) ≤ X / m := by
  have h1 : X / (m * k) = X / m / k := by rw [Int.ediv_ediv_of_nonneg (by omega)]
  rw [h1, Int.mul_comm]
  exact Int.ediv_mul_le _ (by omega)
theorem add_ediv_le {a b m : Int} (hm : 0 < m) : a / m + b / m ≤ (a + b) / m := by
  rw [Int.le_ediv_iff_mul_le hm, Int.add_mul]
  have h1 := Int.ediv_mul_le a (b := m) (by omega)
  have h2 := Int.ediv_mul_le b (b := m) (by omega)
  omega
/-- the bet is fair, or worse -/
theorem fair {c n h D k : Int} (_hc : 0 ≤ c) (hn : 0 ≤ n) (hk0 : 0 < k) (hk1 : k < D) : k * hitC c n h D k + (D - k) * missC c n h D k ≤ D * c := by
  have a1 : hitC c n h D k ≤ c * (h + 1) * D / ((n + 2) * k) := by
    unfold hitC
    rw [if_neg (by omega), if_neg (by omega)]
    omega
  have a2 : missC c n h D k ≤ c * (n - h + 1) * D / ((n + 2) * (D - k)) := by
    unfold missC
    rw [if_neg (by omega), if_neg (by omega)]
    omega
  have b1 : k * hitC c n h D k ≤ c * (h + 1) * D / (n + 2) := Int.le_trans (Int.mul_le_mul_of_nonneg_left a1 (by omega)) (mul_ediv_le hk0 (by omega))
  have b2 : (D - k) * missC c n h D k ≤ c * (n - h + 1) * D / (n + 2) := Int.le_trans (Int.mul_le_mul_of_nonneg_left a2 (by omega)) (mul_ediv_le (by omega) (by omega))
  have b3 := add_ediv_le (a := c * (h + 1) * D) (b := c * (n - h + 1) * D) (m := n + 2) (by omega)
  have e : c * (h + 1) * D + c * (n - h + 1) * D = D * c * (n + 2) := by
    rw [← Int.add_mul, ← Int.mul_add, show h + 1 + (n - h + 1) = n + 2 by omega, Int.mul_comm (c * (n + 2)) D, Int.mul_assoc]
  rw [e, Int.mul_ediv_cancel _ (by omega)] at b3
  omega
end Go.Cnt
namespace Go.Proofs.Ytolhfimknimliaa.Q
open Go.Cnt
theorem firstN_end (p : Nat → Bool) : ∀ (m n : Nat), firstN p n (m + 1) = (firstN p n m).or (if p (n + m) then some (n + m) else none) := by
  intro m
  induction m with
  | zero => intro n; simp [firstN]
  | succ m ih =>
    intro n
    rw [firstN]
    by_cases h : p n = true
    · rw [if_pos h, firstN, if_pos h]; rfl
    · rw [if_neg h, ih (n + 1), firstN, if_neg h, show n + 1 + m = n + (m + 1) by omega]
theorem firstN_congr {p q : Nat → Bool} : ∀ (m n : Nat), (∀ i, n ≤ i → i < n + m → p i = q i) → firstN p n m = firstN q n m := by
  intro m
  induction m with
  | zero => intro n _; rfl
  | succ m ih =>
    intro n h
    rw [firstN, firstN, h n (Nat.le_refl _) (by omega), ih (n + 1) fun i h1 h2 => h i (by omega) (by omega)]
theorem firstN_some {p : Nat → Bool} : ∀ (m n : Nat) {i : Nat}, firstN p n m = some i → n ≤ i ∧ i < n + m ∧ p i = true ∧ ∀ j, n ≤ j → j < i → p j = false := by
  intro m
  induction m with
  | zero => intro n i h; cases h
  | succ m ih =>
    intro n i h
    rw [firstN] at h
    by_cases hp : p n = true
    · rw [if_pos hp] at h
      cases h
      exact ⟨Nat.le_refl _, by omega, hp, fun j h1 h2 => by omega⟩
    · rw [if_neg hp] at h
      obtain ⟨h1, h2, h3, h4⟩ := ih (n + 1) h
      refine ⟨by omega, by omega, h3, fun j h5 h6 => ?_⟩
      by_cases e : j = n
      · subst e; simpa using hp
      · exact h4 j (by omega) h6
theorem firstN_none {p : Nat → Bool} : ∀ (m n : Nat), firstN p n m = none → ∀ j, n ≤ j → j < n + m → p j = false := by
  intro m
  induction m with
  | zero => intro n _ j h1 h2; omega
  | succ m ih =>
    intro n h j h1 h2
    rw [firstN] at h
    by_cases hp : p n = true
    · rw [if_pos hp] at h; cases h
    · rw [if_neg hp] at h
      by_cases e : j = n
      · subst e; simpa using hp
      · exact ih (n + 1) h j (by omega) (by omega)
theorem cst_app (D k : Int) (xs : List Bool) (x : Bool) : cst D k (xs ++ [x]) = bnext D k (cst D k xs) x := by
  unfold cst
  rw [List.foldl_append]
  rfl
theorem bst_app (D lv k : Int) (xs : List Bool) (x : Bool) : bst D lv k (xs ++ [x]) = bstep D lv k (bst D lv k xs) x := by
  unfold bst brun
  rw [List.foldl_append]
  rfl
theorem ex_app (D lv k : Int) (xs : List Bool) (x : Bool) : exN D lv k (xs ++ [x]) = (exN D lv k xs).or (if lv * 1048576 ≤ (cst D k (xs ++ [x])).c then some (xs.length + 1) else none) := by
  unfold exN
  rw [show (xs ++ [x]).length + 1 = (xs.length + 1) + 1 by simp, firstN_end]
  congr 1
  · refine firstN_congr _ _ fun i _ hi => ?_
    rw [List.take_append_of_le_length (by omega)]
  · rw [Nat.zero_add, List.take_of_length_le (by simp)]
    simp
theorem cst_out (D k : Int) (xs : List Bool) : (cst D k xs).out = false := by
  have : ∀ (xs : List Bool) (s : BS), s.out = false → (xs.foldl (bnext D k) s).out = false := by
    intro xs
    induction xs with
    | nil => intro s h; exact h
    | cons x xs ih => intro s h; exact ih _ h
  exact this xs BS.new rfl
theorem cst_n (D k : Int) (xs : List Bool) : (cst D k xs).n = xs.length := by
  have : ∀ (xs : List Bool) (s : BS), (xs.foldl (bnext D k) s).n = s.n + xs.length := by
    intro xs
    induction xs with
    | nil => intro s; simp
    | cons x xs ih =>
      intro s
      rw [List.foldl_cons, ih]
      show s.n + 1 + _ = _
      simp only [List.length_cons]
      omega
  have := this xs BS.new
  simpa [cst, BS.new] using this
theorem snoc_ind {P : List Bool → Prop} (h0 : P []) (h1 : ∀ xs x, P xs → P (xs ++ [x])) (xs : List Bool) : P xs := by
  have : ∀ ys : List Bool, P ys.reverse := by
    intro ys
    induction ys with
    | nil => exact h0
    | cons y ys ih => rw [List.reverse_cons]; exact h1 _ _ ih
  have := this xs.reverse
  rwa [List.reverse_reverse] at this
theorem bstep_no {D lv k : Int} {s : BS} {hit : Bool} (h : s.out = false) (hc : ¬ lv * 1048576 ≤ (bnext D k s hit).c) : bstep D lv k s hit = bnext D k s hit := by
  unfold bstep
  rw [if_neg (by rw [h]; simp), if_neg hc]
theorem bstep_yes {D lv k : Int} {s : BS} {hit : Bool} (h : s.out = false) (hc : lv * 1048576 ≤ (bnext D k s hit).c) : bstep D lv k s hit = { bnext D k s hit with out := true, at_ := s.n + 1 } := by
  unfold bstep
  rw [if_neg (by rw [h]; simp), if_pos hc]
/-- the program's state against a rate, by the specification's -/
theorem bst_ex {D lv k : Int} (hl : 2 ≤ lv) (xs : List Bool) :
    (exN D lv k xs = none → bst D lv k xs = cst D k xs) ∧ ∀ n, exN D lv k xs = some n → (bst D lv k xs).out = true ∧ (bst D lv k xs).at_ = n := by
  induction xs using snoc_ind with
  | h0 =>
    refine ⟨fun _ => rfl, fun n h => ?_⟩
    have : ¬ (lv * 1048576 ≤ (1048576 : Int)) := by omega
    simp [exN, firstN, cst, BS.new, this] at h
  | h1 xs x ih =>
    rw [ex_app, bst_app]
    cases he : exN D lv k xs with
    | some n =>
      obtain ⟨h1, h2⟩ := ih.2 n he
      have e : bstep D lv k (bst D lv k xs) x = bst D lv k xs := by rw [bstep, if_pos h1]
      rw [e]
      refine ⟨fun h => by simp at h, fun m h => ?_⟩
      simp only [Option.some_or, Option.some.injEq] at h
      subst h
      exact ⟨h1, h2⟩
    | none =>
      have e := ih.1 he
      have e2 : bnext D k (bst D lv k xs) x = cst D k (xs ++ [x]) := by rw [e, cst_app]
      have hout : (bst D lv k xs).out = false := by rw [e]; exact cst_out _ _ _
      rw [Option.none_or]
      by_cases hc : lv * 1048576 ≤ (cst D k (xs ++ [x])).c
      · rw [if_pos hc, bstep_yes hout (by rw [e2]; exact hc)]
        refine ⟨fun h => by (cases h), fun m h => ?_⟩
        cases h
        refine ⟨rfl, ?_⟩
        show (bst D lv k xs).n + 1 = _
        rw [e, cst_n]
        simp
      · rw [if_neg hc, bstep_no hout (by rw [e2]; exact hc)]
        exact ⟨fun _ => e2, fun m h => by (cases h)⟩
theorem out_ex {D lv k : Int} (hl : 2 ≤ lv) (xs : List Bool) : (bst D lv k xs).out = (exN D lv k xs).isSome := by
  cases he : exN D lv k xs with
  | none => rw [(bst_ex hl xs).1 he, cst_out]; rfl
  | some n => rw [((bst_ex hl xs).2 n he).1]; rfl
theorem kp_rkp {D : Nat} {lv : Int} (hl : 2 ≤ lv) (xs : List Bool) : kp (sts D lv xs) = rkp D lv xs := by
  funext k
  unfold kp rkp sts
  rw [out_ex hl]
  cases exN (D : Int) lv k xs <;> rfl
theorem kept_rkept {D : Nat} {lv : Int} (hl : 2 ≤ lv) (xs : List Bool) : keptL D lv xs = rkeptL D lv xs := by rw [keptL, rkeptL, kp_rkp hl]
/-- what is out stays out -/
theorem out_more {D lv k : Int} (xs ys : List Bool) (h : (bst D lv k xs).out = true) : bst D lv k (xs ++ ys) = bst D lv k xs := by
  induction ys using snoc_ind with
  | h0 => rw [List.append_nil]
  | h1 ys y ih => rw [← List.append_assoc, bst_app, ih, bstep, if_pos h]
theorem kp_less {D : Nat} {lv : Int} (xs ys : List Bool) (k : Nat) (h : kp (sts D lv (xs ++ ys)) k = true) : kp (sts D lv xs) k = true := by
  unfold kp sts at *
  cases hb : (bst D lv k xs).out with
  | false => rfl
  | true => rw [out_more xs ys hb, hb] at h; cases h
end Go.Proofs.Ytolhfimknimliaa.Q
namespace Go.Proofs.Ytolhfimknimliaa.Q
open Go.Ev Go.Proofs Go.Cnt
theorem listed_wrong (n : Nat) (D : Int) (b : Bool) : listedE n D b = if wrongE n D ≠ 0 then wrongE n D else if b then 0 else 2 := by
  unfold listedE wrongE
  split
  · simp
  · split
    · simp
    · simp
theorem wrong_zero {n : Nat} {D : Int} (h : wrongE n D = 0) : ∃ d : Nat, D = d ∧ 2 ≤ d ∧ d ≤ 1000 ∧ n ≤ 4000 := by
  unfold wrongE at h
  split at h
  · cases h
  · rename_i h1
    split at h
    · cases h
    · have h3 : inB D 2 1000 = true := by simpa using h1
      rw [inB_iff] at h3
      exact ⟨D.toNat, by omega, by omega, by omega, by omega⟩
theorem wrong_small {n : Nat} {d : Nat} (h1 : 2 ≤ d) (h2 : d ≤ 1000) (h3 : n ≤ 4000) : wrongE n d = 0 := by
  unfold wrongE
  rw [if_neg (by rw [(inB_iff (d : Int) 2 1000).2 (by omega)]; simp), if_neg (by omega)]
theorem hasL_iff {p : Nat → Bool} {n : Nat} {k : Int} : hasL (spansTo p n) k = true ↔ ∃ j : Nat, k = j ∧ j < n ∧ p j = true := by
  unfold hasL
  rw [List.any_eq_true]
  constructor
  · rintro ⟨s, hs, h⟩
    simp only [Bool.and_eq_true, decide_eq_true_eq] at h
    obtain ⟨j, rfl⟩ : ∃ j : Nat, k = j := ⟨k.toNat, by omega⟩
    exact ⟨j, rfl, spansTo_iff.1 ⟨s, hs, by omega, by omega⟩⟩
  · rintro ⟨j, rfl, h1, h2⟩
    obtain ⟨s, hs, h3, h4⟩ := spansTo_has h1 h2
    refine ⟨s, hs, ?_⟩
    simp only [Bool.and_eq_true, decide_eq_true_eq]
    omega
/-- the capitals after each number of slots -/
def capC (D k : Int) (xs : List Bool) : List Int := (List.range (xs.length + 1)).map fun i => (cst D k (xs.take i)).c
theorem capC_len (D k : Int) (xs : List Bool) : (capC D k xs).length = xs.length + 1 := by simp [capC]
theorem capV_capC (D k : Int) (xs : List Bool) : capV D k xs (xs.length + 1) = (capC D k xs).map (.int .i64) := by simp [capV, capC]
end Go.Proofs.Ytolhfimknimliaa.Q
namespace Go.Proofs.Ytolhfimknimliaa.Q
open Go.Cnt
theorem lows_addSp (l : List (Nat × Nat)) (k : Nat) : (addSp l k).map Prod.fst = l.map Prod.fst ∨ (addSp l k).map Prod.fst = l.map Prod.fst ++ [k] := by
  unfold addSp
  split
  · rename_i a b hl
    split
    · left
      have hne : l ≠ [] := by intro e; rw [e] at hl; cases hl
      have h2 := List.dropLast_concat_getLast hne
      have h3 : l.getLast hne = (a, b) := by
        rw [List.getLast?_eq_some_getLast hne] at hl
        exact Option.some.inj hl
      rw [h3] at h2
      rw [List.map_append]
      conv => rhs; rw [← h2, List.map_append]
      rfl
    · right; simp
  · rename_i hl
    right
    have : l = [] := by simpa using hl
    rw [this]
    rfl
theorem low_least {p : Nat → Bool} : ∀ {n : Nat}, ∀ x ∈ (spansTo p n).map Prod.fst, ((spansTo p n).map Prod.fst).headD 0 ≤ x := by
  intro n
  induction n with
  | zero => intro x h; simp [spansTo] at h
  | succ n ih =>
    intro x h
    simp only [spansTo] at h ⊢
    split at h
    · rename_i hp
      rw [if_pos hp]
      have hlt : ∀ y ∈ (spansTo p n).map Prod.fst, y < n := by
        intro y hy
        obtain ⟨s, hs, rfl⟩ := List.mem_map.1 hy
        have := spansTo_run hs
        omega
      rcases lows_addSp (spansTo p n) n with e | e
      · rw [e] at h ⊢
        exact ih x h
      · rw [e] at h ⊢
        generalize (spansTo p n).map Prod.fst = l at ih h hlt
        cases l with
        | nil => simp at h; simp [h]
        | cons y l =>
          simp only [List.cons_append, List.headD_cons]
          simp only [List.cons_append, List.mem_cons, List.mem_append] at h
          have h1 := hlt y (by simp)
          rcases h with rfl | h | h
          · exact Nat.le_refl _
          · exact ih x (by simp [h])
          · simp at h; omega
    · rename_i hp
      rw [if_neg hp]
      exact ih x h
theorem hull_le {p : Nat → Bool} {n : Nat} (hne : spansTo p n ≠ []) : (hullL (spansTo p n)).1 ≤ (hullL (spansTo p n)).2 := by
  have h1 := low_least (p := p) (n := n)
  have h2 : ∀ s ∈ spansTo p n, s.1 ≤ s.2 := fun s hs => (spansTo_run hs).1
  unfold hullL
  generalize spansTo p n = l at *
  cases l with
  | nil => exact absurd rfl hne
  | cons y l =>
    have hm : (y :: l).getLastD (0, 0) ∈ y :: l := by
      rw [← List.getLast_eq_getLastD (by simp)]
      exact List.getLast_mem _
    have := h1 ((y :: l).getLastD (0, 0)).1 (List.mem_map.2 ⟨_, hm, rfl⟩)
    have := h2 _ hm
    simp only [List.map_cons, List.headD_cons] at *
    omega
theorem cmpL_vals (l m : List (Nat × Nat)) : cmpL l m = 1 ∨ cmpL l m = 2 ∨ cmpL l m = 3 := by
  unfold cmpL
  split
  · exact .inl rfl
  · split
    · exact .inr (.inl rfl)
    · split
      · exact .inr (.inr rfl)
      · exact .inl rfl
theorem cmpL_flip {p q : Nat → Bool} {n : Nat} : cmpL (spansTo q n) (spansTo p n) = if cmpL (spansTo p n) (spansTo q n) = 2 then 3 else if cmpL (spansTo p n) (spansTo q n) = 3 then 2 else cmpL (spansTo p n) (spansTo q n) := by
  have h1 := hull_le (p := p) (n := n)
  have h2 := hull_le (p := q) (n := n)
  generalize spansTo p n = l at *
  generalize spansTo q n = m at *
  unfold cmpL
  by_cases hl : l = []
  · subst hl; simp
  · by_cases hm : m = []
    · subst hm; simp
    · have h1 := h1 hl
      have h2 := h2 hm
      have e1 : (l.isEmpty || m.isEmpty) = false := by cases l <;> cases m <;> simp_all
      have e2 : (m.isEmpty || l.isEmpty) = false := by rw [Bool.or_comm]; exact e1
      rw [e1, e2]
      simp only [Bool.false_eq_true, if_false]
      by_cases a : (hullL l).2 < (hullL m).1
      · have b : ¬ (hullL m).2 < (hullL l).1 := by omega
        simp [a, b]
      · by_cases b : (hullL m).2 < (hullL l).1
        · simp [a, b]
        · simp [a, b]
theorem cmpE_eq (n m : Nat) (D lv : Int) : cmpE n m D lv = if wrongE n D ≠ 0 then wrongE n D else if wrongE m D ≠ 0 then wrongE m D else if inB lv 2 450000 then 0 else 2 := by
  unfold cmpE
  rw [listed_wrong, listed_wrong]
  unfold wrongE
  cases hD : inB D 2 1000 with
  | false => simp
  | true =>
    simp only [Bool.true_eq_false, if_false]
    by_cases h1 : (4000 : Int) < n
    · have : ¬ n ≤ 4000 := by omega
      simp [h1, this]
    · have : n ≤ 4000 := by omega
      by_cases h2 : (4000 : Int) < m
      · simp [h1, h2, this]
      · simp [h1, h2]
end Go.Proofs.Ytolhfimknimliaa.Q
namespace Go.Proofs.Ytolhfimknimliaa.Q
open Go.Cnt
theorem firstN_all {p : Nat → Bool} : ∀ (m n : Nat), (∀ j, n ≤ j → j < n + m → p j = false) → firstN p n m = none := by
  intro m
  induction m with
  | zero => intro n _; rfl
  | succ m ih =>
    intro n h
    rw [firstN, if_neg (by rw [h n (Nat.le_refl _) (by omega)]; simp)]
    exact ih (n + 1) fun j h1 h2 => h j (by omega) (by omega)
theorem kp_ex {D : Nat} {lv : Int} (hl : 2 ≤ lv) (xs : List Bool) (k : Nat) : kp (sts D lv xs) k = (exN D lv k xs).isNone := by rw [kp_rkp hl]; rfl
theorem kp_greater {D : Nat} {lv gr : Int} (hl : 2 ≤ lv) (hg : lv ≤ gr) (xs : List Bool) (k : Nat) (h : kp (sts D lv xs) k = true) : kp (sts D gr xs) k = true := by
  rw [kp_ex hl] at h
  rw [kp_ex (by omega)]
  have h1 : exN (D : Int) lv k xs = none := by simpa using h
  have h2 := firstN_none _ _ h1
  have h3 : exN (D : Int) gr k xs = none := firstN_all _ _ fun j a b => by
    have := h2 j a b
    simp only [decide_eq_false_iff_not] at this ⊢
    omega
  rw [h3]; rfl
theorem hit_miss {c n h D k : Int} (hD : D ≠ 0) : hitC c n h D k = missC c n (n - h) D (D - k) := by
  unfold hitC missC
  by_cases h0 : k = 0
  · subst h0
    rw [if_pos rfl, if_neg (by omega), if_pos (by omega)]
  · rw [if_neg h0]
    by_cases h1 : k = D
    · rw [if_pos h1, if_pos (by omega)]
    · rw [if_neg h1, if_neg (by omega), if_neg (by omega), show n - (n - h) + 1 = h + 1 by omega, show D - (D - k) = k by omega]
theorem miss_hit {c n h D k : Int} (hD : D ≠ 0) : missC c n h D k = hitC c n (n - h) D (D - k) := by
  rw [hit_miss hD, show n - (n - h) = h by omega, show D - (D - k) = k by omega]
theorem cst_turn {D k : Int} (hD : D ≠ 0) (xs : List Bool) : (cst D (D - k) (xs.map (!·))).c = (cst D k xs).c ∧ (cst D (D - k) (xs.map (!·))).h = (cst D k xs).n - (cst D k xs).h ∧ (cst D (D - k) (xs.map (!·))).n = (cst D k xs).n := by
  induction xs using snoc_ind with
  | h0 => simp [cst, BS.new]
  | h1 xs x ih =>
    obtain ⟨h1, h2, h3⟩ := ih
    rw [List.map_append, List.map_cons, List.map_nil, cst_app, cst_app]
    generalize cst D (D - k) (xs.map (!·)) = s at *
    generalize cst D k xs = t at *
    refine ⟨?_, ?_, ?_⟩
    · show nextC s.c s.n s.h D (D - k) (!x) = nextC t.c t.n t.h D k x
      rw [h1, h2, h3]
      cases x
      · show hitC t.c t.n (t.n - t.h) D (D - k) = missC t.c t.n t.h D k
        exact (miss_hit hD).symm
      · show missC t.c t.n (t.n - t.h) D (D - k) = hitC t.c t.n t.h D k
        exact (hit_miss hD).symm
    · show s.h + b2i (!x) = t.n + 1 - (t.h + b2i x)
      rw [h2]
      cases x <;> simp [b2i] <;> omega
    · show s.n + 1 = t.n + 1
      rw [h3]
theorem ex_turn {D lv k : Int} (hD : D ≠ 0) (xs : List Bool) : exN D lv (D - k) (xs.map (!·)) = exN D lv k xs := by
  unfold exN
  rw [List.length_map]
  refine firstN_congr _ _ fun i _ _ => ?_
  rw [← List.map_take, (cst_turn hD (xs.take i)).1]
theorem kp_turn {D : Nat} {lv : Int} (hl : 2 ≤ lv) (hD : D ≠ 0) (xs : List Bool) (k : Nat) (hk : k ≤ D) : kp (sts D lv (xs.map (!·))) (D - k) = kp (sts D lv xs) k := by
  rw [kp_ex hl, kp_ex hl, show ((D - k : Nat) : Int) = (D : Int) - k by omega, ex_turn (by omega)]
theorem has_keptL {D : Nat} {lv : Int} {xs : List Bool} {k : Nat} (hk : k ≤ D) : hasL (keptL D lv xs) k = kp (sts D lv xs) k := by
  cases h : kp (sts D lv xs) k with
  | true => exact hasL_iff.2 ⟨k, rfl, by omega, h⟩
  | false =>
    cases h2 : hasL (keptL D lv xs) k with
    | false => rfl
    | true =>
      obtain ⟨j, e, _, h3⟩ := hasL_iff.1 h2
      have : k = j := by omega
      subst this
      rw [h] at h3
      cases h3
end Go.Proofs.Ytolhfimknimliaa.Q
namespace Go.Proofs.Ytolhfimknimliaa.Q
open Go.Cnt Go.Ev
def sumN (g : Nat → Int) : Nat → Int
  | 0 => 0
  | m + 1 => sumN g m + g m
theorem sumN_congr {g h : Nat → Int} : ∀ {m : Nat}, (∀ b, b < m → g b = h b) → sumN g m = sumN h m := by
  intro m
  induction m with
  | zero => intro _; rfl
  | succ m ih => intro e; rw [sumN, sumN, ih fun b hb => e b (by omega), e m (by omega)]
theorem sumN_le {g h : Nat → Int} : ∀ {m : Nat}, (∀ b, b < m → g b ≤ h b) → sumN g m ≤ sumN h m := by
  intro m
  induction m with
  | zero => intro _; exact Int.le_refl _
  | succ m ih =>
    intro e
    have h1 := ih fun b hb => e b (by omega)
    have h2 := e m (by omega)
    rw [sumN, sumN]
    omega
theorem sumN_mul (c : Int) (g : Nat → Int) : ∀ m, sumN (fun b => c * g b) m = c * sumN g m := by
  intro m
  induction m with
  | zero => simp [sumN]
  | succ m ih => rw [sumN, sumN, ih, Int.mul_add]
theorem sumN_add (g h : Nat → Int) : ∀ m, sumN (fun b => g b + h b) m = sumN g m + sumN h m := by
  intro m
  induction m with
  | zero => simp [sumN]
  | succ m ih => rw [sumN, sumN, sumN, ih]; omega
theorem sumN_split (g : Nat → Int) (a : Nat) : ∀ b, sumN g (a + b) = sumN g a + sumN (fun i => g (a + i)) b := by
  intro b
  induction b with
  | zero => simp [sumN]
  | succ b ih => rw [← Nat.add_assoc, sumN, sumN, ih]; omega
/-- the sum over all outcomes of n slots -/
def tot (n : Nat) (f : List Bool → Int) : Int := sumN (fun b => f (outN n b)) (2 ^ n)
theorem outN_low {n b : Nat} (h : b < 2 ^ n) : outN (n + 1) b = outN n b ++ [false] := by
  rw [outN_succ, Nat.testBit_lt_two_pow h]
theorem outN_high {n b : Nat} (h : b < 2 ^ n) : outN (n + 1) (2 ^ n + b) = outN n b ++ [true] := by
  rw [outN_succ, Nat.testBit_two_pow_add_eq, Nat.testBit_lt_two_pow h]
  congr 1
  unfold outN
  refine List.map_congr_left fun j hj => ?_
  rw [Nat.testBit_two_pow_add_gt (List.mem_range.1 hj)]
theorem tot_succ (n : Nat) (f : List Bool → Int) : tot (n + 1) f = tot n (fun x => f (x ++ [false]) + f (x ++ [true])) := by
  unfold tot
  rw [show 2 ^ (n + 1) = 2 ^ n + 2 ^ n by rw [Nat.pow_succ]; omega, sumN_split, sumN_add]
  congr 1
  · exact sumN_congr fun b hb => by rw [outN_low hb]
  · exact sumN_congr fun b hb => by rw [outN_high hb]
theorem tot_le {n : Nat} {f g : List Bool → Int} (h : ∀ x, x.length = n → f x ≤ g x) : tot n f ≤ tot n g := sumN_le fun b _ => h _ (outN_len n b)
theorem tot_congr {n : Nat} {f g : List Bool → Int} (h : ∀ x, x.length = n → f x = g x) : tot n f = tot n g := sumN_congr fun b _ => h _ (outN_len n b)
theorem tot_mul (n : Nat) (c : Int) (f : List Bool → Int) : tot n (fun x => c * f x) = c * tot n f := sumN_mul c _ _
theorem tot_add (n : Nat) (f g : List Bool → Int) : tot n (fun x => f x + g x) = tot n f + tot n g := sumN_add _ _ _
/-- the weight of an outcome -/
def wtI (D k : Int) (xs : List Bool) : Int := xs.foldl (fun n x => n * (if x then k else D - k)) 1
theorem wtI_app (D k : Int) (xs : List Bool) (x : Bool) : wtI D k (xs ++ [x]) = wtI D k xs * (if x then k else D - k) := by
  unfold wtI
  rw [List.foldl_append]
  rfl
theorem wtI_bd {D k : Int} (hk0 : 0 ≤ k) (hk1 : k ≤ D) (xs : List Bool) : 0 ≤ wtI D k xs ∧ wtI D k xs ≤ D ^ xs.length := by
  induction xs using snoc_ind with
  | h0 => simp [wtI]
  | h1 xs x ih =>
    rw [wtI_app]
    have h0 : 0 ≤ (if x then k else D - k) ∧ (if x then k else D - k) ≤ D := by cases x <;> simp <;> omega
    have := mul_bd ih.1 h0.1 ih.2 h0.2
    rw [List.length_append, List.length_cons, List.length_nil, Int.pow_succ]
    exact this
theorem pow_mono {D : Int} (hD : 1 ≤ D) {a b : Nat} (h : a ≤ b) : D ^ a ≤ D ^ b := by
  induction b with
  | zero => rw [show a = 0 by omega]; exact Int.le_refl _
  | succ b ih =>
    by_cases e : a = b + 1
    · rw [e]; exact Int.le_refl _
    · have h1 := ih (by omega)
      have h2 : 0 ≤ D ^ b := Int.pow_nonneg (by omega)
      have h3 : D ^ b * 1 ≤ D ^ b * D := Int.mul_le_mul_of_nonneg_left hD h2
      rw [Int.pow_succ]
      omega
theorem pow_40 {d n : Nat} (hd : d ≤ 40) (hn : n ≤ 9) : (d : Int) ^ n ≤ 262144000000000 := by
  have h1 : d ^ n ≤ 40 ^ 9 := Nat.le_trans (Nat.pow_le_pow_left hd n) (Nat.pow_le_pow_right (by omega) hn)
  have h2 : ((d ^ n : Nat) : Int) = (d : Int) ^ n := by simp
  omega
theorem wtw_app (D k : Int) (xs : List Bool) (x : Bool) : wtw D k (xs ++ [x]) = w64 (wtw D k xs * (if x then k else w64 (D - k))) := by
  unfold wtw
  rw [List.foldl_append]
  rfl
/-- the machine reckons the weight without a wrap -/
theorem wtw_eq {D k : Int} (hk0 : 0 ≤ k) (hk1 : k ≤ D) (hD : 1 ≤ D) (xs : List Bool) : D ^ xs.length ≤ 4611686018427387904 → wtw D k xs = wtI D k xs := by
  induction xs using snoc_ind with
  | h0 => intro _; rfl
  | h1 xs x ih =>
    intro h
    have hlen : (xs ++ [x]).length = xs.length + 1 := by simp
    rw [hlen] at h
    have h1 := pow_mono hD (show 1 ≤ xs.length + 1 by omega)
    rw [Int.pow_one] at h1
    have h2 := pow_mono hD (show xs.length ≤ xs.length + 1 by omega)
    have hb := wtI_bd hk0 hk1 (xs ++ [x])
    rw [hlen] at hb
    rw [wtw_app, ih (by omega)]
    have e : w64 (D - k) = D - k := w64_id (by omega) (by omega)
    rw [e, ← wtI_app]
    exact w64_id (by omega) (by omega)
theorem sumN_nonneg {g : Nat → Int} (h : ∀ b, 0 ≤ g b) : ∀ m, 0 ≤ sumN g m := by
  intro m
  induction m with
  | zero => exact Int.le_refl _
  | succ m ih => have := h m; rw [sumN]; omega
theorem sumN_mono {g : Nat → Int} (h : ∀ b, 0 ≤ g b) {a : Nat} : ∀ {b : Nat}, a ≤ b → sumN g a ≤ sumN g b := by
  intro b
  induction b with
  | zero => intro e; rw [show a = 0 by omega]; exact Int.le_refl _
  | succ b ih =>
    intro e
    by_cases h1 : a = b + 1
    · rw [h1]; exact Int.le_refl _
    · have h2 := ih (by omega)
      have h3 := h b
      rw [sumN]
      omega
theorem tot_nonneg {n : Nat} {f : List Bool → Int} (h : ∀ x, 0 ≤ f x) : 0 ≤ tot n f := sumN_nonneg (fun _ => h _) _
/-- the weights and a bet that is fair, or worse: what the bets come to, over all outcomes -/
theorem tot_fair {D k : Int} (hk0 : 0 ≤ k) (hk1 : k ≤ D) {F : List Bool → Int} : ∀ (n : Nat), (∀ x, x.length < n → k * F (x ++ [true]) + (D - k) * F (x ++ [false]) ≤ D * F x) →
    tot n (fun x => wtI D k x * F x) ≤ D ^ n * F [] := by
  intro n
  induction n with
  | zero => intro _; simp [tot, sumN, outN, wtI]
  | succ n ih =>
    intro h
    rw [tot_succ]
    have h1 : tot n (fun x => wtI D k (x ++ [false]) * F (x ++ [false]) + wtI D k (x ++ [true]) * F (x ++ [true])) ≤ tot n (fun x => D * (wtI D k x * F x)) := by
      refine tot_le fun x hx => ?_
      rw [wtI_app, wtI_app]
      simp only [Bool.false_eq_true, if_false, if_true]
      have h2 := h x (by omega)
      have h3 := Int.mul_le_mul_of_nonneg_left h2 (wtI_bd hk0 hk1 x).1
      rw [Int.mul_add] at h3
      have e1 : wtI D k x * (D - k) * F (x ++ [false]) = wtI D k x * ((D - k) * F (x ++ [false])) := Int.mul_assoc _ _ _
      have e2 : wtI D k x * k * F (x ++ [true]) = wtI D k x * (k * F (x ++ [true])) := Int.mul_assoc _ _ _
      have e3 : D * (wtI D k x * F x) = wtI D k x * (D * F x) := by rw [← Int.mul_assoc, ← Int.mul_assoc, Int.mul_comm D]
      omega
    rw [tot_mul] at h1
    have h4 := ih fun x hx => h x (by omega)
    have h5 := Int.mul_le_mul_of_nonneg_left h4 (show 0 ≤ D by omega)
    have e4 : D ^ (n + 1) * F [] = D * (D ^ n * F []) := by rw [Int.pow_succ, Int.mul_comm (D ^ n) D, Int.mul_assoc]
    omega
/-- the weights of all outcomes -/
theorem tot_wt {D k : Int} : ∀ (n : Nat), tot n (fun x => wtI D k x) = D ^ n := by
  intro n
  induction n with
  | zero => simp [tot, sumN, outN, wtI]
  | succ n ih =>
    rw [tot_succ]
    have : tot n (fun x => wtI D k (x ++ [false]) + wtI D k (x ++ [true])) = tot n (fun x => D * wtI D k x) := by
      refine tot_congr fun x _ => ?_
      rw [wtI_app, wtI_app]
      simp only [Bool.false_eq_true, if_false, if_true]
      rw [← Int.mul_add, show D - k + k = D by omega, Int.mul_comm]
    rw [this, tot_mul, ih, Int.pow_succ, Int.mul_comm]
theorem fair_all {c n h D k : Int} (hc : 0 ≤ c) (hn : 0 ≤ n) (hk0 : 0 ≤ k) (hk1 : k ≤ D) : k * hitC c n h D k + (D - k) * missC c n h D k ≤ D * c := by
  by_cases h0 : k = 0
  · subst h0
    have : missC c n h D 0 = c := by unfold missC; rw [if_pos rfl]
    rw [this]
    simp
  · by_cases h1 : k = D
    · subst h1
      have : hitC c n h k k = c := by unfold hitC; rw [if_neg h0, if_pos rfl]
      rw [this]
      simp
    · exact fair hc hn (by omega) (by omega)
/-- the bet of the program, stopped where it excludes, is fair, or worse -/
theorem bst_fair {D lv k : Int} (hk0 : 0 ≤ k) (hk1 : k ≤ D) (x : List Bool) : k * (bst D lv k (x ++ [true])).c + (D - k) * (bst D lv k (x ++ [false])).c ≤ D * (bst D lv k x).c := by
  rw [bst_app, bst_app]
  have hok := bst_ok (D := D) (lv := lv) (k := k) (by omega) hk0 hk1 x
  generalize bst D lv k x = s at *
  cases ho : s.out with
  | true =>
    have e : ∀ b, bstep D lv k s b = s := fun b => by rw [bstep, if_pos ho]
    rw [e, e, ← Int.add_mul, show k + (D - k) = D by omega]
    exact Int.le_refl _
  | false =>
    have e : ∀ b, (bstep D lv k s b).c = nextC s.c s.n s.h D k b := fun b => by
      unfold bstep
      rw [if_neg (by rw [ho]; simp)]
      split <;> rfl
    rw [e, e]
    exact fair_all hok.1 (by have := hok.2.2.1; have := hok.2.2.2.1; omega) hk0 hk1
/-- where it excludes, it has the level -/
theorem bst_level {D lv k : Int} (x : List Bool) (h : (bst D lv k x).out = true) : lv * 1048576 ≤ (bst D lv k x).c := by
  induction x using snoc_ind with
  | h0 => cases h
  | h1 x b ih =>
    rw [bst_app] at h ⊢
    cases ho : (bst D lv k x).out with
    | true =>
      rw [bstep, if_pos ho]
      exact ih ho
    | false =>
      by_cases hc : lv * 1048576 ≤ (bnext D k (bst D lv k x) b).c
      · rw [bstep_yes ho hc]; exact hc
      · rw [bstep_no ho hc] at h
        have : (bnext D k (bst D lv k x) b).out = (bst D lv k x).out := rfl
        rw [this, ho] at h
        cases h
/-- the theorem of confidence -/
theorem sure {D lv k : Int} (hk0 : 0 ≤ k) (hk1 : k ≤ D) (n : Nat) : lv * tot n (fun x => if (bst D lv k x).out then wtI D k x else 0) ≤ D ^ n := by
  have h1 := tot_fair hk0 hk1 (F := fun x => (bst D lv k x).c) n fun x _ => bst_fair hk0 hk1 x
  have h2 : tot n (fun x => (lv * 1048576) * (if (bst D lv k x).out then wtI D k x else 0)) ≤ tot n (fun x => wtI D k x * (bst D lv k x).c) := by
    refine tot_le fun x _ => ?_
    have hw := (wtI_bd hk0 hk1 x).1
    have hc := (bst_ok (D := D) (lv := lv) (k := k) (by omega) hk0 hk1 x).1
    by_cases ho : (bst D lv k x).out = true
    · rw [if_pos ho, Int.mul_comm]
      exact Int.mul_le_mul_of_nonneg_left (bst_level x ho) hw
    · rw [if_neg ho, Int.mul_zero]
      exact Int.mul_nonneg hw hc
  rw [tot_mul] at h2
  have h3 : (bst D lv k []).c = 1048576 := rfl
  simp only [h3] at h1
  have h4 : lv * 1048576 * tot n (fun x => if (bst D lv k x).out then wtI D k x else 0) = (lv * tot n (fun x => if (bst D lv k x).out then wtI D k x else 0)) * 1048576 := by
    rw [Int.mul_assoc, Int.mul_assoc, Int.mul_comm 1048576]
  omega
end Go.Proofs.Ytolhfimknimliaa.Q
namespace Go.Proofs.Ytolhfimknimliaa.Q
open Go.Cnt Go.Ev
theorem allFrom_out {S : Nat → BS} : ∀ {m k : Nat} {n : Int}, (allFrom S k n m).2 = true → ∀ j, k ≤ j → j < k + m → (S j).out = true := by
  intro m
  induction m with
  | zero => intro k n _ j h1 h2; omega
  | succ m ih =>
    intro k n h j h1 h2
    rw [allFrom] at h
    by_cases ho : (S k).out = true
    · rw [if_pos ho] at h
      by_cases e : j = k
      · subst e; exact ho
      · exact ih h j (by omega) (by omega)
    · rw [if_neg ho] at h; cases h
theorem allFrom_true {S : Nat → BS} : ∀ {m k : Nat} {n : Int}, (∀ j, k ≤ j → j < k + m → (S j).out = true) → (allFrom S k n m).2 = true := by
  intro m
  induction m with
  | zero => intro k n _; rfl
  | succ m ih =>
    intro k n h
    rw [allFrom, if_pos (h k (Nat.le_refl _) (by omega))]
    exact ih fun j h1 h2 => h j (by omega) (by omega)
theorem allFrom_same {S S' : Nat → BS} (hs : ∀ j, (S j).out = true → S' j = S j) : ∀ {m k : Nat} {n : Int}, (allFrom S k n m).2 = true → allFrom S' k n m = allFrom S k n m := by
  intro m
  induction m with
  | zero => intro k n _; rfl
  | succ m ih =>
    intro k n h
    rw [allFrom] at h
    by_cases ho : (S k).out = true
    · rw [if_pos ho] at h
      rw [allFrom, allFrom, hs k ho, if_pos ho, if_pos ho]
      exact ih h
    · rw [if_neg ho] at h; cases h
theorem allFrom_le {S : Nat → BS} {N : Int} : ∀ {m k : Nat} {n : Int}, (∀ j, k ≤ j → j < k + m → 0 ≤ (S j).at_ ∧ (S j).at_ ≤ N) → 0 ≤ n → n ≤ N → 0 ≤ (allFrom S k n m).1 ∧ (allFrom S k n m).1 ≤ N := by
  intro m
  induction m with
  | zero => intro k n _ h0 h1; exact ⟨h0, h1⟩
  | succ m ih =>
    intro k n h h0 h1
    rw [allFrom]
    split
    · have := h k (Nat.le_refl _) (by omega)
      exact ih (fun j a b => h j (by omega) (by omega)) (by omega) (by omega)
    · exact ⟨Int.le_refl _, by omega⟩
theorem allFrom_init {S : Nat → BS} : ∀ {m k : Nat} {n : Int}, (allFrom S k n m).2 = true → n ≤ (allFrom S k n m).1 := by
  intro m
  induction m with
  | zero => intro k n _; exact Int.le_refl _
  | succ m ih =>
    intro k n h
    rw [allFrom] at h ⊢
    by_cases ho : (S k).out = true
    · rw [if_pos ho] at h ⊢
      have := ih h
      omega
    · rw [if_neg ho] at h; cases h
theorem allFrom_ge {S : Nat → BS} : ∀ {m k : Nat} {n : Int}, (allFrom S k n m).2 = true → ∀ j, k ≤ j → j < k + m → (S j).at_ ≤ (allFrom S k n m).1 := by
  intro m
  induction m with
  | zero => intro k n _ j h1 h2; omega
  | succ m ih =>
    intro k n h j h1 h2
    rw [allFrom] at h ⊢
    by_cases ho : (S k).out = true
    · rw [if_pos ho] at h ⊢
      by_cases e : j = k
      · subst e
        have := allFrom_init h
        omega
      · exact ih h j (by omega) (by omega)
    · rw [if_neg ho] at h; cases h
/-- what is excluded later, is excluded later -/
theorem at_later {D lv k : Int} (hl : 2 ≤ lv) (xs ys : List Bool) (h : (bst D lv k xs).out = false) (h2 : (bst D lv k (xs ++ ys)).out = true) : (xs.length : Int) + 1 ≤ (bst D lv k (xs ++ ys)).at_ := by
  rw [out_ex hl] at h h2
  obtain ⟨m, hm⟩ := Option.isSome_iff_exists.1 h2
  rw [((bst_ex hl (xs ++ ys)).2 m hm).2]
  have h3 : exN D lv k xs = none := by
    cases he : exN D lv k xs with
    | none => rfl
    | some _ => rw [he] at h; cases h
  have h4 := firstN_none _ _ h3
  obtain ⟨_, _, h5, _⟩ := firstN_some _ _ hm
  rcases Nat.lt_or_ge xs.length m with h6 | h6
  · omega
  · have := h4 m (by omega) (by omega)
    rw [List.take_append_of_le_length h6] at h5
    rw [this] at h5
    cases h5
theorem at_bd {D : Nat} {lv : Int} (xs : List Bool) (j : Nat) (hj : j ≤ D) : 0 ≤ (sts D lv xs j).at_ ∧ (sts D lv xs j).at_ ≤ xs.length := by
  have := bst_ok (D := (D : Int)) (lv := lv) (k := j) (by omega) (by omega) (by omega) xs
  exact ⟨this.2.2.2.2.2.1, this.2.2.2.2.2.2⟩
theorem decS_bd {D : Nat} {lv : Int} (xs : List Bool) {lo hi : Nat} (hlo : lo ≤ D) (hhi : hi ≤ D) : 0 ≤ (decS (sts D lv xs) D lo hi).2 ∧ (decS (sts D lv xs) D lo hi).2 ≤ xs.length := by
  have h1 := allFrom_le (S := sts D lv xs) (N := xs.length) (m := D + 1 - hi) (k := hi) (n := 0) (fun j a b => at_bd xs j (by omega)) (Int.le_refl _) (by omega)
  have h2 := allFrom_le (S := sts D lv xs) (N := xs.length) (m := lo + 1) (k := 0) (n := 0) (fun j a b => at_bd xs j (by omega)) (Int.le_refl _) (by omega)
  unfold decS
  split
  · exact h1
  · split
    · exact h2
    · exact ⟨Int.le_refl _, by simp⟩
theorem dec_below {S : Nat → BS} {D lo hi : Nat} (h : (decS S D lo hi).1 = 2) (k : Nat) (h1 : hi ≤ k) (h2 : k ≤ D) : (S k).out = true := by
  unfold decS at h
  split at h
  · rename_i hc
    simp only [Bool.and_eq_true] at hc
    exact allFrom_out hc.1 k h1 (by omega)
  · split at h <;> simp at h
theorem dec_above {S : Nat → BS} {D lo hi : Nat} (h : (decS S D lo hi).1 = 3) (k : Nat) (h1 : k ≤ lo) : (S k).out = true := by
  unfold decS at h
  split at h
  · simp at h
  · split at h
    · rename_i hc
      exact allFrom_out hc k (by omega) (by omega)
    · simp at h
/-- a verdict that was decided stays -/
theorem dec_stays {D : Nat} {lv : Int} (hl : 2 ≤ lv) (xs ys : List Bool) {lo hi : Nat} (hlo : lo ≤ D) (hhi : hi ≤ D) (h : (decS (sts D lv xs) D lo hi).1 ≠ 1) : decS (sts D lv (xs ++ ys)) D lo hi = decS (sts D lv xs) D lo hi := by
  have hs : ∀ j, (sts D lv xs j).out = true → sts D lv (xs ++ ys) j = sts D lv xs j := fun j hj => out_more xs ys hj
  have late : ∀ (k m : Nat), k + m ≤ D + 1 → (allFrom (sts D lv xs) k 0 m).2 = false → (allFrom (sts D lv (xs ++ ys)) k 0 m).2 = true → (xs.length : Int) + 1 ≤ (allFrom (sts D lv (xs ++ ys)) k 0 m).1 := by
    intro k m hkm h1 h2
    have h3 : ∃ j, k ≤ j ∧ j < k + m ∧ (sts D lv xs j).out = false := by
      cases Classical.em (∃ j, k ≤ j ∧ j < k + m ∧ (sts D lv xs j).out = false) with
      | inl h => exact h
      | inr hno =>
        have : (allFrom (sts D lv xs) k 0 m).2 = true := allFrom_true fun j a b => by
          cases hb : (sts D lv xs j).out with
          | true => rfl
          | false => exact absurd ⟨j, a, b, hb⟩ hno
        rw [h1] at this
        cases this
    obtain ⟨j, a, b, hj⟩ := h3
    have h4 := allFrom_out h2 j a b
    have h5 := at_later hl xs ys hj h4
    have h6 := allFrom_ge h2 j a b
    exact Int.le_trans h5 h6
  have bdB := allFrom_le (S := sts D lv xs) (N := xs.length) (m := D + 1 - hi) (k := hi) (n := 0) (fun j a b => at_bd xs j (by omega)) (Int.le_refl _) (by omega)
  have bdA := allFrom_le (S := sts D lv xs) (N := xs.length) (m := lo + 1) (k := 0) (n := 0) (fun j a b => at_bd xs j (by omega)) (Int.le_refl _) (by omega)
  have lB := late hi (D + 1 - hi) (by omega)
  have lA := late 0 (lo + 1) (by omega)
  have sB := allFrom_same hs (m := D + 1 - hi) (k := hi) (n := 0)
  have sA := allFrom_same hs (m := lo + 1) (k := 0) (n := 0)
  unfold decS at *
  generalize allFrom (sts D lv xs) hi 0 (D + 1 - hi) = B at *
  generalize allFrom (sts D lv xs) 0 0 (lo + 1) = A at *
  generalize allFrom (sts D lv (xs ++ ys)) hi 0 (D + 1 - hi) = B' at *
  generalize allFrom (sts D lv (xs ++ ys)) 0 0 (lo + 1) = A' at *
  obtain ⟨b, tb⟩ := B
  obtain ⟨a, ta⟩ := A
  simp only at *
  cases tb with
  | true =>
    have := sB rfl
    subst this
    cases ta with
    | true =>
      have := sA rfl
      subst this
      rfl
    | false =>
      cases hA : A'.2 with
      | false => simp
      | true =>
        have := lA rfl hA
        have h7 : b ≤ A'.1 := by omega
        simp [h7]
  | false =>
    cases ta with
    | true =>
      have := sA rfl
      subst this
      cases hB : B'.2 with
      | false => simp
      | true =>
        have := lB rfl hB
        have h7 : ¬ B'.1 ≤ a := by omega
        simp [h7]
    | false => simp at h
end Go.Proofs.Ytolhfimknimliaa.Q
namespace Go.Proofs.Ytolhfimknimliaa.Q
open Go.Cnt Go.Ev
theorem chgN_some {D : Nat} {lv : Int} {xs : List Bool} : ∀ {m i : Nat} {r : Nat × Nat}, chgN D lv xs i m = some r → ∃ i', i ≤ i' ∧ i' < i + m ∧ ∃ j, j < (wl (i' + 1)).length ∧ dead D lv xs i' j = true := by
  intro m
  induction m with
  | zero => intro i r h; cases h
  | succ m ih =>
    intro i r h
    rw [chgN] at h
    split at h
    · rename_i j hj
      obtain ⟨_, h2, h3, _⟩ := firstN_some _ _ hj
      exact ⟨i, Nat.le_refl _, by omega, j, by omega, h3⟩
    · obtain ⟨i', h1, h2, h3⟩ := ih h
      exact ⟨i', by omega, by omega, h3⟩
theorem empty_out {D : Nat} {lv : Int} {xs : List Bool} (h : (keptL D lv xs).isEmpty = true) (k : Nat) (hk : k ≤ D) : (bst D lv k xs).out = true := by
  cases ho : (bst D lv k xs).out with
  | true => rfl
  | false =>
    have h1 : kp (sts D lv xs) k = true := by show (!(bst D lv k xs).out) = true; rw [ho]; rfl
    obtain ⟨s, hs, _⟩ := spansTo_has (n := D + 1) (show k < D + 1 by omega) h1
    have : keptL D lv xs = [] := by simpa using h
    rw [keptL] at this
    rw [this] at hs
    cases hs
theorem drop_fair {D lv k : Int} (hk0 : 0 ≤ k) (hk1 : k ≤ D) (s : Nat) (x : List Bool) : k * (bst D lv k ((x ++ [true]).drop s)).c + (D - k) * (bst D lv k ((x ++ [false]).drop s)).c ≤ D * (bst D lv k (x.drop s)).c := by
  rcases Nat.lt_or_ge x.length s with h | h
  · rw [List.drop_eq_nil_of_le (by simp; omega), List.drop_eq_nil_of_le (by simp; omega), List.drop_eq_nil_of_le (by omega), ← Int.add_mul, show k + (D - k) = D by omega]
    exact Int.le_refl _
  · rw [List.drop_append_of_le_length h, List.drop_append_of_le_length h]
    exact bst_fair hk0 hk1 _
theorem sure_drop {D lv k : Int} (hk0 : 0 ≤ k) (hk1 : k ≤ D) (s n : Nat) : lv * tot n (fun x => if (bst D lv k (x.drop s)).out then wtI D k x else 0) ≤ D ^ n := by
  have h1 := tot_fair hk0 hk1 (F := fun x => (bst D lv k (x.drop s)).c) n fun x _ => drop_fair hk0 hk1 s x
  have h2 : tot n (fun x => (lv * 1048576) * (if (bst D lv k (x.drop s)).out then wtI D k x else 0)) ≤ tot n (fun x => wtI D k x * (bst D lv k (x.drop s)).c) := by
    refine tot_le fun x _ => ?_
    have hw := (wtI_bd hk0 hk1 x).1
    have hc := (bst_ok (D := D) (lv := lv) (k := k) (by omega) hk0 hk1 (x.drop s)).1
    by_cases ho : (bst D lv k (x.drop s)).out = true
    · rw [if_pos ho, Int.mul_comm]
      exact Int.mul_le_mul_of_nonneg_left (bst_level _ ho) hw
    · rw [if_neg ho, Int.mul_zero]
      exact Int.mul_nonneg hw hc
  rw [tot_mul] at h2
  have h3 : (bst D lv k (([] : List Bool).drop s)).c = 1048576 := by rw [List.drop_nil]; rfl
  simp only [h3] at h1
  have h4 : lv * 1048576 * tot n (fun x => if (bst D lv k (x.drop s)).out then wtI D k x else 0) = (lv * tot n (fun x => if (bst D lv k (x.drop s)).out then wtI D k x else 0)) * 1048576 := by
    rw [Int.mul_assoc, Int.mul_assoc, Int.mul_comm 1048576]
  omega
def st8 (j : Nat) : Nat := [0, 1, 2, 4].getD j 0
theorem wl8 : ∀ i, i < 8 → ∀ j, j < (wl (i + 1)).length → j < 4 ∧ (wl (i + 1)).getD j 0 = st8 j := by decide
theorem steady_ev {D : Nat} {lv : Int} {xs : List Bool} {r : Nat × Nat} (hn : xs.length ≤ 8) (h : chgN D lv xs 0 xs.length = some r) (k : Nat) (hk : k ≤ D) : ∃ j, j < 4 ∧ (bst D (wlv lv j) k (xs.drop (st8 j))).out = true := by
  obtain ⟨i, _, hi, j, hj, hd⟩ := chgN_some h
  obtain ⟨h4, hst⟩ := wl8 i (by omega) j hj
  refine ⟨j, h4, ?_⟩
  have h1 := empty_out hd k hk
  unfold seen at h1
  rw [hst] at h1
  have e : xs.drop (st8 j) = (xs.take (i + 1)).drop (st8 j) ++ (xs.drop (i + 1)).drop (st8 j - (xs.take (i + 1)).length) := by
    rw [← List.drop_append, List.take_append_drop]
  rw [e, out_more _ _ h1]
  exact h1
theorem steady {D : Nat} {lv : Int} (hl : 0 ≤ lv) (k : Nat) (hk : k ≤ D) (n : Nat) (hn : n ≤ 8) : lv * tot n (fun x => if (chgN D lv x 0 x.length).isSome then wtI D k x else 0) ≤ (D : Int) ^ n := by
  have S := fun j => sure_drop (D := (D : Int)) (lv := wlv lv j) (k := k) (by omega) (by omega) (st8 j) n
  have h1 : tot n (fun x => if (chgN D lv x 0 x.length).isSome then wtI D k x else 0) ≤
      tot n (fun x => (((if (bst D (wlv lv 0) k (x.drop (st8 0))).out then wtI D k x else 0) + (if (bst D (wlv lv 1) k (x.drop (st8 1))).out then wtI D k x else 0)) + (if (bst D (wlv lv 2) k (x.drop (st8 2))).out then wtI D k x else 0)) + (if (bst D (wlv lv 3) k (x.drop (st8 3))).out then wtI D k x else 0)) := by
    refine tot_le fun x hx => ?_
    have hw := (wtI_bd (D := (D : Int)) (k := k) (by omega) (by omega) x).1
    have nn : ∀ b : Bool, 0 ≤ (if b then wtI D k x else 0) := fun b => by cases b <;> simp [hw]
    have n0 := nn (bst D (wlv lv 0) k (x.drop (st8 0))).out
    have n1 := nn (bst D (wlv lv 1) k (x.drop (st8 1))).out
    have n2 := nn (bst D (wlv lv 2) k (x.drop (st8 2))).out
    have n3 := nn (bst D (wlv lv 3) k (x.drop (st8 3))).out
    cases hc : chgN D lv x 0 x.length with
    | none => simp only [Option.isSome_none, Bool.false_eq_true, if_false]; omega
    | some r =>
      obtain ⟨j, hj, ho⟩ := steady_ev (by omega) hc k hk
      simp only [Option.isSome_some, if_true]
      have : j = 0 ∨ j = 1 ∨ j = 2 ∨ j = 3 := by omega
      rcases this with rfl | rfl | rfl | rfl
      · rw [ho] at n0 ⊢; simp only [if_true] at n0 ⊢; omega
      · rw [ho] at n1 ⊢; simp only [if_true] at n1 ⊢; omega
      · rw [ho] at n2 ⊢; simp only [if_true] at n2 ⊢; omega
      · rw [ho] at n3 ⊢; simp only [if_true] at n3 ⊢; omega
  rw [tot_add, tot_add, tot_add] at h1
  have s0 := S 0
  have s1 := S 1
  have s2 := S 2
  have s3 := S 3
  have hX : 0 ≤ (D : Int) ^ n := Int.pow_nonneg (by omega)
  generalize tot n (fun x => if (bst D (wlv lv 0) k (x.drop (st8 0))).out then wtI D k x else 0) = a at *
  generalize tot n (fun x => if (bst D (wlv lv 1) k (x.drop (st8 1))).out then wtI D k x else 0) = b at *
  generalize tot n (fun x => if (bst D (wlv lv 2) k (x.drop (st8 2))).out then wtI D k x else 0) = c at *
  generalize tot n (fun x => if (bst D (wlv lv 3) k (x.drop (st8 3))).out then wtI D k x else 0) = e at *
  have h2 := Int.mul_le_mul_of_nonneg_left h1 hl
  rw [Int.mul_add, Int.mul_add, Int.mul_add] at h2
  have w : ∀ (j : Nat) (p : Int) (y : Int), (2 : Int) ^ (j + 1) = p → wlv lv j * y = p * (lv * y) := fun j p y hp => by
    unfold wlv
    rw [hp, Int.mul_comm lv p, Int.mul_assoc]
  rw [w 0 2 a rfl] at s0
  rw [w 1 4 b rfl] at s1
  rw [w 2 8 c rfl] at s2
  rw [w 3 16 e rfl] at s3
  omega
end Go.Proofs.Ytolhfimknimliaa.Q
namespace Go.Proofs.Ytolhfimknimliaa.Q
open Go.Ev Go.Proofs Go.Cnt
theorem allN_pow {D : Int} (hD : 2 ≤ D) : ∀ (m : Nat) {o r : Int}, 1 ≤ o → o ≤ 1152921504606846976 → allN D o m = some r → r = o * D ^ m ∧ r ≤ 1152921504606846976 := by
  intro m
  induction m with
  | zero => intro o r h0 h1 h; simp only [allN, Option.some.injEq] at h; subst h; simp [h1]
  | succ m ih =>
    intro o r h0 h1 h
    rw [allN] at h
    split at h
    · cases h
    · rename_i hc
      have hb := allN_bd hD h0 h1 hc
      obtain ⟨h2, h3⟩ := ih hb.1 hb.2 h
      refine ⟨?_, h3⟩
      rw [h2, Int.pow_succ, Int.mul_assoc, Int.mul_comm D]
/-- the weights of all outcomes with at least so many hits -/
def tailT (D k : Int) (n : Nat) (h : Int) : Int := tot n fun x => if h ≤ (hitsL x : Int) then wtI D k x else 0
theorem hitsL_app (x : List Bool) (b : Bool) : hitsL (x ++ [b]) = hitsL x + if b then 1 else 0 := by
  unfold hitsL
  rw [List.countP_append]
  cases b <;> rfl
theorem tailT_succ {D k : Int} (n : Nat) (h : Int) : tailT D k (n + 1) h = (D - k) * tailT D k n h + k * tailT D k n (h - 1) := by
  unfold tailT
  rw [tot_succ, ← tot_mul, ← tot_mul, ← tot_add]
  refine tot_congr fun x _ => ?_
  rw [wtI_app, wtI_app, hitsL_app, hitsL_app]
  simp only [Bool.false_eq_true, if_false, if_true, Nat.add_zero]
  congr 1
  · split
    · rw [Int.mul_comm]
    · rw [Int.mul_zero]
  · by_cases hc : h - 1 ≤ (hitsL x : Int)
    · rw [if_pos hc, if_pos (by omega), Int.mul_comm]
    · rw [if_neg hc, if_neg (by omega), Int.mul_zero]
theorem tailT_less {D k : Int} (hk0 : 0 ≤ k) (hk1 : k ≤ D) (n : Nat) (h : Int) : tailT D k n h ≤ tailT D k n (h - 1) := by
  refine tot_le fun x _ => ?_
  have hw := (wtI_bd hk0 hk1 x).1
  split
  · rw [if_pos (by omega)]; exact Int.le_refl _
  · split <;> omega
/-- a greater rate never makes it lighter -/
theorem tailT_mono {D k : Int} (hk0 : 0 ≤ k) (hk1 : k + 1 ≤ D) : ∀ (n : Nat) (h : Int), tailT D k n h ≤ tailT D (k + 1) n h := by
  intro n
  induction n with
  | zero => intro h; exact Int.le_refl _
  | succ n ih =>
    intro h
    rw [tailT_succ, tailT_succ]
    have h1 := Int.mul_le_mul_of_nonneg_left (ih h) (show 0 ≤ D - k by omega)
    have h2 := Int.mul_le_mul_of_nonneg_left (ih (h - 1)) hk0
    have h3 := tailT_less (D := D) (k := k + 1) (by omega) hk1 n h
    have e1 : (D - (k + 1)) * tailT D (k + 1) n h = (D - k) * tailT D (k + 1) n h - tailT D (k + 1) n h := by
      rw [show D - (k + 1) = (D - k) - 1 by omega, Int.sub_mul, Int.one_mul]
    have e2 : (k + 1) * tailT D (k + 1) n (h - 1) = k * tailT D (k + 1) n (h - 1) + tailT D (k + 1) n (h - 1) := by rw [Int.add_mul, Int.one_mul]
    omega
/-- a sum that the machine reckons without a wrap -/
theorem sumW {g : Nat → Int} {N : Nat} {X : Int} (hX : X ≤ 4611686018427387904) (hg0 : ∀ b, 0 ≤ g b) (hs : sumN g N ≤ X) {b : Nat} (hb : b < N) : w64 (sumN g b + g b) = sumN g (b + 1) := by
  have h1 := sumN_mono hg0 (show b + 1 ≤ N by omega)
  have h2 := sumN_nonneg hg0 (b + 1)
  show w64 (sumN g (b + 1)) = sumN g (b + 1)
  exact w64_id (by omega) (by omega)
theorem tailF_sum {D k h : Int} (hk0 : 0 ≤ k) (hk1 : k ≤ D) (hD : 1 ≤ D) (n : Nat) (hb : D ^ n ≤ 4611686018427387904) : ∀ m, m ≤ 2 ^ n → tailF D k h (outsN n m) = sumN (fun b => if h ≤ (hitsL (outN n b) : Int) then wtI D k (outN n b) else 0) m := by
  have hg0 : ∀ b, 0 ≤ (fun b => if h ≤ (hitsL (outN n b) : Int) then wtI D k (outN n b) else 0) b := fun b => by
    dsimp only
    split
    · exact (wtI_bd hk0 hk1 _).1
    · exact Int.le_refl _
  have hs : sumN (fun b => if h ≤ (hitsL (outN n b) : Int) then wtI D k (outN n b) else 0) (2 ^ n) ≤ D ^ n := by
    rw [← tot_wt (D := D) (k := k) n]
    refine sumN_le fun b _ => ?_
    have := (wtI_bd hk0 hk1 (outN n b)).1
    show (if h ≤ (hitsL (outN n b) : Int) then wtI D k (outN n b) else 0) ≤ wtI D k (outN n b)
    split <;> omega
  intro m
  induction m with
  | zero => intro _; rfl
  | succ m ih =>
    intro hm
    rw [outsN_succ, tailF_snoc, ih (by omega), ← sumW hb hg0 hs (show m < 2 ^ n by omega), wtw_eq hk0 hk1 hD (outN n m) (by rw [outN_len]; exact hb)]
    split
    · rfl
    · rw [Int.add_zero]
      have h1 := sumN_mono hg0 (show m ≤ 2 ^ n by omega)
      have h2 := sumN_nonneg hg0 m
      exact (w64_id (by omega) (by omega)).symm
theorem tailF_tailT {D k h : Int} (hk0 : 0 ≤ k) (hk1 : k ≤ D) (hD : 1 ≤ D) (n : Nat) (hb : D ^ n ≤ 4611686018427387904) : tailF D k h (outsN n (2 ^ n)) = tailT D k n h := tailF_sum hk0 hk1 hD n hb _ (Nat.le_refl _)
attribute [local irreducible] At AtH
end Go.Proofs.Ytolhfimknimliaa.Q
namespace Go.Proofs.Ytolhfimknimliaa.Q
open Go.Cnt Go.Ev
/-- the weight of an outcome, where its verdict is v -/
def wv (d : Nat) (lv k : Int) (lo hi : Nat) (v : Int) (x : List Bool) : Int := if (decS (sts d lv x) d lo hi).1 = v then wtI d k x else 0
theorem wv_nonneg {d : Nat} {lv k : Int} {lo hi : Nat} {v : Int} (hk0 : 0 ≤ k) (hk1 : k ≤ d) (x : List Bool) : 0 ≤ wv d lv k lo hi v x := by
  unfold wv
  split
  · exact (wtI_bd hk0 hk1 x).1
  · exact Int.le_refl _
theorem wv_le {d : Nat} {lv k : Int} {lo hi : Nat} {v : Int} (hk0 : 0 ≤ k) (hk1 : k ≤ d) (x : List Bool) : wv d lv k lo hi v x ≤ wtI d k x := by
  have := (wtI_bd hk0 hk1 x).1
  unfold wv
  split <;> omega
theorem wv_sum {d : Nat} {lv k : Int} {lo hi : Nat} {v : Int} (hk0 : 0 ≤ k) (hk1 : k ≤ d) (n : Nat) {m : Nat} (hm : m ≤ 2 ^ n) : 0 ≤ sumN (fun b => wv d lv k lo hi v (outN n b)) m ∧ sumN (fun b => wv d lv k lo hi v (outN n b)) m ≤ (d : Int) ^ n := by
  refine ⟨sumN_nonneg (fun b => wv_nonneg hk0 hk1 _) m, ?_⟩
  refine Int.le_trans (sumN_mono (fun b => wv_nonneg hk0 hk1 _) hm) ?_
  rw [← tot_wt (D := (d : Int)) (k := k) n]
  exact sumN_le fun b _ => wv_le hk0 hk1 _
theorem powS_sum {d : Nat} {lv k : Int} {lo hi : Nat} {v : Int} (hk0 : 0 ≤ k) (hk1 : k ≤ d) (hD : 1 ≤ d) (n : Nat) (hb : (d : Int) ^ n ≤ 4611686018427387904) : ∀ m, m ≤ 2 ^ n → powS d lv k lo hi v (outsN n m) = sumN (fun b => wv d lv k lo hi v (outN n b)) m := by
  intro m
  induction m with
  | zero => intro _; rfl
  | succ m ih =>
    intro hm
    have hw := wtI_bd (D := (d : Int)) (k := k) hk0 hk1 (outN n m)
    have hs := wv_sum (lv := lv) (lo := lo) (hi := hi) (v := v) hk0 hk1 n (show m ≤ 2 ^ n by omega)
    rw [outsN_succ, powS_snoc, ih (by omega), ← sumW hb (fun b => wv_nonneg hk0 hk1 _) (wv_sum hk0 hk1 n (Nat.le_refl _)).2 (show m < 2 ^ n by omega), wtw_eq hk0 hk1 (by omega) (outN n m) (by rw [outN_len]; exact hb)]
    by_cases hv : (decS (sts d lv (outN n m)) d lo hi).1 = v
    · have e : wv d lv k lo hi v (outN n m) = wtI d k (outN n m) := by unfold wv; rw [if_pos hv]
      rw [e]
      by_cases h0 : 0 < wtI d k (outN n m)
      · rw [if_pos ⟨h0, hv⟩]
      · rw [if_neg (fun h => h0 h.1), show wtI d k (outN n m) = 0 by omega, Int.add_zero, w64_id (by omega) (by omega)]
    · have e : wv d lv k lo hi v (outN n m) = 0 := by unfold wv; rw [if_neg hv]
      rw [e, if_neg (fun h => hv h.2), Int.add_zero, w64_id (by omega) (by omega)]
theorem wv_all {d : Nat} {lv k : Int} {lo hi : Nat} (n : Nat) : sumN (fun b => wv d lv k lo hi 1 (outN n b)) (2 ^ n) + sumN (fun b => wv d lv k lo hi 2 (outN n b)) (2 ^ n) + sumN (fun b => wv d lv k lo hi 3 (outN n b)) (2 ^ n) = (d : Int) ^ n := by
  rw [← tot_wt (D := (d : Int)) (k := k) n, ← sumN_add, ← sumN_add]
  refine sumN_congr fun b _ => ?_
  unfold wv
  rcases decS_cases (sts d lv (outN n b)) d lo hi with h | h | h <;> rw [h] <;> simp
end Go.Proofs.Ytolhfimknimliaa.Q
