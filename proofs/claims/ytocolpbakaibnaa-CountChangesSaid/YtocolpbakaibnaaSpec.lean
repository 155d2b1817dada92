/- What layer 7 computes, as plain functions on lists and integers: no program in sight. -/
namespace Go.Cnt

theorem mul_bd {a b A B : Int} (ha : 0 ≤ a) (hb : 0 ≤ b) (hA : a ≤ A) (hB : b ≤ B) : 0 ≤ a * b ∧ a * b ≤ A * B :=
  ⟨Int.mul_nonneg ha hb, Int.mul_le_mul hA hB hb (by omega)⟩
def inB (x lo hi : Int) : Bool := decide (lo ≤ x) && decide (x ≤ hi)
theorem inB_iff (x lo hi : Int) : inB x lo hi = true ↔ lo ≤ x ∧ x ≤ hi := by simp [inB]
theorem inB_false (x lo hi : Int) : inB x lo hi = false ↔ ¬ (lo ≤ x ∧ x ≤ hi) := by
  rw [← inB_iff]; simp

/-- the capital after the next slot, with a hit and without one -/
def hitC (c n h D k : Int) : Int := if k = 0 then 1000000000000 else if k = D then c else min 1000000000000 (c * (h + 1) * D / ((n + 2) * k))
def missC (c n h D k : Int) : Int := if k = 0 then c else if k = D then 1000000000000 else min 1000000000000 (c * (n - h + 1) * D / ((n + 2) * (D - k)))
def nextC (c n h D k : Int) (hit : Bool) : Int := if hit then hitC c n h D k else missC c n h D k
theorem hitC_bd {c n h D k : Int} (hc0 : 0 ≤ c) (hc1 : c ≤ 1000000000000) (hn0 : 0 ≤ n) (hh0 : 0 ≤ h) (hD0 : 0 ≤ D) (hk0 : 0 ≤ k) : 0 ≤ hitC c n h D k ∧ hitC c n h D k ≤ 1000000000000 := by
  unfold hitC
  have h1 : 0 ≤ c * (h + 1) * D / ((n + 2) * k) := Int.ediv_nonneg (Int.mul_nonneg (Int.mul_nonneg hc0 (by omega)) hD0) (Int.mul_nonneg (by omega) hk0)
  split
  · omega
  · split <;> omega
theorem missC_bd {c n h D k : Int} (hc0 : 0 ≤ c) (hc1 : c ≤ 1000000000000) (hn0 : 0 ≤ n) (hh1 : h ≤ n) (hD0 : 0 ≤ D) (hk1 : k ≤ D) : 0 ≤ missC c n h D k ∧ missC c n h D k ≤ 1000000000000 := by
  unfold missC
  have h1 : 0 ≤ c * (n - h + 1) * D / ((n + 2) * (D - k)) := Int.ediv_nonneg (Int.mul_nonneg (Int.mul_nonneg hc0 (by omega)) hD0) (Int.mul_nonneg (by omega) (by omega))
  split
  · omega
  · split <;> omega

/-- the bet against a rate: slots, hits, capital; is the rate excluded, and after how many slots -/
structure BS where
  n : Int
  h : Int
  c : Int
  out : Bool
  at_ : Int
def BS.new : BS := ⟨0, 0, 1048576, false, 0⟩
def b2i (b : Bool) : Int := if b then 1 else 0
def bnext (D k : Int) (s : BS) (hit : Bool) : BS := { s with n := s.n + 1, h := s.h + b2i hit, c := nextC s.c s.n s.h D k hit }
def bstep (D lv k : Int) (s : BS) (hit : Bool) : BS :=
  if s.out then s else
  if (bnext D k s hit).c ≥ lv * 1048576 then { bnext D k s hit with out := true, at_ := s.n + 1 } else bnext D k s hit
def BSok (N : Int) (s : BS) : Prop := 0 ≤ s.c ∧ s.c ≤ 1000000000000 ∧ 0 ≤ s.h ∧ s.h ≤ s.n ∧ s.n ≤ N ∧ 0 ≤ s.at_ ∧ s.at_ ≤ N
theorem BSok.mono {N N' : Int} {s : BS} (h : BSok N s) (hN : N ≤ N') : BSok N' s := ⟨h.1, h.2.1, h.2.2.1, h.2.2.2.1, by have := h.2.2.2.2.1; omega, h.2.2.2.2.2.1, by have := h.2.2.2.2.2.2; omega⟩
theorem BSok.new : BSok 0 BS.new := by simp [BSok, BS.new]
theorem nextC_bd {c n h D k : Int} (hit : Bool) (hc0 : 0 ≤ c) (hc1 : c ≤ 1000000000000) (hn0 : 0 ≤ n) (hh0 : 0 ≤ h) (hh1 : h ≤ n) (hD0 : 0 ≤ D) (hk0 : 0 ≤ k) (hk1 : k ≤ D) : 0 ≤ nextC c n h D k hit ∧ nextC c n h D k hit ≤ 1000000000000 := by
  unfold nextC
  cases hit
  · exact missC_bd hc0 hc1 hn0 hh1 hD0 hk1
  · exact hitC_bd hc0 hc1 hn0 hh0 hD0 hk0
theorem BSok.step {N D lv k : Int} {s : BS} (hs : BSok N s) (hit : Bool) (hD : 0 ≤ D) (hk0 : 0 ≤ k) (hk1 : k ≤ D) : BSok (N + 1) (bstep D lv k s hit) := by
  obtain ⟨a1, a2, a3, a4, a5, a6, a7⟩ := hs
  have hb := nextC_bd (D := D) (k := k) hit a1 a2 (by omega) a3 a4 hD hk0 hk1
  have hi : 0 ≤ b2i hit ∧ b2i hit ≤ 1 := by cases hit <;> simp [b2i]
  unfold bstep
  split
  · exact BSok.mono ⟨a1, a2, a3, a4, a5, a6, a7⟩ (by omega)
  · split
    · exact ⟨hb.1, hb.2, by show 0 ≤ s.h + b2i hit; omega, by show s.h + b2i hit ≤ s.n + 1; omega, by show s.n + 1 ≤ N + 1; omega, by show 0 ≤ s.n + 1; omega, by show s.n + 1 ≤ N + 1; omega⟩
    · exact ⟨hb.1, hb.2, by show 0 ≤ s.h + b2i hit; omega, by show s.h + b2i hit ≤ s.n + 1; omega, by show s.n + 1 ≤ N + 1; omega, a6, by show s.at_ ≤ N + 1; omega⟩
def brun (D lv k : Int) (s : BS) (xs : List Bool) : BS := xs.foldl (bstep D lv k) s
theorem BSok.run {D lv k : Int} (hD : 0 ≤ D) (hk0 : 0 ≤ k) (hk1 : k ≤ D) : ∀ (xs : List Bool) {N : Int} {s : BS}, BSok N s → BSok (N + xs.length) (brun D lv k s xs) := by
  intro xs
  induction xs with
  | nil => intro N s h; simpa [brun] using h
  | cons x xs ih =>
    intro N s h
    have := ih (h.step (lv := lv) x hD hk0 hk1)
    have e : N + ((x :: xs).length : Int) = N + 1 + (xs.length : Int) := by simp only [List.length_cons]; omega
    rw [e]
    exact this
/-- the state against a rate, after some slots -/
def bst (D lv k : Int) (xs : List Bool) : BS := brun D lv k BS.new xs
theorem bst_ok {D lv k : Int} (hD : 0 ≤ D) (hk0 : 0 ≤ k) (hk1 : k ≤ D) (xs : List Bool) : BSok xs.length (bst D lv k xs) := by
  have := BSok.run (lv := lv) hD hk0 hk1 xs BSok.new
  rw [Int.zero_add] at this
  exact this

/-- how many rates are kept, of those below i -/
def cnt (p : Nat → Bool) : Nat → Nat
  | 0 => 0
  | i + 1 => cnt p i + (if p i then 1 else 0)
theorem cnt_le (p : Nat → Bool) : ∀ i, cnt p i ≤ i := by
  intro i
  induction i with
  | zero => exact Nat.le_refl _
  | succ i ih => simp only [cnt]; split <;> omega
theorem cnt_congr {p q : Nat → Bool} : ∀ {i : Nat}, (∀ j, j < i → p j = q j) → cnt p i = cnt q i := by
  intro i
  induction i with
  | zero => intro _; rfl
  | succ i ih => intro h; simp only [cnt, ih fun j hj => h j (by omega), h i (by omega)]
/-- one fewer -/
theorem cnt_off {p q : Nat → Bool} {j : Nat} (hp : p j = true) (hq : q j = false) : ∀ {i : Nat}, j < i → (∀ x, x < i → x ≠ j → p x = q x) → cnt p i = cnt q i + 1 := by
  intro i
  induction i with
  | zero => intro h _; omega
  | succ i ih =>
    intro hj h
    simp only [cnt]
    by_cases e : i = j
    · subst e
      rw [cnt_congr (p := p) (q := q) fun x hx => h x (by omega) (by omega), hp, hq]
      simp
    · rw [ih (by omega) fun x hx hne => h x (by omega) hne, h i (by omega) e]
      omega
theorem cnt_zero {p : Nat → Bool} : ∀ {i : Nat}, cnt p i = 0 ↔ ∀ j, j < i → p j = false := by
  intro i
  induction i with
  | zero => simp [cnt]
  | succ i ih =>
    simp only [cnt]
    constructor
    · intro h j hj
      have h1 : cnt p i = 0 := by omega
      by_cases e : j = i
      · subst e
        cases hp : p j with
        | false => rfl
        | true => rw [hp] at h; simp at h
      · exact ih.1 h1 j (by omega)
    · intro h
      rw [ih.2 fun j hj => h j (by omega), h i (by omega)]
      rfl
theorem cnt_all : ∀ {i : Nat}, cnt (fun _ => true) i = i := by
  intro i
  induction i with
  | zero => rfl
  | succ i ih => simp [cnt, ih]
end Go.Cnt
