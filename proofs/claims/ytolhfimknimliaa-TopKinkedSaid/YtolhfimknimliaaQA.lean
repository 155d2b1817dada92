/- From another seat: module Spec. -/
import Derived.Test.YtolhfimknimliaaChecked
import Derived.Test.YtolhfimknimliaaEw
namespace Go.Cnt

theorem mul_bd {a b A B : Int} (ha : 0 ≤ a) (hb : 0 ≤ b) (hA : a ≤ A) (hB : b ≤ B) : 0 ≤ a * b ∧ a * b ≤ A * B :=
  ⟨Int.mul_nonneg ha hb, Int.mul_le_mul hA hB hb (by omega)⟩
def inB (x lo hi : Int) : Bool := decide (lo ≤ x) && decide (x ≤ hi)
theorem inB_iff (x lo hi : Int) : inB x lo hi = true ↔ lo ≤ x ∧ x ≤ hi := by simp [inB]
theorem inB_false (x lo hi : Int) : inB x lo hi = false ↔ ¬ (lo ≤ x ∧ x ≤ hi) := by
  rw [← inB_iff]; simp

/-- the capital after the next slot, with a hit and without one -/
def hitC (c n h D k : Int) : Int := if k = 0 then 1000000000000 else if k = D then c else min 1000000000000 (c * (h + 1) * D / ((n + 2) * k))
def missC (c n h D k : Int) : Int := if k = 0 then c else if k = D then 1000000000000 else min 1000000000000 (c * (n - h + 1) * D / ((n + 2) * (D - k)))
def nextC (c n h D k : Int) (hit : Bool) : Int := if hit then hitC c n h D k else missC c n h D k
theorem hitC_bd {c n h D k : Int} (hc0 : 0 ≤ c) (hc1 : c ≤ 1000000000000) (hn0 : 0 ≤ n) (hh0 : 0 ≤ h) (hD0 : 0 ≤ D) (hk0 : 0 ≤ k) : 0 ≤ hitC c n h D k ∧ hitC c n h D k ≤ 1000000000000 := by
  unfold hitC
  have h1 : 0 ≤ c * (h + 1) * D / ((n + 2) * k) := Int.ediv_nonneg (Int.mul_nonneg (Int.mul_nonneg hc0 (by omega)) hD0) (Int.mul_nonneg (by omega) hk0)
  split
  · omega
  · split <;> omega
theorem missC_bd {c n h D k : Int} (hc0 : 0 ≤ c) (hc1 : c ≤ 1000000000000) (hn0 : 0 ≤ n) (hh1 : h ≤ n) (hD0 : 0 ≤ D) (hk1 : k ≤ D) : 0 ≤ missC c n h D k ∧ missC c n h D k ≤ 1000000000000 := by
  unfold missC
  have h1 : 0 ≤ c * (n - h + 1) * D / ((n + 2) * (D - k)) := Int.ediv_nonneg (Int.mul_nonneg (Int.mul_nonneg hc0 (by omega)) hD0) (Int.mul_nonneg (by omega) (by omega))
  split
  · omega
  · split <;> omega

/-- the bet against a rate: slots, hits, capital; is the rate excluded, and after how many slots -/
structure BS where
  n : Int
  h : Int
  c : Int
  out : Bool
  at_ : Int
def BS.new : BS := ⟨0, 0, 1048576, false, 0⟩
def b2i (b : Bool) : Int := if b then 1 else 0
def bnext (D k : Int) (s : BS) (hit : Bool) : BS := { s with n := s.n + 1, h := s.h + b2i hit, c := nextC s.c s.n s.h D k hit }
def bstep (D lv k : Int) (s : BS) (hit : Bool) : BS :=
  if s.out then s else
  if (bnext D k s hit).c ≥ lv * 1048576 then { bnext D k s hit with out := true, at_ := s.n + 1 } else bnext D k s hit
def BSok (N : Int) (s : BS) : Prop := 0 ≤ s.c ∧ s.c ≤ 1000000000000 ∧ 0 ≤ s.h ∧ s.h ≤ s.n ∧ s.n ≤ N ∧ 0 ≤ s.at_ ∧ s.at_ ≤ N
theorem BSok.mono {N N' : Int} {s : BS} (h : BSok N s) (hN : N ≤ N') : BSok N' s := ⟨h.1, h.2.1, h.2.2.1, h.2.2.2.1, by have := h.2.2.2.2.1; omega, h.2.2.2.2.2.1, by have := h.2.2.2.2.2.2; omega⟩
theorem BSok.new : BSok 0 BS.new := by simp [BSok, BS.new]
theorem nextC_bd {c n h D k : Int} (hit : Bool) (hc0 : 0 ≤ c) (hc1 : c ≤ 1000000000000) (hn0 : 0 ≤ n) (hh0 : 0 ≤ h) (hh1 : h ≤ n) (hD0 : 0 ≤ D) (hk0 : 0 ≤ k) (hk1 : k ≤ D) : 0 ≤ nextC c n h D k hit ∧ nextC c n h D k hit ≤ 1000000000000 := by
  unfold nextC
  cases hit
  · exact missC_bd hc0 hc1 hn0 hh1 hD0 hk1
  · exact hitC_bd hc0 hc1 hn0 hh0 hD0 hk0
theorem BSok.step {N D lv k : Int} {s : BS} (hs : BSok N s) (hit : Bool) (hD : 0 ≤ D) (hk0 : 0 ≤ k) (hk1 : k ≤ D) : BSok (N + 1) (bstep D lv k s hit) := by
  obtain ⟨a1, a2, a3, a4, a5, a6, a7⟩ := hs
  have hb := nextC_bd (D := D) (k := k) hit a1 a2 (by omega) a3 a4 hD hk0 hk1
  have hi : 0 ≤ b2i hit ∧ b2i hit ≤ 1 := by cases hit <;> simp [b2i]
  unfold bstep
  split
  · exact BSok.mono ⟨a1, a2, a3, a4, a5, a6, a7⟩ (by omega)
  · split
    · exact ⟨hb.1, hb.2, by show 0 ≤ s.h + b2i hit; omega, by show s.h + b2i hit ≤ s.n + 1; omega, by show s.n + 1 ≤ N + 1; omega, by show 0 ≤ s.n + 1; omega, by show s.n + 1 ≤ N + 1; omega⟩
    · exact ⟨hb.1, hb.2, by show 0 ≤ s.h + b2i hit; omega, by show s.h + b2i hit ≤ s.n + 1; omega, by show s.n + 1 ≤ N + 1; omega, a6, by show s.at_ ≤ N + 1; omega⟩
def brun (D lv k : Int) (s : BS) (xs : List Bool) : BS := xs.foldl (bstep D lv k) s
theorem BSok.run {D lv k : Int} (hD : 0 ≤ D) (hk0 : 0 ≤ k) (hk1 : k ≤ D) : ∀ (xs : List Bool) {N : Int} {s : BS}, BSok N s → BSok (N + xs.length) (brun D lv k s xs) := by
  intro xs
  induction xs with
  | nil => intro N s h; simpa [brun] using h
  | cons x xs ih =>
    intro N s h
    have := ih (h.step (lv := lv) x hD hk0 hk1)
    have e : N + ((x :: xs).length : Int) = N + 1 + (xs.length : Int) := by simp only [List.length_cons]; omega
    rw [e]
    exact this
/-- the state against a rate, after some slots -/
def bst (D lv k : Int) (xs : List Bool) : BS := brun D lv k BS.new xs
theorem bst_ok {D lv k : Int} (hD : 0 ≤ D) (hk0 : 0 ≤ k) (hk1 : k ≤ D) (xs : List Bool) : BSok xs.length (bst D lv k xs) := by
  have := BSok.run (lv := lv) hD hk0 hk1 xs BSok.new
  rw [Int.zero_add] at this
  exact this

/-- how many rates are kept, of those below i -/
def cnt (p : Nat → Bool) : Nat → Nat
  | 0 => 0
  | i + 1 => cnt p i + (if p i then 1 else 0)
theorem cnt_le (p : Nat → Bool) : ∀ i, cnt p i ≤ i := by
  intro i
  induction i with
  | zero => exact Nat.le_refl _
  | succ i ih => simp only [cnt]; split <;> omega
theorem cnt_congr {p q : Nat → Bool} : ∀ {i : Nat}, (∀ j, j < i → p j = q j) → cnt p i = cnt q i := by
  intro i
  induction i with
  | zero => intro _; rfl
  | succ i ih => intro h; simp only [cnt, ih fun j hj => h j (by omega), h i (by omega)]
/-- one fewer -/
theorem cnt_off {p q : Nat → Bool} {j : Nat} (hp : p j = true) (hq : q j = false) : ∀ {i : Nat}, j < i → (∀ x, x < i → x ≠ j → p x = q x) → cnt p i = cnt q i + 1 := by
  intro i
  induction i with
  | zero => intro h _; omega
  | succ i ih =>
    intro hj h
    simp only [cnt]
    by_cases e : i = j
    · subst e
      rw [cnt_congr (p := p) (q := q) fun x hx => h x (by omega) (by omega), hp, hq]
      simp
    · rw [ih (by omega) fun x hx hne => h x (by omega) hne, h i (by omega) e]
      omega
theorem cnt_zero {p : Nat → Bool} : ∀ {i : Nat}, cnt p i = 0 ↔ ∀ j, j < i → p j = false := by
  intro i
  induction i with
  | zero => simp [cnt]
  | succ i ih =>
    simp only [cnt]
    constructor
    · intro h j hj
      have h1 : cnt p i = 0 := by omega
      by_cases e : j = i
      · subst e
        cases hp : p j with
        | false => rfl
        | true => rw [hp] at h; simp at h
      · exact ih.1 h1 j (by omega)
    · intro h
      rw [ih.2 fun j hj => h j (by omega), h i (by omega)]
      rfl
theorem cnt_all : ∀ {i : Nat}, cnt (fun _ => true) i = i := by
  intro i
  induction i with
  | zero => rfl
  | succ i ih => simp [cnt, ih]
end Go.Cnt
namespace Go.Cnt
/-- the runs of p below n -/
def addSp (l : List (Nat × Nat)) (k : Nat) : List (Nat × Nat) :=
  match l.getLast? with
  | some (a, b) => if b + 1 = k then l.dropLast ++ [(a, k)] else l ++ [(k, k)]
  | none => [(k, k)]
def spansTo (p : Nat → Bool) : Nat → List (Nat × Nat)
  | 0 => []
  | k + 1 => if p k then addSp (spansTo p k) k else spansTo p k
theorem spansTo_congr {p q : Nat → Bool} : ∀ {n : Nat}, (∀ j, j < n → p j = q j) → spansTo p n = spansTo q n := by
  intro n
  induction n with
  | zero => intro _; rfl
  | succ n ih => intro h; simp only [spansTo, ih fun j hj => h j (by omega), h n (by omega)]
/-- the last one, where there is one -/
theorem addSp_last (l : List (Nat × Nat)) (k : Nat) : ∃ a, (addSp l k).getLast? = some (a, k) ∧ a ≤ k ∨ (addSp l k).getLast? = some (a, k) := by
  unfold addSp
  split
  · split
    · exact ⟨_, .inr (by simp; rfl)⟩
    · exact ⟨k, .inl ⟨by simp, Nat.le_refl _⟩⟩
  · exact ⟨k, .inl ⟨by simp, Nat.le_refl _⟩⟩
theorem mem_addSp {l : List (Nat × Nat)} {k : Nat} {s : Nat × Nat} (h : s ∈ addSp l k) : s ∈ l ∨ s = (k, k) ∨ ∃ a, (a, k - 1) ∈ l ∧ 0 < k ∧ s = (a, k) := by
  unfold addSp at h
  split at h
  · rename_i a b hl
    split at h
    · rename_i hb
      simp only [List.mem_append, List.mem_singleton] at h
      rcases h with h | h
      · exact .inl ((List.dropLast_sublist _).subset h)
      · refine .inr (.inr ⟨a, ?_, by omega, h⟩)
        have := List.mem_of_getLast? hl
        rw [show k - 1 = b by omega]
        exact this
    · simp only [List.mem_append, List.mem_singleton] at h
      rcases h with h | h
      · exact .inl h
      · exact .inr (.inl h)
  · simp only [List.mem_singleton] at h
    exact .inr (.inl h)
/-- what is in a run -/
theorem spansTo_run {p : Nat → Bool} : ∀ {n : Nat} {s : Nat × Nat}, s ∈ spansTo p n → s.1 ≤ s.2 ∧ s.2 < n ∧ ∀ j, s.1 ≤ j → j ≤ s.2 → p j = true := by
  intro n
  induction n with
  | zero => intro s h; simp [spansTo] at h
  | succ n ih =>
    intro s h
    simp only [spansTo] at h
    split at h
    · rename_i hp
      rcases mem_addSp h with h | rfl | ⟨a, ha, h0, rfl⟩
      · obtain ⟨h1, h2, h3⟩ := ih h
        exact ⟨h1, by omega, h3⟩
      · exact ⟨Nat.le_refl _, by simp, fun j h1 h2 => by
          have : j = n := Nat.le_antisymm h2 h1
          rw [this]; exact hp⟩
      · obtain ⟨h1, h2, h3⟩ := ih ha
        refine ⟨by simp only at h1 ⊢; omega, by simp, fun j h4 h5 => ?_⟩
        by_cases e : j = n
        · rw [e]; exact hp
        · exact h3 j h4 (by simp only at h5 ⊢; omega)
    · obtain ⟨h1, h2, h3⟩ := ih h
      exact ⟨h1, by omega, h3⟩
/-- a run from low to high behind a rate that is not kept -/
theorem spansTo_add {p : Nat → Bool} {low : Nat} (h0 : low = 0 ∨ p (low - 1) = false) : ∀ (m : Nat), (∀ j, low ≤ j → j ≤ low + m → p j = true) → spansTo p (low + m + 1) = spansTo p low ++ [(low, low + m)] := by
  intro m
  induction m with
  | zero =>
    intro h
    simp only [Nat.add_zero, spansTo, h low (Nat.le_refl _) (by omega), if_true, addSp]
    split
    · rename_i a b hl
      rw [if_neg]
      intro hb
      obtain ⟨_, h2, h3⟩ := spansTo_run (List.mem_of_getLast? hl)
      rcases h0 with h0 | h0
      · omega
      · have := h3 b (by assumption) (Nat.le_refl _)
        rw [show low - 1 = b by omega] at h0
        rw [h0] at this
        cases this
    · rename_i hl
      have : spansTo p low = [] := by simpa using hl
      rw [this]
      rfl
  | succ m ih =>
    intro h
    have h1 := ih fun j a b => h j a (by omega)
    rw [show low + (m + 1) + 1 = (low + m + 1) + 1 by omega]
    rw [spansTo, h (low + m + 1) (by omega) (by omega), if_pos rfl, h1]
    simp [addSp]
    omega
/-- the kept rates are those in runs -/
theorem spansTo_has {p : Nat → Bool} : ∀ {n k : Nat}, k < n → p k = true → ∃ s ∈ spansTo p n, s.1 ≤ k ∧ k ≤ s.2 := by
  intro n
  induction n with
  | zero => intro k h; omega
  | succ n ih =>
    intro k hk hp
    simp only [spansTo]
    by_cases e : k = n
    · subst e
      rw [if_pos hp]
      unfold addSp
      split
      · rename_i a b hl
        split
        · rename_i hb
          have := (spansTo_run (List.mem_of_getLast? hl)).1
          exact ⟨(a, k), by simp, by simp only at this ⊢; omega, Nat.le_refl _⟩
        · exact ⟨(k, k), by simp, Nat.le_refl _, Nat.le_refl _⟩
      · exact ⟨(k, k), by simp, Nat.le_refl _, Nat.le_refl _⟩
    · obtain ⟨s, hs, h1, h2⟩ := ih (by omega) hp
      split
      · unfold addSp
        split
        · rename_i a b hl
          split
          · rename_i hb
            by_cases e2 : s = (a, b)
            · subst e2
              exact ⟨(a, n), by simp, h1, by simp only at h2 ⊢; omega⟩
            · refine ⟨s, ?_, h1, h2⟩
              have : spansTo p n = (spansTo p n).dropLast ++ [(a, b)] := by
                have hne : spansTo p n ≠ [] := by intro e; rw [e] at hl; cases hl
                have h2 := List.dropLast_concat_getLast hne
                have h3 : (spansTo p n).getLast hne = (a, b) := by
                  rw [List.getLast?_eq_some_getLast hne] at hl
                  exact Option.some.inj hl
                rw [h3] at h2
                exact h2.symm
              rw [this] at hs
              simp only [List.mem_append, List.mem_singleton] at hs ⊢
              exact .inl (hs.resolve_right e2)
          · exact ⟨s, by simp [hs], h1, h2⟩
        · rename_i hl
          have : spansTo p n = [] := by simpa using hl
          rw [this] at hs
          cases hs
      · exact ⟨s, hs, h1, h2⟩
theorem spansTo_iff {p : Nat → Bool} {n k : Nat} : (∃ s ∈ spansTo p n, s.1 ≤ k ∧ k ≤ s.2) ↔ k < n ∧ p k = true := by
  constructor
  · rintro ⟨s, hs, h1, h2⟩
    obtain ⟨_, h3, h4⟩ := spansTo_run hs
    exact ⟨by omega, h4 k h1 h2⟩
  · rintro ⟨h1, h2⟩
    exact spansTo_has h1 h2
theorem spansTo_len (p : Nat → Bool) : ∀ n, (spansTo p n).length ≤ n := by
  intro n
  induction n with
  | zero => simp [spansTo]
  | succ n ih =>
    simp only [spansTo]
    split
    · unfold addSp
      split
      · split
        · simp; omega
        · simp; omega
      · simp
    · omega
end Go.Cnt
namespace Go.Proofs.Ytolhfimknimliaa.Q
open Go.Ev Go.Proofs Go.Cnt

def T : Tab := [(3, .one), (4, .one), (31, .one), (36, .one), (105, .one), (34, .slc 4 1 1), (45, .slc 3 1 8), (53, .slc 24 2 16), (144, .slc 153 5 40), 
  (24, .str 2 [(0,1,false),(1,1,false)] [.int .i64 0, .int .i64 0]), (151, .str 3 [(0,1,false),(1,1,false),(2,1,false)] [.int .i64 0, .int .i64 0, .int .i64 0]),
  (153, .str 5 [(0,3,true),(3,1,false),(4,1,false)] [.int .i64 0, .int .i64 0, .int .i64 0, .int .i64 0, .int .i64 0]),
  (169, .str 4 [(0,1,false),(1,1,false),(2,1,false),(3,1,false)] [.int .i64 0, .int .i64 0, .int .i64 0, .int .i64 0]),
  (149, .str 2006 [(0,1,false),(1,1,false),(2,1,false),(3,1001,true),(1004,1,false),(1005,1001,true)] []), (146, .arr 1001 1 false), (147, .arr 1001 1 false)]
theorem T_ok : tabOk Try.prog T = true := by kernel_rfl
theorem callables : (List.range 123).all (fun f => Nat.blt f 3 || callable Try.prog f) = true := by kernel_rfl
set_option maxRecDepth 10000 in
theorem ok (f : Nat) (h : Nat.ble f 122 = true) (h3 : Nat.ble 3 f = true) : callable Try.prog f = true := by
  have := List.all_eq_true.1 callables f (List.mem_range.2 (Nat.lt_succ_of_le (Nat.le_of_ble_eq_true h)))
  rw [show Nat.blt f 3 = false from by have := Nat.le_of_ble_eq_true h3; cases hb : Nat.blt f 3 with | false => rfl | true => have := Nat.blt_eq.mp hb; omega] at this
  exact this

theorem in_any (x lo hi : Int) (w : World) : Ret Try.prog 90 [.int .i64 x, .int .i64 lo, .int .i64 hi] w fun v w' => v = .bool (inB x lo hi) ∧ w = w' := by
  refine enter Try.func90 rfl Try.ntmps90 rfl ?_
  refine go T_ok 100 rfl ?_
  refine guardD rfl rfl rfl (fun h => ?_) (fun h => ?_)
  all_goals refine go T_ok 100 rfl ?_
  all_goals refine ret (ret1 (v := .bool _) Try.results90 rfl ?_)
  all_goals simp [inB, h]
theorem within_any (x lo hi : Int) (w : World) : Ret Try.prog 42 [.int .i64 x, .int .i64 lo, .int .i64 hi] w fun v w' => v = .bool (inB x lo hi) ∧ w = w' := by
  refine enter Try.func42 rfl Try.ntmps42 rfl ?_
  refine go T_ok 100 rfl ?_
  refine guardD rfl rfl rfl (fun h => ?_) (fun h => ?_)
  all_goals refine go T_ok 100 rfl ?_
  all_goals refine ret (ret1 (v := .bool _) Try.results42 rfl ?_)
  all_goals simp [inB, h]

theorem Parts_any (x : Int) (w : World) : Ret Try.prog 62 [.int .i64 x] w fun v w' => v = .bool (inB x 2 1000) ∧ w = w' := by
  refine enter Try.func62 rfl Try.ntmps62 rfl ?_
  refine go T_ok 100 rfl ?_
  refine call rfl rfl rfl (ok _ (by decide) rfl) (in_any _ _ _ _) ?_
  rintro v w ⟨rfl, rfl⟩
  refine go T_ok 100 rfl ?_
  exact ret (ret1 (v := .bool _) Try.results62 rfl ⟨rfl, rfl⟩)


theorem mixed : Try.prog.follows .mixedOrders = true := by kernel_rfl
/-- the five cells of a bet -/
def betL (D n h k c : Int) : List Value := [.int .i64 D, .int .i64 n, .int .i64 h, .int .i64 k, .int .i64 c]
theorem betL_0 {w : World} {g o : Nat} {D n h k c : Int} (H : cellsAt w g o (betL D n h k c)) : w.cell? ⟨g, o, none⟩ = some (.int .i64 D) := H 0 _ rfl
theorem betL_1 {w : World} {g o : Nat} {D n h k c : Int} (H : cellsAt w g o (betL D n h k c)) : w.cell? ⟨g, o + 1, none⟩ = some (.int .i64 n) := H 1 _ rfl
theorem betL_2 {w : World} {g o : Nat} {D n h k c : Int} (H : cellsAt w g o (betL D n h k c)) : w.cell? ⟨g, o + 2, none⟩ = some (.int .i64 h) := H 2 _ rfl
theorem betL_3 {w : World} {g o : Nat} {D n h k c : Int} (H : cellsAt w g o (betL D n h k c)) : w.cell? ⟨g, o + 3, none⟩ = some (.int .i64 k) := H 3 _ rfl
theorem betL_4 {w : World} {g o : Nat} {D n h k c : Int} (H : cellsAt w g o (betL D n h k c)) : w.cell? ⟨g, o + 4, none⟩ = some (.int .i64 c) := H 4 _ rfl
theorem hit_any (c n h D k : Int) (g o : Nat) (w : World) (H : cellsAt w g o (betL D n h k c)) (hc0 : 0 ≤ c) (hc1 : c ≤ 1000000000000) (hn0 : 0 ≤ n) (hn1 : n ≤ 4000) (hh0 : 0 ≤ h) (hh1 : h ≤ n) (hD0 : 2 ≤ D) (hD1 : D ≤ 1000) (hk0 : 0 ≤ k) (hk1 : k ≤ D) :
    Ret Try.prog 122 [.pointer (some ⟨g, o, none⟩)] w fun v w' => v = .int .i64 (hitC c n h D k) ∧ Chg No w w' := by
  have b1 := mul_bd hc0 (by omega : 0 ≤ h + 1) hc1 (by omega : h + 1 ≤ 4001)
  have b2 := mul_bd b1.1 (by omega : 0 ≤ D) b1.2 hD1
  have b3 := mul_bd (by omega : 0 ≤ n + 2) hk0 (by omega : n + 2 ≤ 4002) (by omega : k ≤ 1000)
  have e1 : w64 (h + 1) = h + 1 := w64_id (by omega) (by omega)
  have e2 : w64 (n + 2) = n + 2 := w64_id (by omega) (by omega)
  have e3 : w64 (c * (h + 1)) = c * (h + 1) := w64_id (by omega) (by omega)
  have e4 : w64 (c * (h + 1) * D) = c * (h + 1) * D := w64_id (by omega) (by omega)
  have e5 : w64 ((n + 2) * k) = (n + 2) * k := w64_id (by omega) (by omega)
  refine enter Try.func122 rfl Try.ntmps122 rfl ?_
  refine go T_ok 100 rfl ?_
  refine ld T_ok rfl rfl rfl rfl (betL_3 H) ?_
  refine go T_ok 100 rfl ?_
  refine cond rfl (fun h1 => ?_) (fun h1 => ?_)
  · refine go T_ok 100 rfl ?_
    refine ret (ret1 (v := .int .i64 _) Try.results122 rfl ?_)
    have : k = 0 := beq_iff_eq.1 h1
    exact ⟨by rw [hitC, if_pos this], Chg.refl _ _⟩
  · have h1 : ¬ k = 0 := beq_eq_false_iff_ne.1 h1
    refine go T_ok 100 rfl ?_
    refine ld T_ok rfl rfl rfl rfl (betL_0 H) ?_
    refine go T_ok 100 rfl ?_
    refine cond rfl (fun h2 => ?_) (fun h2 => ?_)
    · refine go T_ok 100 rfl ?_
      refine ld T_ok rfl rfl rfl rfl (betL_4 H) ?_
      refine go T_ok 100 rfl ?_
      refine ret (ret1 (v := .int .i64 _) Try.results122 rfl ?_)
      exact ⟨by rw [hitC, if_neg h1, if_pos (beq_iff_eq.1 h2)], Chg.refl _ _⟩
    · have h2 : ¬ k = D := beq_eq_false_iff_ne.1 h2
      refine go T_ok 100 rfl ?_
      refine draw mixed (fun w' => w' = w.drew) ((List.range 31).map fun i => (i, true)) rfl (by kernel_rfl) rfl ?_
      refine goH T_ok 100 rfl ?_
      refine quietH rfl (fun w' hS => r_load T_ok rfl rfl rfl (by rw [hS]; exact betL_4 H)) ?_
      refine goH T_ok 100 rfl ?_
      refine quietH rfl (fun w' hS => r_load T_ok rfl rfl rfl (by rw [hS]; exact betL_2 H)) ?_
      refine goH T_ok 100 rfl ?_
      refine quietH rfl (fun w' hS => r_load T_ok rfl rfl rfl (by rw [hS]; exact betL_0 H)) ?_
      refine goH T_ok 100 rfl ?_
      refine quietH rfl (fun w' hS => r_load T_ok rfl rfl rfl (by rw [hS]; exact betL_1 H)) ?_
      refine goH T_ok 100 rfl ?_
      refine quietH rfl (fun w' hS => r_load T_ok rfl rfl rfl (by rw [hS]; exact betL_3 H)) ?_
      refine goH T_ok 100 rfl ?_
      rw [e1, e2, e3, e4, e5]
      refine quietH rfl (fun w' hS => r_quoN rfl rfl rfl (by omega) (by omega) (Int.mul_pos (by omega) (by omega))) ?_
      refine goH T_ok 100 rfl ?_
      refine endH ?_
      refine go T_ok 100 rfl ?_
      refine ret (ret1 (v := .int .i64 _) Try.results122 rfl ?_)
      exact ⟨by rw [hitC, if_neg h1, if_neg h2], Chg.drew _⟩

theorem miss_any (c n h D k : Int) (g o : Nat) (w : World) (H : cellsAt w g o (betL D n h k c)) (hc0 : 0 ≤ c) (hc1 : c ≤ 1000000000000) (hn0 : 0 ≤ n) (hn1 : n ≤ 4000) (hh0 : 0 ≤ h) (hh1 : h ≤ n) (hD0 : 2 ≤ D) (hD1 : D ≤ 1000) (hk0 : 0 ≤ k) (hk1 : k ≤ D) :
    Ret Try.prog 121 [.pointer (some ⟨g, o, none⟩)] w fun v w' => v = .int .i64 (missC c n h D k) ∧ Chg No w w' := by
  have b4 := mul_bd hc0 (by omega : 0 ≤ n - h + 1) hc1 (by omega : n - h + 1 ≤ 4001)
  have b5 := mul_bd b4.1 (by omega : 0 ≤ D) b4.2 hD1
  have b6 := mul_bd (by omega : 0 ≤ n + 2) (by omega : 0 ≤ D - k) (by omega : n + 2 ≤ 4002) (by omega : D - k ≤ 1000)
  have e2 : w64 (n + 2) = n + 2 := w64_id (by omega) (by omega)
  have e6 : w64 (n - h) = n - h := w64_id (by omega) (by omega)
  have e7 : w64 (n - h + 1) = n - h + 1 := w64_id (by omega) (by omega)
  have e8 : w64 (c * (n - h + 1)) = c * (n - h + 1) := w64_id (by omega) (by omega)
  have e9 : w64 (c * (n - h + 1) * D) = c * (n - h + 1) * D := w64_id (by omega) (by omega)
  have e10 : w64 (D - k) = D - k := w64_id (by omega) (by omega)
  have e11 : w64 ((n + 2) * (D - k)) = (n + 2) * (D - k) := w64_id (by omega) (by omega)
  refine enter Try.func121 rfl Try.ntmps121 rfl ?_
  refine go T_ok 100 rfl ?_
  refine ld T_ok rfl rfl rfl rfl (betL_3 H) ?_
  refine go T_ok 100 rfl ?_
  refine cond rfl (fun h1 => ?_) (fun h1 => ?_)
  · refine go T_ok 100 rfl ?_
    refine ld T_ok rfl rfl rfl rfl (betL_4 H) ?_
    refine go T_ok 100 rfl ?_
    refine ret (ret1 (v := .int .i64 _) Try.results121 rfl ?_)
    have : k = 0 := beq_iff_eq.1 h1
    exact ⟨by rw [missC, if_pos this], Chg.refl _ _⟩
  · have h1 : ¬ k = 0 := beq_eq_false_iff_ne.1 h1
    refine go T_ok 100 rfl ?_
    refine ld T_ok rfl rfl rfl rfl (betL_0 H) ?_
    refine go T_ok 100 rfl ?_
    refine cond rfl (fun h2 => ?_) (fun h2 => ?_)
    · refine go T_ok 100 rfl ?_
      refine ret (ret1 (v := .int .i64 _) Try.results121 rfl ?_)
      exact ⟨by rw [missC, if_neg h1, if_pos (beq_iff_eq.1 h2)], Chg.refl _ _⟩
    · have h2 : ¬ k = D := beq_eq_false_iff_ne.1 h2
      refine go T_ok 100 rfl ?_
      refine draw mixed (fun w' => w' = w.drew) ((List.range 43).map fun i => (i, true)) rfl (by kernel_rfl) rfl ?_
      refine goH T_ok 100 rfl ?_
      refine quietH rfl (fun w' hS => r_load T_ok rfl rfl rfl (by rw [hS]; exact betL_4 H)) ?_
      refine goH T_ok 100 rfl ?_
      refine quietH rfl (fun w' hS => r_load T_ok rfl rfl rfl (by rw [hS]; exact betL_1 H)) ?_
      refine goH T_ok 100 rfl ?_
      refine quietH rfl (fun w' hS => r_load T_ok rfl rfl rfl (by rw [hS]; exact betL_2 H)) ?_
      refine goH T_ok 100 rfl ?_
      refine quietH rfl (fun w' hS => r_load T_ok rfl rfl rfl (by rw [hS]; exact betL_0 H)) ?_
      refine goH T_ok 100 rfl ?_
      refine quietH rfl (fun w' hS => r_load T_ok rfl rfl rfl (by rw [hS]; exact betL_1 H)) ?_
      refine goH T_ok 100 rfl ?_
      refine quietH rfl (fun w' hS => r_load T_ok rfl rfl rfl (by rw [hS]; exact betL_0 H)) ?_
      refine goH T_ok 100 rfl ?_
      refine quietH rfl (fun w' hS => r_load T_ok rfl rfl rfl (by rw [hS]; exact betL_3 H)) ?_
      refine goH T_ok 100 rfl ?_
      rw [e6, e7, e8, e9, e2, e10, e11]
      refine quietH rfl (fun w' hS => r_quoN rfl rfl rfl (by omega) (by omega) (Int.mul_pos (by omega) (by omega))) ?_
      refine goH T_ok 100 rfl ?_
      refine endH ?_
      refine go T_ok 100 rfl ?_
      refine ret (ret1 (v := .int .i64 _) Try.results121 rfl ?_)
      exact ⟨by rw [missC, if_neg h1, if_neg h2], Chg.drew _⟩

/-- the cells of a bet that lies in a row at o -/
def betAt (e : Nat → Value) (o : Nat) (D n h k c : Int) : Prop := e o = .int .i64 D ∧ e (o + 1) = .int .i64 n ∧ e (o + 2) = .int .i64 h ∧ e (o + 3) = .int .i64 k ∧ e (o + 4) = .int .i64 c
theorem betAt.cells {w : World} {g m : Nat} {t : TypeId} {e : Nat → Value} (R : w.rowIs g t m e) {o : Nat} {D n h k c : Int} (H : betAt e o D n h k c) (ho : o + 5 ≤ m) : cellsAt w g o (betL D n h k c) := by
  obtain ⟨h0, h1, h2, h3, h4⟩ := H
  intro j v hv
  match j, hv with
  | 0, hv => simp [betL] at hv; subst hv; rw [← h0]; exact R.cell (by omega)
  | 1, hv => simp [betL] at hv; subst hv; rw [← h1]; exact R.cell (by omega)
  | 2, hv => simp [betL] at hv; subst hv; rw [← h2]; exact R.cell (by omega)
  | 3, hv => simp [betL] at hv; subst hv; rw [← h3]; exact R.cell (by omega)
  | 4, hv => simp [betL] at hv; subst hv; rw [← h4]; exact R.cell (by omega)
  | j + 5, hv => simp [betL] at hv
theorem bnext_any (hit : Bool) (c n h D k : Int) (g o m : Nat) (t : TypeId) (e : Nat → Value) (w : World) (Rw : w.rowIs g t m e) (H : betAt e o D n h k c) (ho : o + 5 ≤ m) (hc0 : 0 ≤ c) (hc1 : c ≤ 1000000000000) (hn0 : 0 ≤ n) (hn1 : n < 4000) (hh0 : 0 ≤ h) (hh1 : h ≤ n)
    (hD0 : 2 ≤ D) (hD1 : D ≤ 1000) (hk0 : 0 ≤ k) (hk1 : k ≤ D) :
    Ret Try.prog 114 [.pointer (some ⟨g, o, none⟩), .bool hit] w fun v w' => v = .tuple #[] ∧ Chg (fun x => x = g) w w' ∧
      ∃ e', w'.rowIs g t m e' ∧ betAt e' o D (n + 1) (h + b2i hit) k (nextC c n h D k hit) ∧ ∀ j, j < o ∨ o + 5 ≤ j → e' j = e j := by
  have e1 : w64 (n + 1) = n + 1 := w64_id (by omega) (by omega)
  have e2 : w64 (h + 1) = h + 1 := w64_id (by omega) (by omega)
  have hcells := betAt.cells Rw H ho
  obtain ⟨a0, a1, a2, a3, a4⟩ := H
  refine enter Try.func114 rfl Try.ntmps114 rfl ?_
  refine go T_ok 100 rfl ?_
  refine cond rfl (fun hb => ?_) (fun hb => ?_)
  all_goals subst hb
  · refine go T_ok 100 rfl ?_
    refine call rfl rfl rfl (ok _ (by decide) rfl) (hit_any c n h D k g o w hcells hc0 hc1 hn0 (by omega) hh0 hh1 hD0 hD1 hk0 hk1) ?_
    rintro v w1 ⟨rfl, q1⟩
    refine go T_ok 100 rfl ?_
    refine stR (v := .int .i64 _) T_ok rfl rfl rfl rfl rfl rfl (rowIs_no Rw q1) (by omega) ?_
    intro w2 q2 R2 _
    refine go T_ok 100 rfl ?_
    refine ld T_ok rfl rfl rfl rfl ((R2.cell (i := o + 1) (by omega)).trans (by rw [if_neg (by omega), a1])) ?_
    refine go T_ok 100 rfl ?_
    rw [e1]
    refine stR (v := .int .i64 _) T_ok rfl rfl rfl rfl rfl rfl R2 (by omega) ?_
    intro w3 q3 R3 _
    refine go T_ok 100 rfl ?_
    refine condT rfl rfl ?_
    refine go T_ok 100 rfl ?_
    refine ld T_ok rfl rfl rfl rfl ((R3.cell (i := o + 2) (by omega)).trans (by rw [if_neg (by omega), if_neg (by omega), a2])) ?_
    refine go T_ok 100 rfl ?_
    rw [e2]
    refine stR (v := .int .i64 _) T_ok rfl rfl rfl rfl rfl rfl R3 (by omega) ?_
    intro w4 q4 R4 _
    refine go T_ok 100 rfl ?_
    refine fin (ret0 Try.results114 ⟨rfl, ((q1.mono fun _ _ h => h.elim).trans q2).trans (q3.trans q4), _, R4, ?_, ?_⟩)
    · refine ⟨?_, ?_, ?_, ?_, ?_⟩
      · simp [a0]
      · simp
      · simp [b2i]
      · simp [a3]
      · simp [nextC]
    · intro j hj
      show (if j = o + 2 then _ else if j = o + 1 then _ else if j = o + 4 then _ else e j) = e j
      rw [if_neg (by omega), if_neg (by omega), if_neg (by omega)]
  · refine go T_ok 100 rfl ?_
    refine call rfl rfl rfl (ok _ (by decide) rfl) (miss_any c n h D k g o w hcells hc0 hc1 hn0 (by omega) hh0 hh1 hD0 hD1 hk0 hk1) ?_
    rintro v w1 ⟨rfl, q1⟩
    refine go T_ok 100 rfl ?_
    refine stR (v := .int .i64 _) T_ok rfl rfl rfl rfl rfl rfl (rowIs_no Rw q1) (by omega) ?_
    intro w2 q2 R2 _
    refine go T_ok 100 rfl ?_
    refine ld T_ok rfl rfl rfl rfl ((R2.cell (i := o + 1) (by omega)).trans (by rw [if_neg (by omega), a1])) ?_
    refine go T_ok 100 rfl ?_
    rw [e1]
    refine stR (v := .int .i64 _) T_ok rfl rfl rfl rfl rfl rfl R2 (by omega) ?_
    intro w3 q3 R3 _
    refine go T_ok 100 rfl ?_
    refine condF rfl rfl ?_
    refine go T_ok 100 rfl ?_
    refine fin (ret0 Try.results114 ⟨rfl, ((q1.mono fun _ _ h => h.elim).trans q2).trans q3, _, R3, ?_, ?_⟩)
    · refine ⟨?_, ?_, ?_, ?_, ?_⟩
      · simp [a0]
      · simp
      · simp [b2i, a2]
      · simp [a3]
      · simp [nextC]
    · intro j hj
      show (if j = o + 1 then _ else if j = o + 4 then _ else e j) = e j
      rw [if_neg (by omega), if_neg (by omega)]

/-- is a bet as defined -/
def betOk (c n h D k : Int) : Bool := inB D 2 1000 && (inB n 0 4000 && (inB h 0 n && (inB c 0 1000000000000 && inB k 0 D)))
/-! ### Levels, and what listed checks -/
theorem leveled_any (x : Int) (w : World) : Ret Try.prog 41 [.int .i64 x] w fun v w' => v = .bool (inB x 2 900000) ∧ w = w' := by
  refine enter Try.func41 rfl Try.ntmps41 rfl ?_
  refine go T_ok 100 rfl ?_
  refine call rfl rfl rfl (ok _ (by decide) rfl) (within_any _ _ _ _) ?_
  rintro v w ⟨rfl, rfl⟩
  refine go T_ok 100 rfl ?_
  exact ret (ret1 (v := .bool _) Try.results41 rfl ⟨rfl, rfl⟩)
/-- the error of a list of n slots with D parts, fine being b -/
def listedE (n : Nat) (D : Int) (b : Bool) : Int := if inB D 2 1000 = false then 2 else if 4000 < (n : Int) then 3 else if b then 0 else 2
theorem listed_any (A : Option Addr) (n c : Nat) (D : Int) (f : Nat) (cap : List Value) (hf : callable Try.prog f = true) (b : Bool) (w : World)
    (hcall : Ret Try.prog f cap w fun v w' => v = .bool b ∧ w = w') :
    Ret Try.prog 39 [.slice A n c, .int .i64 D, .func (.func f) #[] cap.toArray] w fun v w' => v = .int .i64 (listedE n D b) ∧ w = w' := by
  refine enter Try.func39 rfl Try.ntmps39 rfl ?_
  refine go T_ok 100 rfl ?_
  refine call rfl rfl rfl (ok _ (by decide) rfl) (within_any _ _ _ _) ?_
  rintro v w ⟨rfl, rfl⟩
  refine go T_ok 100 rfl ?_
  refine cond rfl (fun q1 => ?_) (fun q1 => ?_)
  · have q1 : inB D 2 1000 = false := by simpa using q1
    refine go T_ok 100 rfl ?_
    exact ret (ret1 (v := .int .i64 _) Try.results39 rfl ⟨by rw [listedE, if_pos q1], rfl⟩)
  · have q1 : ¬ inB D 2 1000 = false := by simpa using q1
    refine go T_ok 100 rfl ?_
    refine condD rfl (fun q2 => ?_) (fun q2 => ?_)
    · refine go T_ok 100 rfl ?_
      exact ret (ret1 (v := .int .i64 _) Try.results39 rfl ⟨by rw [listedE, if_neg q1, if_pos q2], rfl⟩)
    · refine go T_ok 100 rfl ?_
      refine call rfl rfl rfl hf hcall ?_
      rintro v w ⟨rfl, rfl⟩
      refine go T_ok 100 rfl ?_
      refine cond rfl (fun q3 => ?_) (fun q3 => ?_)
      · have q3 : b = false := by simpa using q3
        refine go T_ok 100 rfl ?_
        exact ret (ret1 (v := .int .i64 _) Try.results39 rfl ⟨by rw [listedE, if_neg q1, if_neg q2, q3]; rfl, rfl⟩)
      · have q3 : b = true := by simpa using q3
        refine go T_ok 100 rfl ?_
        exact ret (ret1 (v := .int .i64 _) Try.results39 rfl ⟨by rw [listedE, if_neg q1, if_neg q2, q3]; rfl, rfl⟩)
/-! closures: f: Kept's and Set's -/
/-- the check of Decide's -/
def decB (lv lo hi D : Int) : Bool := inB lv 2 900000 && (inB lo 0 (hi - 1) && decide (hi ≤ D))
theorem lev57 (lv lo hi D : Int) (g g2 g3 g4 : Nat) (w : World) (h : Bk w g 3 [.int .i64 lv]) (h2 : Bk w g2 3 [.int .i64 lo]) (h3 : Bk w g3 3 [.int .i64 hi]) (h4 : Bk w g4 3 [.int .i64 D]) (hb : -9223372036854775808 < hi ∧ hi ≤ 9223372036854775807) :
    Ret Try.prog 40 [.pointer (some ⟨g, 0, none⟩), .pointer (some ⟨g2, 0, none⟩), .pointer (some ⟨g3, 0, none⟩), .pointer (some ⟨g4, 0, none⟩)] w fun v w' => v = .bool (decB lv lo hi D) ∧ w = w' := by
  have e1 : w64 (hi - 1) = hi - 1 := w64_id (by omega) (by omega)
  refine enter Try.func40 rfl Try.ntmps40 rfl ?_
  refine go T_ok 100 rfl ?_
  refine ld T_ok rfl rfl rfl rfl (h.get rfl) ?_
  refine go T_ok 100 rfl ?_
  refine call rfl rfl rfl (ok _ (by decide) rfl) (leveled_any _ _) ?_
  rintro v w ⟨rfl, rfl⟩
  refine go T_ok 100 rfl ?_
  refine guard rfl rfl rfl (fun q => ?_) (fun q => ?_)
  · refine go T_ok 100 rfl ?_
    refine ld T_ok rfl rfl rfl rfl (h2.get rfl) ?_
    refine go T_ok 100 rfl ?_
    refine ld T_ok rfl rfl rfl rfl (h3.get rfl) ?_
    refine go T_ok 100 rfl ?_
    rw [e1]
    refine call rfl rfl rfl (ok _ (by decide) rfl) (within_any _ _ _ _) ?_
    rintro v w ⟨rfl, rfl⟩
    refine go T_ok 100 rfl ?_
    refine guard rfl rfl rfl (fun q2 => ?_) (fun q2 => ?_)
    · refine go T_ok 100 rfl ?_
      refine ld T_ok rfl rfl rfl rfl (h3.get rfl) ?_
      refine go T_ok 100 rfl ?_
      refine ld T_ok rfl rfl rfl rfl (h4.get rfl) ?_
      refine go T_ok 100 rfl ?_
      exact ret (ret1 (v := .bool _) Try.results40 rfl ⟨by rw [decB, q, q2, Bool.true_and, Bool.true_and], rfl⟩)
    · refine go T_ok 100 rfl ?_
      exact ret (ret1 (v := .bool _) Try.results40 rfl ⟨by rw [decB, q, q2, Bool.true_and, Bool.false_and], rfl⟩)
  · refine go T_ok 100 rfl ?_
    exact ret (ret1 (v := .bool _) Try.results40 rfl ⟨by rw [decB, q, Bool.false_and], rfl⟩)
end Go.Proofs.Ytolhfimknimliaa.Q
namespace Go.Proofs.Ytolhfimknimliaa.Q
open Go.Ev Go.Proofs Go.Cnt

def allFalse (l : List Value) : Nat → Nat → Bool
  | _, 0 => true
  | o, m + 1 => (match nth? l o with | some v => sameCell v (.bool false) | none => false) && allFalse l (o + 1) m
theorem allFalse_get {l : List Value} : ∀ {m o : Nat}, allFalse l o m = true → ∀ j, j < m → l[o + j]? = some (.bool false) := by
  intro m
  induction m with
  | zero => intro o _ j hj; omega
  | succ m ih =>
    intro o h j hj
    simp only [allFalse, Bool.and_eq_true] at h
    cases j with
    | zero =>
      have h1 := h.1
      split at h1
      · rename_i v hv
        rw [nth?_eq] at hv
        rw [Nat.add_zero, hv, sameCell_eq h1]
      · cases h1
    | succ j =>
      have := ih h.2 j (by omega)
      rw [show o + (j + 1) = o + 1 + j by omega]
      exact this
def zCheck (P : Program) : Bool := match zeroOf P 149 with
  | some z => Nat.beq (lenL z.cells.toList) 2006 && ((match nth? z.cells.toList 2 with | some v => sameCell v (.slice none 0 0) | none => false) && allFalse z.cells.toList 3 1001)
  | none => false
theorem zCheck_ok : zCheck Try.prog = true := by kernel_rfl
theorem z105 : ∃ z, zeroOf Try.prog 149 = some z ∧ z.cells.size = 2006 ∧ z.cells.toList[2]? = some (.slice none 0 0) ∧ ∀ j, j < 1001 → z.cells.toList[3 + j]? = some (.bool false) := by
  have h := zCheck_ok
  unfold zCheck at h
  split at h
  · rename_i z hz
    simp only [Bool.and_eq_true] at h
    obtain ⟨h1, h2, h3⟩ := h
    refine ⟨z, hz, ?_, ?_, allFalse_get h3⟩
    · have := Nat.eq_of_beq_eq_true h1
      rw [lenL_eq] at this
      simpa using this
    · split at h2
      · rename_i v hv
        rw [nth?_eq] at hv
        rw [hv, sameCell_eq h2]
      · cases h2
  · cases h

end Go.Proofs.Ytolhfimknimliaa.Q
namespace Go.Proofs.Ytolhfimknimliaa.Q
open Go.Ev Go.Proofs Go.Cnt

/-! ### The bets in memory: block b is the struct, block g the row of bets -/
/-- the cells of the struct -/
def BC (D : Nat) (lv : Int) (A : Value) (kept : Nat) (S : Nat → BS) (f : Nat → Value) : Prop :=
  f 0 = .int .i64 D ∧ f 1 = .int .i64 lv ∧ f 2 = A ∧ f 1004 = .int .i64 kept ∧
  (∀ j, j ≤ D → f (3 + j) = .bool (S j).out) ∧ ∀ j, j ≤ D → (S j).out = true → f (1005 + j) = .int .i64 (S j).at_
structure Bets (w : World) (b g : Nat) (D : Nat) (lv : Int) (S : Nat → BS) : Prop where
  ne : b ≠ g
  par : ∃ f cap, w.rowIs b 149 2006 f ∧ BC D lv (.slice (some ⟨g, 0, none⟩) (D + 1) cap) (cnt (fun j => !(S j).out) (D + 1)) S f
  row : ∃ m e, w.rowIs g 153 m e ∧ 5 * (D + 1) ≤ m ∧ ∀ j, j ≤ D → (S j).out = false → betAt e (5 * j) D (S j).n (S j).h j (S j).c
theorem Bets.keep {M : Nat → Prop} {w w' : World} {b g D : Nat} {lv : Int} {S : Nat → BS} (h : Bets w b g D lv S) (c : Chg M w w') (hb : ¬ M b) (hg : ¬ M g) : Bets w' b g D lv S := by
  obtain ⟨f, cap, h1, h2⟩ := h.par
  obtain ⟨m, e, h3, h4, h5⟩ := h.row
  exact ⟨h.ne, ⟨f, cap, rowIs_keep h1 c hb, h2⟩, ⟨m, e, rowIs_keep h3 c hg, h4, h5⟩⟩
theorem Bets.no {w w' : World} {b g D : Nat} {lv : Int} {S : Nat → BS} (h : Bets w b g D lv S) (c : Chg No w w') : Bets w' b g D lv S := h.keep c (fun h => h) (fun h => h)
theorem Bets.ltb {w : World} {b g D : Nat} {lv : Int} {S : Nat → BS} (h : Bets w b g D lv S) : b < w.heap.size := by obtain ⟨f, cap, h1, _⟩ := h.par; exact h1.lt
theorem Bets.ltg {w : World} {b g D : Nat} {lv : Int} {S : Nat → BS} (h : Bets w b g D lv S) : g < w.heap.size := by obtain ⟨m, e, h1, _⟩ := h.row; exact h1.lt
/-- the same states -/
theorem Bets.congr {w : World} {b g D : Nat} {lv : Int} {S S' : Nat → BS} (h : Bets w b g D lv S) (e : ∀ j, j ≤ D → S j = S' j) : Bets w b g D lv S' := by
  obtain ⟨f, cap, h1, a0, a1, a2, a3, a4, a5⟩ := h.par
  obtain ⟨m, e', h3, h4, h5⟩ := h.row
  refine ⟨h.ne, ⟨f, cap, h1, a0, a1, a2, ?_, ?_, ?_⟩, ⟨m, e', h3, h4, ?_⟩⟩
  · rw [a3, cnt_congr (p := fun j => !(S j).out) (q := fun j => !(S' j).out)]
    intro j hj
    rw [e j (by omega)]
  · intro j hj; rw [← e j hj]; exact a4 j hj
  · intro j hj; rw [← e j hj]; exact a5 j hj
  · intro j hj; rw [← e j hj]; exact h5 j hj

set_option maxRecDepth 20000 in
/-- one rate's turn: next$1 -/
theorem against_any (hit : Bool) (D : Nat) (lv : Int) (S : Nat → BS) (b g b1 b2 k : Nat) (w : World) (H : Bets w b g D lv S) (B1 : Bk w b1 105 [.pointer (some ⟨b, 0, none⟩)]) (B2 : Bk w b2 4 [.bool hit])
    (hn1 : b1 ≠ b) (hn2 : b1 ≠ g)
    (hD0 : 2 ≤ D) (hD1 : D ≤ 1000) (hl0 : 0 ≤ lv) (hl1 : lv ≤ 900000) (hk : k ≤ D) (hS : BSok 3999 (S k)) (hout : (S k).out = false) :
    Ret Try.prog 113 [.int .i64 k, .pointer (some ⟨b1, 0, none⟩), .pointer (some ⟨b2, 0, none⟩)] w fun v w' => v = .tuple #[] ∧ Chg (fun x => x = b ∨ x = g) w w' ∧
      Bets w' b g D lv (fun j => if j = k then bstep D lv k (S k) hit else S j) := by
  obtain ⟨f, cap, Rb, a0, a1, a2, a3, a4, a5⟩ := H.par
  obtain ⟨m, e, Rg, hm, hbet⟩ := H.row
  have hne := H.ne
  obtain ⟨s1, s2, s3, s4, s5, _, _⟩ := hS
  refine enter Try.func113 rfl Try.ntmps113 rfl ?_
  refine go T_ok 100 rfl ?_
  refine ld T_ok rfl rfl rfl rfl (B1.get rfl) ?_
  refine go T_ok 100 rfl ?_
  refine ld T_ok rfl rfl rfl rfl ((Rb.cell (i := 0 + 2) (by omega)).trans (congrArg some a2)) ?_
  refine go T_ok 100 rfl ?_
  refine idx T_ok rfl rfl rfl rfl rfl k rfl (by omega) ?_
  refine go T_ok 100 rfl ?_
  refine ld T_ok rfl rfl rfl rfl (B2.get rfl) ?_
  refine go T_ok 100 rfl ?_
  have e0 : 0 + k * 5 = 5 * k := by omega
  rw [e0]
  refine call rfl rfl rfl (ok _ (by decide) rfl) (bnext_any hit (S k).c (S k).n (S k).h D k g (5 * k) m 153 e w Rg (hbet k hk hout) (by omega) s1 s2 (by omega) (by omega) s3 s4 (by omega) (by omega) (by omega) (by omega)) ?_
  rintro v w1 ⟨rfl, q1, e', Rg1, hb1, hfar⟩
  have Rb1 := rowIs_keep Rb q1 hne
  have B11 := B1.keep q1 hn2
  refine go T_ok 100 rfl ?_
  obtain ⟨c0, c1, c2, c3, c4⟩ := hb1
  have hcb := nextC_bd (D := D) (k := k) hit s1 s2 (by omega) s3 s4 (by omega) (by omega) (by omega)
  have el : w64 (lv * 1048576) = lv * 1048576 := w64_id (by omega) (by omega)
  have ekn : w64 ((cnt (fun j => !(S j).out) (D + 1) : Int) - 1) = (cnt (fun j => !(S j).out) (D + 1) : Int) - 1 := w64_id (by omega) (by have := cnt_le (fun j => !(S j).out) (D + 1); omega)
  refine draw mixed (fun w' => w' = w1.drew) ((List.range 19).map fun i => (i, true)) rfl (by kernel_rfl) rfl ?_
  refine goH T_ok 100 rfl ?_
  refine quietH rfl (fun w' hS => r_load T_ok rfl rfl rfl (by rw [hS]; exact B11.get rfl)) ?_
  refine goH T_ok 100 rfl ?_
  refine quietH rfl (fun w' hS => r_idxA T_ok rfl rfl rfl rfl k rfl (by omega)) ?_
  refine goH T_ok 100 rfl ?_
  refine quietH rfl (fun w' hS => r_load T_ok rfl rfl rfl (by rw [hS]; exact (Rb1.cell (i := 0 + 3 + k * 1) (by omega)).trans (congrArg some (by rw [show 0 + 3 + k * 1 = 3 + k by omega, a4 k hk, hout])))) ?_
  refine goH T_ok 100 rfl ?_
  refine guardH (b := true) rfl rfl rfl (fun _ => ?_) (fun h => by cases h)
  refine goH T_ok 100 rfl ?_
  refine quietH rfl (fun w' hS => r_load T_ok rfl rfl rfl (by rw [hS]; exact (Rg1.cell (i := 5 * k + 4) (by omega)).trans (congrArg some c4))) ?_
  refine goH T_ok 100 rfl ?_
  refine quietH rfl (fun w' hS => r_load T_ok rfl rfl rfl (by rw [hS]; exact B11.get rfl)) ?_
  refine goH T_ok 100 rfl ?_
  refine quietH rfl (fun w' hS => r_load T_ok rfl rfl rfl (by rw [hS]; exact (Rb1.cell (i := 0 + 1) (by omega)).trans (congrArg some a1))) ?_
  refine goH T_ok 100 rfl ?_
  rw [el]
  refine endH ?_
  refine go T_ok 100 rfl ?_
  refine condD rfl (fun hq => ?_) (fun hq => ?_)
  · refine go T_ok 100 rfl ?_
    have L1 : ∀ {w' : World}, Chg (fun x => x = b) w1 w' → w'.cell? ⟨b1, 0, none⟩ = some (.pointer (some ⟨b, 0, none⟩)) := fun hS => (B11.keep hS hn1).get rfl
    have L2 : ∀ {w' : World}, Chg (fun x => x = b) w1 w' → w'.cell? ⟨g, 5 * k + 1, none⟩ = some (.int .i64 ((S k).n + 1)) := fun hS => ((rowIs_keep Rg1 hS (Ne.symm hne)).cell (i := 5 * k + 1) (by omega)).trans (congrArg some c1)
    refine draw mixed (fun w' => Chg (fun x => x = b) w1 w') ([0,1,2,3,4,5,6,7,8,9,10,11,13,14].map (fun i => (i, true)) ++ [(12, false)] ++ [15].map (fun i => (i, true)) ++ [(16, false)]) rfl (by kernel_rfl) ((Chg.refl _ _).no ((Chg.drew _).trans (Chg.drew _))) ?_
    refine goH T_ok 100 rfl ?_
    refine quietH rfl (fun w' hS => r_load T_ok rfl rfl rfl (L1 hS)) ?_
    refine goH T_ok 100 rfl ?_
    refine quietH rfl (fun w' hS => r_load T_ok rfl rfl rfl (L1 hS)) ?_
    refine goH T_ok 100 rfl ?_
    refine quietH rfl (fun w' hS => r_load T_ok rfl rfl rfl (L2 hS)) ?_
    refine goH T_ok 100 rfl ?_
    refine quietH rfl (fun w' hS => r_idxA T_ok rfl rfl rfl rfl k rfl (by omega)) ?_
    refine goH T_ok 100 rfl ?_
    have Rb2 : w1.drew.drew.rowIs b 149 2006 f := rowIs_no Rb1 ((Chg.drew w1).trans (Chg.drew _))
    refine stRE (v := .bool true) T_ok rfl rfl rfl rfl rfl rfl Rb2 (by omega) ?_
    intro w2 q2 R2 _
    refine ⟨((Chg.refl (fun x => x = b) w1).no ((Chg.drew w1).trans (Chg.drew _))).trans q2, ?_⟩
    refine goH T_ok 100 rfl ?_
    refine quietH rfl (fun w' hS => r_idxA T_ok rfl rfl rfl rfl k rfl (by omega)) ?_
    refine goH T_ok 100 rfl ?_
    refine stRE (v := .int .i64 _) T_ok rfl rfl rfl rfl rfl rfl R2 (by omega) ?_
    intro w3 q3 R3 _
    have q13 : Chg (fun x => x = b) w1 w3 := (((Chg.refl (fun x => x = b) w1).no ((Chg.drew w1).trans (Chg.drew _))).trans q2).trans q3
    refine ⟨q13, ?_⟩
    refine goH T_ok 100 rfl ?_
    refine endH ?_
    refine go T_ok 100 rfl ?_
    refine ld T_ok rfl rfl rfl rfl (L1 q13) ?_
    refine go T_ok 100 rfl ?_
    refine ld T_ok rfl rfl rfl rfl ((R3.cell (i := 0 + 1004) (by omega)).trans (by rw [if_neg (by omega), if_neg (by omega), a3])) ?_
    refine go T_ok 100 rfl ?_
    rw [ekn]
    refine stR (v := .int .i64 _) T_ok rfl rfl rfl rfl rfl rfl R3 (by omega) ?_
    intro w4 q4 R4 _
    refine go T_ok 100 rfl ?_
    refine fin (ret0 Try.results113 ⟨rfl, ?_, ?_⟩)
    · exact (q1.mono fun _ _ h => .inr h).trans ((q13.trans q4).mono fun _ _ h => .inl h)
    · have hs : bstep D lv k (S k) hit = { bnext D k (S k) hit with out := true, at_ := (S k).n + 1 } := by
        have hq : (bnext D k (S k) hit).c ≥ lv * 1048576 := hq
        unfold bstep
        rw [hout, if_neg (by simp), if_pos hq]
      refine ⟨hne, ⟨_, cap, R4, ?_, ?_, ?_, ?_, ?_, ?_⟩, ⟨m, e', rowIs_keep Rg1 (q13.trans q4) (Ne.symm hne), hm, ?_⟩⟩
      · show (if 0 = 0 + 1004 then _ else if 0 = 0 + 1005 + k * 1 then _ else if 0 = 0 + 3 + k * 1 then _ else f 0) = _
        rw [if_neg (by omega), if_neg (by omega), if_neg (by omega)]; exact a0
      · show (if 1 = 0 + 1004 then _ else if 1 = 0 + 1005 + k * 1 then _ else if 1 = 0 + 3 + k * 1 then _ else f 1) = _
        rw [if_neg (by omega), if_neg (by omega), if_neg (by omega)]; exact a1
      · show (if 2 = 0 + 1004 then _ else if 2 = 0 + 1005 + k * 1 then _ else if 2 = 0 + 3 + k * 1 then _ else f 2) = _
        rw [if_neg (by omega), if_neg (by omega), if_neg (by omega)]; exact a2
      · simp only [Nat.zero_add, if_true]
        rw [cnt_off (p := fun j => !(S j).out) (q := fun j => !(if j = k then bstep D lv k (S k) hit else S j).out) (j := k) (by simp [hout]) (by simp [hs]) (by omega) (by intro x _ hx; simp [hx])]
        congr 1
        omega
      · intro j hj
        simp only
        rw [if_neg (by omega), if_neg (by omega)]
        by_cases hjk : j = k
        · subst hjk
          rw [if_pos (by omega), if_pos rfl, hs]
        · rw [if_neg (by omega), if_neg hjk]
          exact a4 j hj
      · intro j hj ho
        simp only
        rw [if_neg (by omega)]
        by_cases hjk : j = k
        · subst hjk
          rw [if_pos (by omega), if_pos rfl, hs]
        · simp only [if_neg hjk] at ho ⊢
          rw [if_neg (by omega), if_neg (by omega)]
          exact a5 j hj ho
      · intro j hj ho
        by_cases hjk : j = k
        · subst hjk
          simp [hs] at ho
        · simp only [if_neg hjk] at ho ⊢
          obtain ⟨d0, d1, d2, d3, d4⟩ := hbet j hj ho
          refine ⟨?_, ?_, ?_, ?_, ?_⟩
          · rw [hfar _ (by omega)]; exact d0
          · rw [hfar _ (by omega)]; exact d1
          · rw [hfar _ (by omega)]; exact d2
          · rw [hfar _ (by omega)]; exact d3
          · rw [hfar _ (by omega)]; exact d4
  · refine go T_ok 100 rfl ?_
    refine fin (ret0 Try.results113 ⟨rfl, ?_, ?_⟩)
    · exact (q1.mono fun _ _ h => .inr h).no (Chg.drew _)
    · have hs : bstep D lv k (S k) hit = bnext D k (S k) hit := by
        have hq : ¬ (bnext D k (S k) hit).c ≥ lv * 1048576 := hq
        unfold bstep
        rw [hout, if_neg (by simp), if_neg hq]
      have ho : (bnext D k (S k) hit).out = false := hout
      refine ⟨hne, ⟨f, cap, rowIs_no Rb1 (Chg.drew w1), a0, a1, a2, ?_, ?_, ?_⟩, ⟨m, e', rowIs_no Rg1 (Chg.drew w1), hm, ?_⟩⟩
      · rw [a3, cnt_congr (p := fun j => !(S j).out) (q := fun j => !(if j = k then bstep D lv k (S k) hit else S j).out)]
        intro j _
        by_cases hjk : j = k
        · subst hjk; simp [hs, ho, hout]
        · simp [hjk]
      · intro j hj
        rw [a4 j hj]
        by_cases hjk : j = k
        · subst hjk; simp [hs, ho, hout]
        · simp [hjk]
      · intro j hj ho'
        by_cases hjk : j = k
        · subst hjk
          simp [hs, ho] at ho'
        · simp only [if_neg hjk] at ho' ⊢
          exact a5 j hj ho'
      · intro j hj ho'
        by_cases hjk : j = k
        · subst hjk
          simp only [if_true, hs]
          exact ⟨c0, c1, c2, c3, c4⟩
        · simp only [if_neg hjk] at ho' ⊢
          obtain ⟨d0, d1, d2, d3, d4⟩ := hbet j hj ho'
          refine ⟨?_, ?_, ?_, ?_, ?_⟩
          · rw [hfar _ (by omega)]; exact d0
          · rw [hfar _ (by omega)]; exact d1
          · rw [hfar _ (by omega)]; exact d2
          · rw [hfar _ (by omega)]; exact d3
          · rw [hfar _ (by omega)]; exact d4
end Go.Proofs.Ytolhfimknimliaa.Q
namespace Go.Proofs.Ytolhfimknimliaa.Q
open Go.Ev Go.Proofs Go.Cnt

/-- the states after the first i rates' turns -/
def stp (D : Nat) (lv : Int) (hit : Bool) (S : Nat → BS) (i : Nat) : Nat → BS := fun j => if j < i then bstep D lv j (S j) hit else S j
theorem stp_at {D : Nat} {lv : Int} {hit : Bool} {S : Nat → BS} {i : Nat} : stp D lv hit S i i = S i := by simp [stp]
theorem next_any (hit : Bool) (D : Nat) (lv : Int) (S : Nat → BS) (b g : Nat) (w : World) (H : Bets w b g D lv S) (hD0 : 2 ≤ D) (hD1 : D ≤ 1000) (hl0 : 0 ≤ lv) (hl1 : lv ≤ 900000) (hS : ∀ j, j ≤ D → (S j).out = false → BSok 3999 (S j)) :
    Ret Try.prog 81 [.pointer (some ⟨b, 0, none⟩), .bool hit] w fun v w' => v = .tuple #[] ∧ Chg (fun x => x = b ∨ x = g) w w' ∧ Bets w' b g D lv (fun j => bstep D lv j (S j) hit) := by
  have hb := H.ltb
  have hg := H.ltg
  refine enter Try.func81 rfl Try.ntmps81 rfl ?_
  refine go T_ok 100 rfl ?_
  refine bx rfl rfl rfl (cs := [.pointer (some ⟨b, 0, none⟩)]) rfl ?_
  intro b1 w1 hg1 hs1 q1 B1
  refine go T_ok 100 rfl ?_
  refine bx rfl rfl rfl (cs := [.bool hit]) rfl ?_
  intro b2 w2 hg2 hs2 q2 B2
  have B1 := B1.no q2
  have q12 : Chg No w w2 := q1.trans q2
  have H2 := H.no q12
  refine go T_ok 100 rfl ?_
  refine ld T_ok rfl rfl rfl rfl (B1.get rfl) ?_
  refine go T_ok 100 rfl ?_
  obtain ⟨f, cap, Rb, a0, a1, a2, a3, a4, a5⟩ := id H2.par
  refine ld T_ok rfl rfl rfl rfl ((Rb.cell (i := 0 + 2) (by omega)).trans (congrArg some a2)) ?_
  refine go T_ok 100 rfl ?_
  refine loop [2, 3, 4, 11, 12] (fun i : Nat => [.pointer (some ⟨b1, 0, none⟩), .pointer (some ⟨b2, 0, none⟩), .func (.func 113) #[] #[.pointer (some ⟨b1, 0, none⟩), .pointer (some ⟨b2, 0, none⟩)], .int .i64 ((D + 1 : Nat) : Int), .int .i64 (i : Int)])
    (fun i w' => i ≤ D + 1 ∧ Chg (fun x => x = b ∨ x = g) w w' ∧ Bk w' b1 105 [.pointer (some ⟨b, 0, none⟩)] ∧ Bk w' b2 4 [.bool hit] ∧ Bets w' b g D lv (stp D lv hit S i)) (fun i => D + 1 - i) 0 (fun _ => rfl) rfl ⟨by omega, (Chg.refl _ _).no q12, B1, B2, H2.congr fun j _ => by simp [stp]⟩ ?_
  intro i τ w' ⟨hi, q, B1, B2, H⟩
  refine go T_ok 100 rfl ?_
  refine condD rfl (fun hlt => ?_) (fun hlt => ?_)
  · have hlt : i < D + 1 := by omega
    refine go T_ok 100 rfl ?_
    refine ld T_ok rfl rfl rfl rfl (B1.get rfl) ?_
    refine go T_ok 100 rfl ?_
    obtain ⟨f, cap, Rb, a0, a1, a2, a3, a4, a5⟩ := id H.par
    refine idxA T_ok rfl rfl rfl rfl rfl i rfl (by omega) ?_
    refine go T_ok 100 rfl ?_
    have e3 : 0 + 3 + i * 1 = 3 + i := by omega
    rw [e3]
    have hget := (Rb.cell (i := 3 + i) (by omega)).trans (congrArg some (a4 i (by omega)))
    rw [stp_at] at hget
    refine ld T_ok rfl rfl rfl rfl hget ?_
    refine go T_ok 100 rfl ?_
    have ei : w64 ((i : Int) + 1) = ((i + 1 : Nat) : Int) := w64_id (by omega) (by omega)
    cases ho : (S i).out with
    | false =>
      refine condT rfl rfl ?_
      refine go T_ok 100 rfl ?_
      refine call rfl rfl rfl (ok _ (by decide) rfl) (against_any hit D lv _ b g b1 b2 i w' H B1 B2 (by omega) (by omega) hD0 hD1 hl0 hl1 (by omega) (by rw [stp_at]; exact hS i (by omega) ho) (by rw [stp_at]; exact ho)) ?_
      rintro v w3 ⟨rfl, q3, H3⟩
      refine go T_ok 100 rfl ?_
      rw [ei]
      refine round ⟨i + 1, rfl, ⟨by omega, q.trans q3, B1.keep q3 (by omega), B2.keep q3 (by omega), H3.congr ?_⟩, by omega⟩
      intro j _
      by_cases hji : j = i
      · subst hji; simp [stp]
      · simp only [if_neg hji]
        simp only [stp]
        by_cases hj : j < i
        · rw [if_pos hj, if_pos (by omega)]
        · rw [if_neg hj, if_neg (by omega)]
    | true =>
      refine condF rfl rfl ?_
      refine go T_ok 100 rfl ?_
      rw [ei]
      refine round ⟨i + 1, rfl, ⟨by omega, q, B1, B2, H.congr ?_⟩, by omega⟩
      intro j _
      simp only [stp]
      by_cases hji : j = i
      · subst hji; simp [bstep, ho]
      · by_cases hj : j < i
        · rw [if_pos hj, if_pos (by omega)]
        · rw [if_neg hj, if_neg (by omega)]
  · refine go T_ok 100 rfl ?_
    refine fin (ret0 Try.results81 ⟨rfl, q, H.congr ?_⟩)
    intro j hj
    simp only [stp]
    rw [if_pos (by omega)]

/-- the states after the first i of the slots -/
theorem bst_snoc (D lv k : Int) (xs : List Bool) (i : Nat) (h : i < xs.length) : bst D lv k (xs.take (i + 1)) = bstep D lv k (bst D lv k (xs.take i)) xs[i] := by
  unfold bst brun
  rw [List.take_succ_eq_append_getElem h, List.foldl_append]
  rfl
def boolVs (xs : List Bool) : List Value := xs.map .bool
theorem boolVs_get {xs : List Bool} {i : Nat} (h : i < xs.length) : (boolVs xs)[i]? = some (.bool xs[i]) := by
  simp [boolVs, h]
theorem run_any (xs : List Bool) (D : Nat) (lv : Int) (b g B c : Nat) (A : Option Addr) (w : World) (hSl : Sl w B 1 A xs.length (boolVs xs)) (hBb : B ≤ b) (hBg : B ≤ g) (H : Bets w b g D lv (fun _ => BS.new)) (hx : xs.length ≤ 4000) (hD0 : 2 ≤ D) (hD1 : D ≤ 1000) (hl0 : 0 ≤ lv) (hl1 : lv ≤ 900000) :
    Ret Try.prog 44 [.pointer (some ⟨b, 0, none⟩), .slice A xs.length c] w fun v w' => v = .pointer (some ⟨b, 0, none⟩) ∧ Chg (fun x => x = b ∨ x = g) w w' ∧ Bets w' b g D lv (fun j => bst D lv j xs) := by
  refine enter Try.func44 rfl Try.ntmps44 rfl ?_
  refine go T_ok 100 rfl ?_
  refine loop [0, 7, 8, 9] (fun i : Nat => [.pointer (some ⟨b, 0, none⟩), .slice A xs.length c, .int .i64 (xs.length : Int), .int .i64 (i : Int)])
    (fun i w' => i ≤ xs.length ∧ Chg (fun x => x = b ∨ x = g) w w' ∧ Bets w' b g D lv (fun j => bst D lv j (xs.take i))) (fun i => xs.length - i) 0 (fun _ => rfl) rfl ⟨by omega, Chg.refl _ _, H⟩ ?_
  intro i τ w' ⟨hi, q, H⟩
  refine go T_ok 100 rfl ?_
  refine condD rfl (fun hlt => ?_) (fun hlt => ?_)
  · have hlt : i < xs.length := by omega
    refine go T_ok 100 rfl ?_
    obtain ⟨_, _, hA⟩ := hSl.keep q (by omega)
    obtain ⟨bb, off, rfl, hbB, hcells⟩ := hA (by omega)
    refine idx T_ok rfl rfl rfl rfl rfl i rfl (by omega) ?_
    refine go T_ok 100 rfl ?_
    have e3 : off + i * 1 = off + i := by omega
    rw [e3]
    refine ld T_ok rfl rfl rfl rfl (hcells i _ (boolVs_get hlt)) ?_
    refine go T_ok 100 rfl ?_
    have ei : w64 ((i : Int) + 1) = ((i + 1 : Nat) : Int) := w64_id (by omega) (by omega)
    refine call rfl rfl rfl (ok _ (by decide) rfl) (next_any xs[i] D lv _ b g w' H hD0 hD1 hl0 hl1 (fun j hj _ => (bst_ok (by omega) (by omega) (by omega) _).mono (by simp; omega))) ?_
    rintro v w3 ⟨rfl, q3, H3⟩
    refine go T_ok 100 rfl ?_
    rw [ei]
    refine round ⟨i + 1, rfl, ⟨by omega, q.trans q3, H3.congr ?_⟩, by omega⟩
    intro j _
    rw [bst_snoc _ _ _ _ _ hlt]
  · refine go T_ok 100 rfl ?_
    refine ret (ret1 (v := .pointer _) Try.results44 rfl ⟨rfl, q, ?_⟩)
    have : i = xs.length := by omega
    subst this
    rw [List.take_length] at H
    exact H
end Go.Proofs.Ytolhfimknimliaa.Q
namespace Go.Proofs.Ytolhfimknimliaa.Q
open Go.Ev Go.Proofs Go.Cnt

/-- the first i bets, flat -/
def betsL (D : Nat) : Nat → List Value
  | 0 => []
  | i + 1 => betsL D i ++ betL D 0 0 i 1048576
theorem betsL_len (D : Nat) : ∀ i, (betsL D i).length = 5 * i := by
  intro i
  induction i with
  | zero => rfl
  | succ i ih => simp [betsL, betL, ih]; omega
theorem betsL_get (D : Nat) : ∀ (i : Nat) {j r : Nat}, j < i → r < 5 → (betsL D i)[5 * j + r]? = (betL D 0 0 j 1048576)[r]? := by
  intro i
  induction i with
  | zero => intro j r h; omega
  | succ i ih =>
    intro j r hj hr
    simp only [betsL, List.getElem?_append, betsL_len]
    by_cases e : j = i
    · subst e
      rw [if_neg (by omega)]
      congr 1
      omega
    · rw [if_pos (by omega)]
      exact ih (by omega) hr

set_option maxRecDepth 20000 in
theorem begin_any (D : Nat) (lv : Int) (w : World) (hD0 : 2 ≤ D) (hD1 : D ≤ 1000) :
    Ret Try.prog 43 [.int .i64 D, .int .i64 lv] w fun v w' => ∃ b g, v = .pointer (some ⟨b, 0, none⟩) ∧ w.heap.size ≤ b ∧ w.heap.size ≤ g ∧ Chg No w w' ∧ Bets w' b g D lv (fun _ => BS.new) := by
  obtain ⟨z, hz, hz1, hz2, hz3⟩ := z105
  have e1 : w64 ((D : Int) + 1) = ((D + 1 : Nat) : Int) := w64_id (by omega) (by omega)
  refine enter Try.func43 rfl Try.ntmps43 rfl ?_
  refine go T_ok 100 rfl ?_
  rw [e1]
  refine bigB T_ok rfl rfl rfl hz hz1 [0, 1, 1004] rfl ?_
  refine go T_ok 100 rfl ?_
  refine bx rfl rfl rfl (cs := (((z.cells.setIfInBounds 0 (.int .i64 D)).setIfInBounds 1 (.int .i64 lv)).setIfInBounds 1004 (.int .i64 ((D + 1 : Nat) : Int))).toList) rfl ?_
  intro b w1 hb _ q1 B1
  refine go T_ok 100 rfl ?_
  rw [e1]
  have R1 := B1.row
  simp only [Array.toList_setIfInBounds, List.length_set, Array.length_toList, hz1] at R1
  refine loop [0, 5, 14, 15] (fun i : Nat => [.int .i64 D, .pointer (some ⟨b, 0, none⟩), .int .i64 ((D + 1 : Nat) : Int), .int .i64 (i : Int)])
    (fun i w' => i ≤ D + 1 ∧ Chg No w w' ∧ ∃ f A c, w'.rowIs b 149 2006 f ∧ f 0 = .int .i64 D ∧ f 1 = .int .i64 lv ∧ f 2 = .slice A i c ∧ f 1004 = .int .i64 ((D + 1 : Nat) : Int) ∧ (∀ j, j ≤ D → f (3 + j) = .bool false) ∧ w'.ownsRow w.heap.size 153 5 (.slice A i c) i (betsL D i)) (fun i => D + 1 - i) 0 (fun _ => rfl) rfl ⟨by omega, q1, _, none, 0, R1, ?_, ?_, ?_, ?_, ?_, ?_⟩ ?_
  · simp [List.getD_eq_getElem?_getD, hz1]
  · simp [List.getD_eq_getElem?_getD, hz1]
  · simp [List.getD_eq_getElem?_getD, hz2]
  · simp [List.getD_eq_getElem?_getD, hz1]
  · intro j hj
    show ((((z.cells.toList.set 0 _).set 1 _).set 1004 _).getD (3 + j) undef) = _
    rw [List.getD_eq_getElem?_getD, List.getElem?_set_ne (by omega), List.getElem?_set_ne (by omega), List.getElem?_set_ne (by omega), hz3 j (by omega)]
    rfl
  · exact own_nil
  intro i τ w' ⟨hi, q, f, A, c, R, f0, f1, f2, f3, f4, hown⟩
  refine go T_ok 100 rfl ?_
  refine condD rfl (fun hlt => ?_) (fun hlt => ?_)
  · have hlt : i < D + 1 := by omega
    refine go T_ok 100 rfl ?_
    refine ld T_ok rfl rfl rfl rfl ((R.cell (i := 0 + 2) (by omega)).trans (congrArg some f2)) ?_
    refine go T_ok 100 rfl ?_
    refine app1 T_ok rfl rfl rfl rfl rfl rfl (cs := betL D 0 0 i 1048576) rfl rfl rfl rfl (fun _ => rfl) (fun _ => rfl) (fun _ => rfl) hown (by unfold maxLen; omega) (by omega) q.size ?_
    intro g A' c' w3 hown' q3 hs3 _
    refine go T_ok 100 rfl ?_
    have hne := own_ne_row hown R (by decide)
    have R3 := rowIs_keep R q3 hne
    refine stR (v := .slice _ _ _) T_ok rfl rfl rfl rfl rfl rfl R3 (by omega) ?_
    intro w4 q4 R4 _
    refine go T_ok 100 rfl ?_
    have ei : w64 ((i : Int) + 1) = ((i + 1 : Nat) : Int) := w64_id (by omega) (by omega)
    rw [ei]
    refine round ⟨i + 1, rfl, ⟨by omega, (q.step q3 (fun k hk h => absurd (own_ge hown h) (by omega))).step q4 (fun k hk h => absurd h (by omega)), _, A', c', R4, ?_, ?_, ?_, ?_, ?_, own_keep hown' q4 (fun k h e => own_ne_row hown' R3 (by decide) (h.trans (congrArg some e)))⟩, by omega⟩
    · show (if 0 = 0 + 2 then _ else f 0) = _
      rw [if_neg (by omega), f0]
    · show (if 1 = 0 + 2 then _ else f 1) = _
      rw [if_neg (by omega), f1]
    · show (if 2 = 0 + 2 then _ else f 2) = _
      rw [if_pos (by omega)]
    · show (if 1004 = 0 + 2 then _ else f 1004) = _
      rw [if_neg (by omega), f3]
    · intro j hj
      show (if 3 + j = 0 + 2 then _ else f (3 + j)) = _
      rw [if_neg (by omega), f4 j hj]
  · refine go T_ok 100 rfl ?_
    have : i = D + 1 := by omega
    subst this
    obtain ⟨g, m, e, rfl, hge, Rg, hm, hget⟩ := own_row hown (by omega)
    refine ret (ret1 (v := .pointer _) Try.results43 rfl ⟨b, g, rfl, by omega, hge, q, ?_, ⟨f, c, R, f0, f1, f2, ?_, f4, ?_⟩, ⟨m, e, Rg, by omega, ?_⟩⟩)
    · exact fun e => own_ne_row hown R (by decide) (congrArg some e.symm)
    · rw [f3, show (fun j : Nat => !(BS.new).out) = fun _ => true from rfl, cnt_all]
    · intro j _ h
      cases h
    · intro j hj _
      refine ⟨?_, ?_, ?_, ?_, ?_⟩
      · exact (Option.some.inj ((hget (5 * j + 0) (by omega)).symm.trans (betsL_get D _ (by omega) (by omega)))).trans rfl
      · exact (Option.some.inj ((hget (5 * j + 1) (by omega)).symm.trans (betsL_get D _ (by omega) (by omega)))).trans rfl
      · exact (Option.some.inj ((hget (5 * j + 2) (by omega)).symm.trans (betsL_get D _ (by omega) (by omega)))).trans rfl
      · exact (Option.some.inj ((hget (5 * j + 3) (by omega)).symm.trans (betsL_get D _ (by omega) (by omega)))).trans rfl
      · exact (Option.some.inj ((hget (5 * j + 4) (by omega)).symm.trans (betsL_get D _ (by omega) (by omega)))).trans rfl
end Go.Proofs.Ytolhfimknimliaa.Q
