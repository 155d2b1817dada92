/- The plain law of tours: the orders of the document, level by level, are those of the search. -/
import Derived.Test.YteenhfnamjbaiaaT7
namespace Go.Proofs.Yteenhfnamjbaiaa
/-- an order, longer by one of the first numbers -/
def extO (k : List Nat) (x : Nat) : List (List Nat) := (List.range x).flatMap fun y => if y ∈ k then [] else [k ++ [y]]
def ordL (n : Nat) : Nat → List (List Nat)
 | 0 => [[]]
 | i + 1 => (ordL n i).flatMap fun k => extO k n
theorem extO_succ (k : List Nat) (x : Nat) : extO k (x + 1) = extO k x ++ (if x ∈ k then [] else [k ++ [x]]) := by simp [extO, List.range_succ, List.flatMap_append]
theorem ordL_len (n : Nat) : ∀ (i : Nat) (k : List Nat), k ∈ ordL n i → k.length = i ∧ ∀ y ∈ k, y < n := by
 intro i
 induction i with
 | zero => intro k h; simp [ordL] at h; subst h; simp
 | succ i ih =>
  intro k h
  simp only [ordL, List.mem_flatMap] at h
  obtain ⟨l, hl, h⟩ := h
  simp only [extO, List.mem_flatMap, List.mem_range] at h
  obtain ⟨y, hy, h⟩ := h
  obtain ⟨h1, h2⟩ := ih l hl
  split at h
  ·simp at h
  ·simp only [List.mem_singleton] at h
   subst h
   refine ⟨by simp [h1], fun z hz => ?_⟩
   rcases List.mem_append.1 hz with hz | hz
   ·exact h2 z hz
   ·simp at hz; subst hz; exact hy
def setN (k : List Nat) : Nat := k.foldl (fun d y => d ||| 2 ^ y) 0
theorem setN_snoc (k : List Nat) (y : Nat) : setN (k ++ [y]) = setN k ||| 2 ^ y := by simp [setN, List.foldl_append]
theorem setN_bit (y : Nat) : ∀ k : List Nat, (setN k).testBit y = decide (y ∈ k) := by
 have key : ∀ (k : List Nat) (d : Nat), (k.foldl (fun d y => d ||| 2 ^ y) d).testBit y = (d.testBit y || decide (y ∈ k)) := by
  intro k
  induction k with
  | nil => intro d; simp
  | cons a k ih =>
   intro d
   rw [List.foldl_cons, ih, Nat.testBit_or, Nat.testBit_two_pow]
   by_cases h : a = y
   ·subst h; simp
   ·have : y ≠ a := fun e => h e.symm
    simp [h, this]
 intro k
 unfold setN
 rw [key]
 simp
theorem ord_tails_eq (n : Nat) : ∀ (i f : Nat), (ordL n i).flatMap (fun k => (tails n f (setN k)).map (k ++ ·)) = tails n (i + f) 0 := by
 intro i
 induction i with
 | zero => intro f; simp [ordL, setN]
 | succ i ih =>
  intro f
  rw [show i + 1 + f = i + (f + 1) by omega, ← ih (f + 1)]
  simp only [ordL]
  rw [List.flatMap_assoc]
  congr 1
  funext k
  simp only [extO, tails, List.flatMap_assoc, List.map_flatMap]
  congr 1
  funext y
  rw [setN_bit]
  by_cases h : y ∈ k
  ·simp [h]
  ·simp [h, setN_snoc]
theorem ordL_tails (n : Nat) : ordL n n = tails n n 0 := by
 have := ord_tails_eq n n 0
 rw [Nat.add_zero] at this
 rw [← this]
 simp [tails]
end Go.Proofs.Yteenhfnamjbaiaa
