/- Small facts on errors, for the walks of the laws. -/
import Derived.Test.YtocolpbakaibnaaK1
import Derived.Test.YtocolpbakaibnaaP2
namespace Go.Proofs.Ytocolpbakaibnaa
open Go.Ev Go.Proofs Go.Cnt
theorem listed_wrong (n : Nat) (D : Int) (b : Bool) : listedE n D b = if wrongE n D ≠ 0 then wrongE n D else if b then 0 else 2 := by
  unfold listedE wrongE
  split
  · simp
  · split
    · simp
    · simp
theorem wrong_zero {n : Nat} {D : Int} (h : wrongE n D = 0) : ∃ d : Nat, D = d ∧ 2 ≤ d ∧ d ≤ 1000 ∧ n ≤ 4000 := by
  unfold wrongE at h
  split at h
  · cases h
  · rename_i h1
    split at h
    · cases h
    · have h3 : inB D 2 1000 = true := by simpa using h1
      rw [inB_iff] at h3
      exact ⟨D.toNat, by omega, by omega, by omega, by omega⟩
theorem wrong_small {n : Nat} {d : Nat} (h1 : 2 ≤ d) (h2 : d ≤ 1000) (h3 : n ≤ 4000) : wrongE n d = 0 := by
  unfold wrongE
  rw [if_neg (by rw [(inB_iff (d : Int) 2 1000).2 (by omega)]; simp), if_neg (by omega)]
theorem hasL_iff {p : Nat → Bool} {n : Nat} {k : Int} : hasL (spansTo p n) k = true ↔ ∃ j : Nat, k = j ∧ j < n ∧ p j = true := by
  unfold hasL
  rw [List.any_eq_true]
  constructor
  · rintro ⟨s, hs, h⟩
    simp only [Bool.and_eq_true, decide_eq_true_eq] at h
    obtain ⟨j, rfl⟩ : ∃ j : Nat, k = j := ⟨k.toNat, by omega⟩
    exact ⟨j, rfl, spansTo_iff.1 ⟨s, hs, by omega, by omega⟩⟩
  · rintro ⟨j, rfl, h1, h2⟩
    obtain ⟨s, hs, h3, h4⟩ := spansTo_has h1 h2
    refine ⟨s, hs, ?_⟩
    simp only [Bool.and_eq_true, decide_eq_true_eq]
    omega
/-- the capitals after each number of slots -/
def capC (D k : Int) (xs : List Bool) : List Int := (List.range (xs.length + 1)).map fun i => (cst D k (xs.take i)).c
theorem capC_len (D k : Int) (xs : List Bool) : (capC D k xs).length = xs.length + 1 := by simp [capC]
theorem capV_capC (D k : Int) (xs : List Bool) : capV D k xs (xs.length + 1) = (capC D k xs).map (.int .i64) := by simp [capV, capC]
end Go.Proofs.Ytocolpbakaibnaa
