/- The zero value of the bets: its cells. -/
import Derived.Test.YtocolpbakaibnaaC1
namespace Go.Proofs.Ytocolpbakaibnaa
open Go.Ev Go.Proofs Go.Cnt

def allFalse (l : List Value) : Nat → Nat → Bool
  | _, 0 => true
  | o, m + 1 => (match nth? l o with | some v => sameCell v (.bool false) | none => false) && allFalse l (o + 1) m
theorem allFalse_get {l : List Value} : ∀ {m o : Nat}, allFalse l o m = true → ∀ j, j < m → l[o + j]? = some (.bool false) := by
  intro m
  induction m with
  | zero => intro o _ j hj; omega
  | succ m ih =>
    intro o h j hj
    simp only [allFalse, Bool.and_eq_true] at h
    cases j with
    | zero =>
      have h1 := h.1
      split at h1
      · rename_i v hv
        rw [nth?_eq] at hv
        rw [Nat.add_zero, hv, sameCell_eq h1]
      · cases h1
    | succ j =>
      have := ih h.2 j (by omega)
      rw [show o + (j + 1) = o + 1 + j by omega]
      exact this
def zCheck (P : Program) : Bool := match zeroOf P 105 with
  | some z => Nat.beq (lenL z.cells.toList) 2006 && ((match nth? z.cells.toList 2 with | some v => sameCell v (.slice none 0 0) | none => false) && allFalse z.cells.toList 3 1001)
  | none => false
theorem zCheck_ok : zCheck Try.prog = true := by kernel_rfl
theorem z105 : ∃ z, zeroOf Try.prog 105 = some z ∧ z.cells.size = 2006 ∧ z.cells.toList[2]? = some (.slice none 0 0) ∧ ∀ j, j < 1001 → z.cells.toList[3 + j]? = some (.bool false) := by
  have h := zCheck_ok
  unfold zCheck at h
  split at h
  · rename_i z hz
    simp only [Bool.and_eq_true] at h
    obtain ⟨h1, h2, h3⟩ := h
    refine ⟨z, hz, ?_, ?_, allFalse_get h3⟩
    · have := Nat.eq_of_beq_eq_true h1
      rw [lenL_eq] at this
      simpa using this
    · split at h2
      · rename_i v hv
        rw [nth?_eq] at hv
        rw [hv, sameCell_eq h2]
      · cases h2
  · cases h

end Go.Proofs.Ytocolpbakaibnaa
