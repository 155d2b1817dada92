/- From the data of a row to the calculus: slices that came in. No statement about the program is in it. -/
import Derived.Deep.Grids
import Derived.WalkKit
import Derived.ProofKit
import Derived.OpenShut
import Derived.Carry
import Derived.Test.YtocolpbakaibnaaEw
namespace Go.Ev
open Go.ChangeShapes Go.WideShapes Go.ChangeAt Go.RowKit
theorem wf_i64 {a : Int} (w : (Lit.int .i64 a).wf = true) : -9223372036854775808 ≤ a ∧ a ≤ 9223372036854775807 := by
  have hmin : IntKind.i64.min = -9223372036854775808 := by decide
  have hmax : IntKind.i64.max = 9223372036854775807 := by decide
  simp [Lit.wf, hmin, hmax] at w
  omega
section
variable {H : Type} {enc : TypeId × Value → H} {P : Program} {w : World}
theorem sl_bools {t e : TypeId} {fuel n c : Nat} {A : Option Addr} {x : DataW H × List MemPlace} (ht : P.underlying t = some (.slice e)) (he : P.underlying e = some .bool) (hc : P.cellsOf e = 1)
    (h : DataW.trod enc P w 0 (fun _ => true) true fuel t (Value.slice A n c).cells.toList = some x) : ∃ xs : List Bool, xs.length = n ∧ n ≤ c ∧ Sl w w.heap.size 1 A xs.length (xs.map .bool) := by
  rcases Go.Deep.open_bools ht he hc h with ⟨h1, _⟩ | ⟨a, len, cap, B, h1, _, hl, _, _, hB⟩
  · simp [Value.cells] at h1
    obtain ⟨rfl, rfl, rfl⟩ := h1
    exact ⟨[], rfl, Nat.le_refl _, by simp, Nat.le_refl _, fun h => absurd h (by simp)⟩
  · simp [Value.cells] at h1
    obtain ⟨rfl, rfl, rfl⟩ := h1
    refine ⟨(List.range n).map B, by simp, hl, by simp, Nat.le_refl _, fun hn => ?_⟩
    have hn : 0 < n := by simpa using hn
    obtain ⟨b, o, s⟩ := a
    have h0 := hB 0 (by omega)
    rw [show (Addr.mk b o s).add 0 = ⟨b, o, s⟩ from rfl] at h0
    have hs : s = none := by
      cases s with
      | none => rfl
      | some y =>
        exfalso
        simp only [World.cell?] at h0
        split at h0 <;> simp at h0
    subst hs
    refine ⟨b, o, rfl, ?_, fun j v hv => ?_⟩
    · rcases Nat.lt_or_ge b w.heap.size with h | h
      · exact h
      · simp [World.cell?, Array.getElem?_eq_none h] at h0
    · have hj : j < n := by
        have := (List.getElem?_eq_some_iff.1 hv).1
        simpa using this
      have := hB j (by omega)
      rw [Addr.add_mid] at this
      rw [this]
      simpa [hj] using hv
end
end Go.Ev
