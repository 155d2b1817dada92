/- What the form's own reach says of a slice that came in. No statement about the program is in it. -/
import Derived.SizedLaws
import Derived.Test.YtkkjfjeniaiaiaaE3
namespace Go.Ev
section
variable {H : Type} {enc : TypeId × Value → H} {P : Program} {w : World} {t e : TypeId}
theorem sli_bytes {A : Option Addr} {n c : Nat} {d : DataW H} {p : List MemPlace} (ht : P.underlying t = some (.slice e)) (h : DataW.Trod enc P w 0 (fun _ => true) true t (.slice A n c) d p) {ts : List TypeId} {ds : List (DataW H)}
    (hw : (DataW.weightsEach P ts ds).all (· ≤ reachBytes) = true) {j : Nat} (hj : ts[j]? = some t) (hd : ds[j]? = some d) : n * P.bytesOf e ≤ reachBytes := by
  obtain ⟨fuel, hf⟩ := h
  rcases DataW.trod_slice ht hf with ⟨h0, _⟩ | ⟨a, len, cap, elems, rest, m, _, hcs, hx, _, _, _, hlen, _⟩
  · simp [Value.cells] at h0
    rw [h0.2.1]
    simp
  · simp [Value.cells] at hcs
    simp only [Prod.mk.injEq] at hx
    rw [hx.1] at hd
    have h1 := sized_slice hw hj hd ht
    simp only [List.length_map] at h1
    have : n ≤ elems.length + rest.length := by omega
    exact Nat.le_trans (Nat.mul_le_mul_right _ this) h1
end
end Go.Ev
