/- A step calculus over the kit's 'wp': a slice made, as a block known whole. No statement about the program is in it. -/
import Derived.Test.YteenhfnamjbaiaaEN
namespace Go.Ev
open Go.RowKit
theorem made_rep {es : Nat} (he : 0 < es) (v : Value) (m : Nat) : (madeCells (List.replicate es v).toArray m).toList = List.replicate m v := by
  refine List.ext_getElem (by simp [size_madeCells]) fun i h1 h2 => ?_
  simp only [madeCells, Array.toList_map, List.getElem_map, Array.getElem_toList, Array.getElem_range, List.getElem_replicate, List.size_toArray, List.length_replicate]
  have h3 : i % es < (List.replicate es v).toArray.size := by simpa using Nat.mod_lt i he
  rw [getElem!_pos (List.replicate es v).toArray (i % es) h3]
  simp
theorem own_bk {w : World} {B e g m : Nat} {sz : Nat} {xs : List Value} (h : w.ownsRow B e sz (.slice (some ⟨g, 0, none⟩) m m) m xs) : Bk w g e xs := by
  obtain ⟨h1, h2⟩ := h
  rcases h2 with ⟨hv, _⟩ | ⟨g', cap, cur, hv, hb, hg, hnc, hm, hcs, ht⟩
  · cases hv
  · injection hv with hA _ hc
    injection hA with hA
    injection hA with hA _ _
    subst hA
    subst hc
    have e1 : cur.toList.take (m * sz) = cur.toList := List.take_of_length_le (by simp; omega)
    rw [e1] at ht
    rw [← ht]
    show w.heap[g]? = some (.cells cur.toList.toArray e (0, 0))
    rw [Array.toArray_toList]
    exact hg
section
variable {P : Program} {T : Tab} {n : Nat} {R : Env → World → Prop} {fr : Fra} {all : Array Oper} {l : List Oper} {k : List It} {ρ : Env} {dec : List Nat} {w w' : World} {o : Oper} {x y : Operand}
theorem mkB (hT : tabOk P T = true) (hw : wantB n ρ all o = true) {t : TypeId} {x y : Operand} (ho : o.op = .makeSlice t x y) {e es eb : Nat} (ht : Tab.get T t = some (.slc e es eb)) {i : Int} (hx : ev n ρ x = .int .i64 i) (hy : ev n ρ y = .int .i64 i) (m : Nat) (hi : i = (m : Int))
    {z v : Value} (hz : zeroOf P e = some z) (hv : z.cells = (List.replicate es v).toArray) (he : 0 < es) (h63 : m ≤ maxLen) (hby : eb * m ≤ 281474976710656)
    (h : ∀ g w', w.heap.size = g → w'.heap.size = g + 1 → Chg No w w' → Bk w' g e (List.replicate (m * es) v) → At P n R fr all l k (updo ρ o.dst (.slice (some ⟨g, 0, none⟩) m m)) dec w') : At P n R fr all (o :: l) k ρ dec w := by
  refine mk hT hw ho ht hx hy m hi hz h63 hby fun g w' h1 h2 h3 h4 => h g w' h1 h2 h3 ?_
  rw [hv, made_rep he] at h4
  exact own_bk h4
end
end Go.Ev
