/- A step calculus over the kit's 'wp': a slice made and a struct stored, in a drawn region. No statement about the program is in it. -/
import Derived.Test.YteenhfnamjbaiaaER
namespace Go.Ev
open Go.RowKit
section
variable {P : Program} {T : Tab} {n : Nat} {R : Env → World → Prop} {fr : Fra} {S : World → Prop} {all : Array Oper} {l : List (Oper × Bool)} {k : List It} {ρ : Env} {dec : List Nat} {w : World} {o : Oper}
theorem mkBE (hT : tabOk P T = true) (hw : wantB n ρ all o = true) {t : TypeId} {x y : Operand} (ho : o.op = .makeSlice t x y) {e es eb : Nat} (ht : Tab.get T t = some (.slc e es eb)) {i : Int} (hx : ev n ρ x = .int .i64 i) (hy : ev n ρ y = .int .i64 i) (m : Nat) (hi : i = (m : Int))
    {z v : Value} (hz : zeroOf P e = some z) (hv : z.cells = (List.replicate es v).toArray) (he : 0 < es) (h63 : m ≤ maxLen) (hby : eb * m ≤ 281474976710656)
    (h : ∀ g w', w.heap.size = g → w'.heap.size = g + 1 → Chg No w w' → Bk w' g e (List.replicate (m * es) v) → S w' ∧ AtH P n R fr S all l k (updo ρ o.dst (.slice (some ⟨g, 0, none⟩) m m)) dec w') : AtH P n R fr S all ((o, false) :: l) k ρ dec w := by
  obtain ⟨hu, inf, z', hinf, hs, hb, hz', hzs, hes⟩ := tab_slc hT ht
  have : z' = z := by
    unfold zeroOf at hz
    rw [hinf, Option.bind_some, hz'] at hz
    exact Option.some.inj hz
  subst this
  subst hi
  subst hb
  have hm63 : m ≤ 9223372036854775807 := by simp only [maxLen] at h63; omega
  have hb' : (inf.bytes : Int) * (m : Int) ≤ 281474976710656 := by
    have h : ((inf.bytes * m : Nat) : Int) ≤ 281474976710656 := by omega
    rwa [Int.natCast_mul] at h
  have hr := run_make (P := P) w t e inf z' hu hinf hz' .i64 .i64 m m (by omega) (by omega) hb' (by omega)
  simp only [Int.toNat_natCast, hs] at hr
  have hB : Bk (w.alloc (.cells (madeCells z'.cells (m * es)) e)) w.heap.size e (List.replicate (m * es) v) := by
    have := Bk.new w e (List.replicate (m * es) v)
    rw [← made_rep he, ← hv, Array.toArray_toList] at this
    rw [← made_rep he, ← hv]
    exact this
  obtain ⟨h1, h2⟩ := h _ (w.alloc (.cells (madeCells z'.cells (m * es)) e)) rfl (by simp) (Chg.alloc w _) hB
  exact valE hw (by simp [execOp, ho, hx, hy, hr]) h1 h2
end
end Go.Ev
