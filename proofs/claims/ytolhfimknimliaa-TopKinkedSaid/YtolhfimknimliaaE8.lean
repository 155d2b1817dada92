/- A step calculus over the kit's 'wp': a box in a drawn region. No statement about the program is in it. -/
import Derived.Test.YtolhfimknimliaaEM
namespace Go.Ev
open Go.RowKit
section
variable {P : Program} {T : Tab} {n : Nat} {R : Env → World → Prop} {fr : Fra} {S : World → Prop} {all : Array Oper} {l : List (Oper × Bool)} {k : List It} {ρ : Env} {dec : List Nat} {w : World} {o : Oper}
theorem r_bx {t : TypeId} {x : Operand} (ho : o.op = .box t x) {v : Value} (hx : ev n ρ x = v) {cs : List Value} (hv : v.cells = cs.toArray) :
    (execOp (ev n ρ) o).run P w = .ok (.value (.pointer (some ⟨w.heap.size, 0, none⟩))) (w.alloc (.cells cs.toArray t)) := by
  simp [execOp, ho, hx, Instr.box, newVar, newRow, hv]
theorem bxE (hw : wantB n ρ all o = true) {t : TypeId} {x : Operand} (ho : o.op = .box t x) {v : Value} (hx : ev n ρ x = v) {cs : List Value} (hv : v.cells = cs.toArray)
    (h : ∀ g w', w.heap.size = g → w'.heap.size = g + 1 → Chg No w w' → Bk w' g t cs → S w' ∧ AtH P n R fr S all l k (updo ρ o.dst (.pointer (some ⟨g, 0, none⟩))) dec w') : AtH P n R fr S all ((o, false) :: l) k ρ dec w := by
  obtain ⟨h1, h2⟩ := h _ _ rfl (by simp) (Chg.alloc w _) (Bk.new w t cs)
  exact valE hw (r_bx ho hx hv) h1 h2
end
end Go.Ev
