/- A step calculus over the kit's 'wp': a look into a map, told by what is found. No statement about the program is in it. -/
import Derived.Test.YtolhfimknimliaaEK
namespace Go.Ev
open Go.RowKit
section
variable {P : Program} {T : Tab} {n : Nat} {R : Env → World → Prop} {fr : Fra} {all : Array Oper} {l : List Oper} {k : List It} {ρ : Env} {dec : List Nat} {w w' : World} {o : Oper} {x y : Operand}
variable {kt e t : TypeId} {b m : Nat} {α β : Type} {ek : α → Value} {eb : β → Value} {g : α → Option β} {M : Nat → Prop}
theorem r_lookN (K : Go.Maps.Keyed P kt) (ho : o.op = .lookup t x y true) (ht : P.underlying t = some (.map kt e)) (hx : ev n ρ x = .map (some b)) {a : α} (hy : ev n ρ y = ek a) (hk : ∃ kl, keyOf P kt (ek a) = some kl) (hinj : ∀ a', ek a' = ek a → a' = a)
    (hM : Mt P kt w b m ek eb g) {z : Value} (hz : zeroOf P e = some z) (hg : g a = none) : (execOp (ev n ρ) o).run P w = .ok (.value (.tuple #[z, .bool false])) w := by
  obtain ⟨kl, hk⟩ := hk
  rw [r_look true K ho ht hx hy hk hinj hM hz, hg]
  rfl
theorem r_lookS (K : Go.Maps.Keyed P kt) (ho : o.op = .lookup t x y true) (ht : P.underlying t = some (.map kt e)) (hx : ev n ρ x = .map (some b)) {a : α} (hy : ev n ρ y = ek a) (hk : ∃ kl, keyOf P kt (ek a) = some kl) (hinj : ∀ a', ek a' = ek a → a' = a)
    (hM : Mt P kt w b m ek eb g) {z : Value} (hz : zeroOf P e = some z) {v : β} (hg : g a = some v) : (execOp (ev n ρ) o).run P w = .ok (.value (.tuple #[eb v, .bool true])) w := by
  obtain ⟨kl, hk⟩ := hk
  rw [r_look true K ho ht hx hy hk hinj hM hz, hg]
  rfl
theorem lookN (K : Go.Maps.Keyed P kt) (hw : wantB n ρ all o = true) (ho : o.op = .lookup t x y true) (ht : P.underlying t = some (.map kt e)) (hx : ev n ρ x = .map (some b)) {a : α} (hy : ev n ρ y = ek a) (hk : ∃ kl, keyOf P kt (ek a) = some kl) (hinj : ∀ a', ek a' = ek a → a' = a)
    (hM : Mt P kt w b m ek eb g) {z : Value} (hz : zeroOf P e = some z) (hg : g a = none) (h : At P n R fr all l k (updo ρ o.dst (.tuple #[z, .bool false])) dec w) : At P n R fr all (o :: l) k ρ dec w :=
  op_val hw (r_lookN K ho ht hx hy hk hinj hM hz hg) h
theorem lookS (K : Go.Maps.Keyed P kt) (hw : wantB n ρ all o = true) (ho : o.op = .lookup t x y true) (ht : P.underlying t = some (.map kt e)) (hx : ev n ρ x = .map (some b)) {a : α} (hy : ev n ρ y = ek a) (hk : ∃ kl, keyOf P kt (ek a) = some kl) (hinj : ∀ a', ek a' = ek a → a' = a)
    (hM : Mt P kt w b m ek eb g) {z : Value} (hz : zeroOf P e = some z) {v : β} (hg : g a = some v) (h : At P n R fr all l k (updo ρ o.dst (.tuple #[eb v, .bool true])) dec w) : At P n R fr all (o :: l) k ρ dec w :=
  op_val hw (r_lookS K ho ht hx hy hk hinj hM hz hg) h
end
end Go.Ev
