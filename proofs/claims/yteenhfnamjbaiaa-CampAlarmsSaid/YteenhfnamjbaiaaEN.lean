/- A step calculus over the kit's 'wp': how many keys a map holds. No statement about the program is in it. -/
import Derived.Test.YteenhfnamjbaiaaE9
namespace Go.Ev
open Go.RowKit
open Go.ChangeMaps (setBlock)
open Go.ChangeShapes Go.WideShapes
/-- how many keys a map holds -/
def Sz (w : World) (b n : Nat) : Prop := ∃ (es : Array MapEntry) (clock : Nat), w.heap[b]? = some (.map es clock) ∧ es.size = n
section
variable {P : Program} {T : Tab} {n : Nat} {R : Env → World → Prop} {fr : Fra} {all : Array Oper} {l : List Oper} {k : List It} {ρ : Env} {dec : List Nat} {w w' : World} {o : Oper} {x y : Operand}
variable {kt e t : TypeId} {b m s : Nat} {α β : Type} {ek : α → Value} {eb : β → Value} {g : α → Option β} {M : Nat → Prop}
theorem Sz.keep (h : Sz w b s) (c : Chg M w w') (hn : ¬ M b) : Sz w' b s := by
  obtain ⟨es, clock, hb, hr⟩ := h
  exact ⟨es, clock, (c.block b (lt_of_block hb) hn).trans hb, hr⟩
theorem Sz.no (h : Sz w b s) (c : Chg No w w') : Sz w' b s := h.keep c fun h => h
theorem mkMN (hw : wantB n ρ all o = true) (ho : o.op = .makeMap t none)
    (h : ∀ b w', w.heap.size = b → w'.heap.size = b + 1 → Chg No w w' → (∀ {α β : Type} (ek : α → Value) (eb : β → Value), Mt P kt w' b 0 ek eb (fun _ => none)) → Sz w' b 0 → At P n R fr all l k (updo ρ o.dst (.map (some b))) dec w') : At P n R fr all (o :: l) k ρ dec w := by
  refine op_val (w' := w.alloc (.map #[] 0)) hw ?_ (h _ _ rfl (by simp) (Chg.alloc w _) (fun ek eb => ⟨#[], 0, heap_alloc_new w _, by simp, by simp, by simp, by simp⟩) ⟨#[], 0, heap_alloc_new w _, rfl⟩)
  have := run_makeMap (P := P) t w
  simp [execOp, ho, this]
theorem r_lenM (ho : o.op = .call { callee := .builtin .len, args := #[x], argTypes := #[t] }) (ht : P.underlying t = some (.map kt e)) (hx : ev n ρ x = .map (some b)) (hs : Sz w b s) : (execOp (ev n ρ) o).run P w = .ok (.value (.int .i64 (s : Int))) w := by
  obtain ⟨es, clock, hb, rfl⟩ := hs
  have h1 : P.underlying t = some (.map (P.mapKeyOf t) (P.mapElemOf t)) := by simp [Program.mapKeyOf, Program.mapElemOf, ht]
  simp [execOp, ho, resolve, invoke, builtin, hx, run_len_map w t _ b es clock h1 hb, goInt]
theorem lenM (hw : wantB n ρ all o = true) (ho : o.op = .call { callee := .builtin .len, args := #[x], argTypes := #[t] }) (ht : P.underlying t = some (.map kt e)) (hx : ev n ρ x = .map (some b)) (hs : Sz w b s)
    (h : At P n R fr all l k (updo ρ o.dst (.int .i64 (s : Int))) dec w) : At P n R fr all (o :: l) k ρ dec w := op_val hw (r_lenM ho ht hx hs) h
/-- a store into a map of what it does not hold -/
theorem updN [DecidableEq α] (K : Go.Maps.Keyed P kt) (hw : wantB n ρ all o = true) {x y z : Operand} (ho : o.op = .mapUpdate t x y z) (ht : P.underlying t = some (.map kt e)) (hx : ev n ρ x = .map (some b)) {a : α} (hy : ev n ρ y = ek a) (hk : ∃ kl, keyOf P kt (ek a) = some kl) (hinj : ∀ a', ek a' = ek a → a' = a)
    {v : β} (hv : ev n ρ z = eb v) (hM : Mt P kt w b m ek eb g) (hs : Sz w b s) (hn : g a = none)
    (h : ∀ w', Chg (fun k => k = b) w w' → Mt P kt w' b (m + 1) ek eb (fun c => if c = a then some v else g c) → Sz w' b (s + 1) → w'.heap.size = w.heap.size → At P n R fr all l k (updo ρ o.dst undef) dec w') : At P n R fr all (o :: l) k ρ dec w := by
  obtain ⟨kl, hk⟩ := hk
  obtain ⟨w1, x1, x2, x3, x4⟩ := r_upd K ho ht hx hy hk hinj hv hM
  refine op_skip hw x1 (h w1 x2 x3 ?_ x4)
  obtain ⟨es, clock, hb, hs2, hd, he, hg⟩ := hM
  obtain ⟨es', clock', hb', rfl⟩ := hs
  rw [hb] at hb'
  injection hb' with hb'
  injection hb' with e1 e2
  subst e1
  subst e2
  rcases K.find w hk es.toList (fun e h => (he e h).1) with ⟨h1, h2⟩ | ⟨j, e0, h1, h2, h3⟩
  · have e : (execOp (ev n ρ) o).run P w = .ok .skip (setBlock w b (.map (es.push ⟨ek a, eb v, clock⟩) (clock + 1))) := by
      simp [execOp, ho, hx, hy, hv, Instr.mapUpdate, run_underlying ht, MapKept.run_getObj_map hb, K.check w false hk, h1, MapKept.run_setObj_map _ hb, Result.andThen, setBlock]
    rw [e] at x1
    injection x1 with _ x1
    subst x1
    exact ⟨_, _, ChangeMaps.heap_setBlock_same hb _, by simp⟩
  · obtain ⟨_, a', v', y1, _, y3⟩ := he e0 (List.mem_of_getElem? h2)
    have := hinj a' (y1.symm.trans h3)
    subst this
    rw [hn] at y3
    cases y3
end
end Go.Ev
