/- A step calculus over the kit's 'wp': parts of slices. No statement about the program is in it. -/
import Derived.Test.YtolhfimknimliaaEy
namespace Go.Ev
open Go.RowKit
section
variable {P : Program} {T : Tab} {n : Nat} {R : Env → World → Prop} {fr : Fra} {all : Array Oper} {l : List Oper} {k : List It} {ρ : Env} {dec : List Nat} {w : World} {o : Oper}
/-- a guard that is not yet told apart -/
theorem guardA {j : Nat} {want : Bool} {t : Nat} {b : Bool} (hg : o.guard = some (j, want)) (ht : dstL all.toList j = some t) (_hd : inL t dec = false) (hb : ev n ρ (.tmp t) = .bool b)
    (hT : b = true → At P n R fr all (o :: l) k (upd ρ t (.bool true)) (t :: dec) w) (hF : b = false → At P n R fr all (o :: l) k (upd ρ t (.bool false)) (t :: dec) w) :
    At P n R fr all (o :: l) k ρ dec w := guard hg ht hb hT hF
theorem gT {j : Nat} {want : Bool} {t : Nat} (hg : o.guard = some (j, want)) (ht : dstL all.toList j = some t) (hd : inL t dec = false) (hb : ev n ρ (.tmp t) = .bool true) (h : At P n R fr all (o :: l) k (upd ρ t (.bool true)) (t :: dec) w) : At P n R fr all (o :: l) k ρ dec w := guardA hg ht hd hb (fun _ => h) (fun e => by cases e)
theorem gF {j : Nat} {want : Bool} {t : Nat} (hg : o.guard = some (j, want)) (ht : dstL all.toList j = some t) (hd : inL t dec = false) (hb : ev n ρ (.tmp t) = .bool false) (h : At P n R fr all (o :: l) k (upd ρ t (.bool false)) (t :: dec) w) : At P n R fr all (o :: l) k ρ dec w := guardA hg ht hd hb (fun e => by cases e) (fun _ => h)
/-- equality of structs of ints -/
theorem eqS (hw : wantB n ρ all o = true) {x y : Operand} {t ty : TypeId} {l' m : List Int} (ho : o.op = .binOp .eql t x y ty) (ht : eqStr P t l'.length = true) (hlm : m.length = l'.length) (hx : ev n ρ x = .agg (l'.map (Value.int .i64)).toArray) (hy : ev n ρ y = .agg (m.map (Value.int .i64)).toArray)
    (h : At P n R fr all l k (updo ρ o.dst (.bool (l' == m))) dec w) : At P n R fr all (o :: l) k ρ dec w := op_val hw (r_eqS ho ht hlm hx hy) h
theorem neqS (hw : wantB n ρ all o = true) {x y : Operand} {t ty : TypeId} {l' m : List Int} (ho : o.op = .binOp .neq t x y ty) (ht : eqStr P t l'.length = true) (hlm : m.length = l'.length) (hx : ev n ρ x = .agg (l'.map (Value.int .i64)).toArray) (hy : ev n ρ y = .agg (m.map (Value.int .i64)).toArray)
    (h : At P n R fr all l k (updo ρ o.dst (.bool (!(l' == m)))) dec w) : At P n R fr all (o :: l) k ρ dec w := op_val hw (r_neqS ho ht hlm hx hy) h
/-- two bools -/
theorem neqB (hw : wantB n ρ all o = true) {x y : Operand} {t ty : TypeId} {a b : Bool} (ho : o.op = .binOp .neq t x y ty) (ht : P.underlying t = some .bool) (hx : ev n ρ x = .bool a) (hy : ev n ρ y = .bool b)
    (h : At P n R fr all l k (updo ρ o.dst (.bool (a != b))) dec w) : At P n R fr all (o :: l) k ρ dec w := by
  refine op_val hw ?_ h
  simp [execOp, ho, hx, hy, go_sem, ht]
  cases a <;> cases b <;> rfl
/-- x[:j] -/
theorem slcHi (hT : tabOk P T = true) (hw : wantB n ρ all o = true) {t : TypeId} {x y : Operand} (ho : o.op = .slice t x none (some y) none) {e es eb : Nat} (ht : Tab.get T t = some (.slc e es eb)) {A : Option Addr} {m c : Nat}
    (hx : ev n ρ x = .slice A m c) {kd : IntKind} {i : Int} (hy : ev n ρ y = .int kd i) (j : Nat) (hi : i = (j : Int)) (hj : j ≤ c)
    (h : At P n R fr all l k (updo ρ o.dst (.slice A j c)) dec w) : At P n R fr all (o :: l) k ρ dec w := by
  obtain ⟨hu, inf, z, hinf, hs, _⟩ := tab_slc hT ht
  subst hi
  have eA : (if c = 0 then A else A.map fun x => x.add (0 * inf.size)) = A := by
    split
    · rfl
    · cases A <;> simp [Addr.add]
  refine op_val hw ?_ h
  simp only [execOp, ho, hx, hy, Option.map_some, Option.map_none, Instr.sliceAt, Sem.run_bind, run_underlying hu, Result.andThen_ok, Instr.slice, Instr.sliceBounds, Sem.run_pure,
    run_sliceBound (P := P) w kd (j : Int) c _ (by omega) (by omega), run_sizeOf hinf]
  simp only [Int.toNat_natCast, Nat.sub_zero, eA]
/-- x[j:] -/
theorem slcLo (hT : tabOk P T = true) (hw : wantB n ρ all o = true) {t : TypeId} {x y : Operand} (ho : o.op = .slice t x (some y) none none) {e es eb : Nat} (ht : Tab.get T t = some (.slc e es eb)) {A : Option Addr} {m c : Nat}
    (hx : ev n ρ x = .slice A m c) {kd : IntKind} {i : Int} (hy : ev n ρ y = .int kd i) (j : Nat) (hi : i = (j : Int)) (hj : j ≤ m)
    (h : ∀ A', A' = (if c = j then A else A.map fun x => x.add (j * es)) → At P n R fr all l k (updo ρ o.dst (.slice A' (m - j) (c - j))) dec w) : At P n R fr all (o :: l) k ρ dec w := by
  obtain ⟨hu, inf, z, hinf, hs, _⟩ := tab_slc hT ht
  subst hi
  subst hs
  refine op_val hw ?_ (h _ rfl)
  simp only [execOp, ho, hx, hy, Option.map_some, Option.map_none, Instr.sliceAt, Sem.run_bind, run_underlying hu, Result.andThen_ok, Instr.slice, Instr.sliceBounds, Sem.run_pure,
    run_sliceBound (P := P) w kd (j : Int) m _ (by omega) (by omega), run_sizeOf hinf]
  simp only [Int.toNat_natCast]
end
theorem Sl.take {w : World} {B sz n : Nat} {A : Option Addr} {xs : List Value} (h : Sl w B sz A n xs) (j : Nat) (hj : j ≤ n) : Sl w B sz A j (xs.take (j * sz)) := by
  obtain ⟨h1, h2, h3⟩ := h
  refine ⟨?_, h2, fun hn => ?_⟩
  · rw [List.length_take, h1]
    have := Nat.mul_le_mul_right sz hj
    omega
  · obtain ⟨b, o, hA, hb, hc⟩ := h3 (by omega)
    refine ⟨b, o, hA, hb, fun i v hv => ?_⟩
    rw [List.getElem?_take] at hv
    split at hv
    · exact hc i v hv
    · cases hv
theorem Sl.drop {w : World} {B sz n c : Nat} {A A' : Option Addr} {xs : List Value} (h : Sl w B sz A n xs) (j : Nat) (hj : j ≤ n) (hc : n ≤ c) (hA : A' = if c = j then A else A.map fun x => x.add (j * sz)) : Sl w B sz A' (n - j) (xs.drop (j * sz)) := by
  obtain ⟨h1, h2, h3⟩ := h
  refine ⟨by rw [List.length_drop, h1, Nat.sub_mul], h2, fun hn => ?_⟩
  obtain ⟨b, o, rfl, hb, hcell⟩ := h3 (by omega)
  rw [if_neg (by omega)] at hA
  refine ⟨b, o + j * sz, ?_, hb, fun i v hv => ?_⟩
  · rw [hA, Option.map_some, Addr.add_mid]
  · rw [List.getElem?_drop] at hv
    have := hcell (j * sz + i) v hv
    rwa [Nat.add_assoc]
end Go.Ev
