/- A step calculus over the kit's 'wp': frames as functions of the slot, code walked by computation; no statement about the program is in it. -/
import Derived.OrdersHeld
import Derived.Tactics
import Derived.Below
import Derived.OneCell
import Derived.Maps.AppendAt
import Derived.Deep.OwnRows
import Derived.WalkKit
import Derived.KernelRfl
import Derived.ControlIn
import Derived.CallsIn
import Derived.TacticsIn
import Derived.OrdersIn
import Derived.RangeFuncLeaves
import Derived.RangeFuncSeq
import Derived.Test.YtolhfimknimliaaEo
namespace Go.Ev
open Go.RowKit

/-! ### Frames -/
abbrev Env := Nat → Value
def upd (ρ : Env) (d : Nat) (v : Value) : Env := fun i => bif Nat.beq i d then v else ρ i
def updo (ρ : Env) (d : Option Nat) (v : Value) : Env := match d with | some d => upd ρ d v | none => ρ
def F (ds : List Deferred) (n : Nat) (ρ : Env) : Act := ⟨((List.range n).map ρ).toArray, ds⟩
theorem upd_same (ρ : Env) (d : Nat) (v : Value) : upd ρ d v d = v := by simp [upd]
theorem upd_ne (ρ : Env) {d i : Nat} (v : Value) (h : i ≠ d) : upd ρ d v i = ρ i := by
  have : Nat.beq i d = false := by
    rw [Bool.eq_false_iff]
    exact fun e => h (Nat.eq_of_beq_eq_true e)
  simp [upd, this]
theorem upd_self (ρ : Env) (d : Nat) : upd ρ d (ρ d) = ρ := by
  funext i
  by_cases h : i = d
  · subst h; exact upd_same _ _ _
  · exact upd_ne _ _ h
theorem F_put {ds : List Deferred} (n : Nat) (ρ : Env) (d : Option Nat) (v : Value) : (F ds n ρ).put d v = F ds n (updo ρ d v) := by
  cases d with
  | none => rfl
  | some d =>
    simp only [Act.put, F, updo, Act.mk.injEq, and_true]
    apply Array.ext'
    rw [Array.toList_setIfInBounds]
    apply List.ext_getElem?
    intro i
    rw [List.getElem?_set]
    by_cases h : d = i
    · subst h
      simp only [if_true, List.length_map, List.length_range, List.getElem?_map]
      by_cases hd : d < n
      · simp [hd, upd_same]
      · simp [hd]
    · rw [if_neg h]
      simp only [List.getElem?_map]
      by_cases hi : i < n
      · simp [hi, upd_ne ρ v (Ne.symm h)]
      · simp [hi]
def ev (n : Nat) (ρ : Env) : Operand → Value
  | .tmp t => bif Nat.blt t n then ρ t else undef
  | .const v => v
  | .global g => .pointer (some ⟨g, 0, none⟩)
  | .func f => .func (.func f) #[] #[]
theorem F_get {ds : List Deferred} (n : Nat) (ρ : Env) (t : Nat) : (F ds n ρ).tmps[t]? = if t < n then some (ρ t) else none := by
  simp only [F, List.getElem?_toArray, List.getElem?_map]
  by_cases h : t < n
  · simp [h]
  · simp [h]
theorem F_getD {ds : List Deferred} (n : Nat) (ρ : Env) (t : Nat) : (F ds n ρ).tmps.getD t undef = if t < n then ρ t else undef := by
  rw [Array.getD_eq_getD_getElem?, F_get]
  split <;> rfl
theorem F_eval {ds : List Deferred} (n : Nat) (ρ : Env) : (F ds n ρ).eval = ev n ρ := by
  funext x
  cases x with
  | tmp t =>
    simp only [Act.eval, ev, F_getD]
    by_cases h : t < n
    · have : Nat.blt t n = true := Nat.blt_eq.mpr h
      simp [h, this]
    · have : Nat.blt t n = false := by
        rw [Bool.eq_false_iff]
        exact fun e => h (Nat.blt_eq.mp e)
      simp [h, this]
  | _ => rfl
def evs (n : Nat) (ρ : Env) : List Operand → List Value
  | [] => []
  | x :: xs => ev n ρ x :: evs n ρ xs
theorem evs_map (n : Nat) (ρ : Env) (l : List Operand) : l.map (ev n ρ) = evs n ρ l := by
  induction l with
  | nil => rfl
  | cons x xs ih => simp [evs, ih]
def nthD : List Value → Nat → Value
  | [], _ => undef
  | v :: _, 0 => v
  | _ :: l, i + 1 => nthD l i
theorem nthD_eq (l : List Value) : ∀ i, nthD l i = l.getD i undef := by
  induction l with
  | nil => intro i; rfl
  | cons v l ih => intro i; cases i <;> simp [nthD, ih]
def nth? : List Value → Nat → Option Value
  | [], _ => none
  | v :: _, 0 => some v
  | _ :: l, i + 1 => nth? l i
theorem nth?_eq (l : List Value) : ∀ i, nth? l i = l[i]? := by
  induction l with
  | nil => intro i; rfl
  | cons v l ih => intro i; cases i <;> simp [nth?, ih]

/-! ### Pins: forget all slots but some -/
def pin : List (Nat × Value) → Env → Env
  | [], τ => τ
  | (i, v) :: l, τ => upd (pin l τ) i v
def Pins : List (Nat × Value) → Env → Prop
  | [], _ => True
  | (i, v) :: l, ρ => ρ i = v ∧ Pins l ρ
theorem pin_of {l : List (Nat × Value)} {ρ : Env} (h : Pins l ρ) : pin l ρ = ρ := by
  induction l with
  | nil => rfl
  | cons p l ih =>
    obtain ⟨i, v⟩ := p
    obtain ⟨h1, h2⟩ := h
    simp only [pin, ih h2]
    rw [← h1]
    exact upd_self _ _
theorem keep {G : Env → Prop} {ρ : Env} (l : List (Nat × Value)) (hl : Pins l ρ) (h : ∀ τ, G (pin l τ)) : G ρ := by
  have := h ρ
  rwa [pin_of hl] at this

/-! ### Values forced to a constructor -/
def force {α : Type} (v : Value) (k : Value → α) : α :=
  match v with
  | .bool b => k (.bool b)
  | .int i n => k (.int i n)
  | .float f b => k (.float f b)
  | .complex f r i => k (.complex f r i)
  | .string s => k (.string s)
  | .pointer a => k (.pointer a)
  | .slice a n c => k (.slice a n c)
  | .map r => k (.map r)
  | .chan r => k (.chan r)
  | .func f a c => k (.func f a c)
  | .nilFunc => k .nilFunc
  | .iface t v => k (.iface t v)
  | .nilIface => k .nilIface
  | .agg c => k (.agg c)
  | .tuple c => k (.tuple c)
theorem force_eq {α : Type} (v : Value) (k : Value → α) : force v k = k v := by cases v <;> rfl
def forceL {α : Type} (n : Nat) (ρ : Env) : List Operand → (List Value → α) → α
  | [], k => k []
  | x :: xs, k => force (ev n ρ x) fun v => forceL n ρ xs fun vs => k (v :: vs)
theorem forceL_eq {α : Type} (n : Nat) (ρ : Env) (l : List Operand) : ∀ k : List Value → α, forceL n ρ l k = k (evs n ρ l) := by
  induction l with
  | nil => intro k; rfl
  | cons x xs ih => intro k; simp only [forceL, force_eq, ih, evs]

/-! ### Integers -/
def w64 (x : Int) : Int := IntKind.i64.wrap x
theorem w64_id {x : Int} (h1 : -9223372036854775808 ≤ x) (h2 : x ≤ 9223372036854775807) : w64 x = x := by
  unfold w64
  rw [IntKind.wrap_i64]
  omega
theorem w64_ge (x : Int) : -9223372036854775808 ≤ w64 x := by unfold w64; rw [IntKind.wrap_i64]; omega
theorem w64_le (x : Int) : w64 x ≤ 9223372036854775807 := by unfold w64; rw [IntKind.wrap_i64]; omega
def kid : IntKind → Nat
  | .i8 => 0 | .i16 => 1 | .i32 => 2 | .i64 => 3 | .u8 => 4 | .u16 => 5 | .u32 => 6 | .u64 => 7
theorem kid_inj {a b : IntKind} (h : Nat.beq (kid a) (kid b) = true) : a = b := by cases a <;> cases b <;> first | rfl | cases h
def bitw (op : BinOp) (a b : Int) : Int :=
  match op with
  | .and => w64 ((BitVec.ofInt 64 a &&& BitVec.ofInt 64 b).toNat)
  | .or => w64 ((BitVec.ofInt 64 a ||| BitVec.ofInt 64 b).toNat)
  | .xor => w64 ((BitVec.ofInt 64 a ^^^ BitVec.ofInt 64 b).toNat)
  | _ => w64 ((BitVec.ofInt 64 a &&& ~~~BitVec.ofInt 64 b).toNat)
/-- two ints of one kind: i64 alone for arithmetic; comparisons for all -/
def binI {α : Type} (op : BinOp) (k : IntKind) (a b : Int) (dflt : α) (K : Value → α) : α :=
  match op with
  | .eql => K (.bool (a == b))
  | .neq => K (.bool (a != b))
  | .lss => K (.bool (decide (a < b)))
  | .leq => K (.bool (decide (a ≤ b)))
  | .gtr => K (.bool (decide (b < a)))
  | .geq => K (.bool (decide (b ≤ a)))
  | .add => match k with | .i64 => K (.int .i64 (w64 (a + b))) | _ => dflt
  | .sub => match k with | .i64 => K (.int .i64 (w64 (a - b))) | _ => dflt
  | .mul => match k with | .i64 => K (.int .i64 (w64 (a * b))) | _ => dflt
  | .and => match k with | .i64 => K (.int .i64 (bitw .and a b)) | _ => dflt
  | .or => match k with | .i64 => K (.int .i64 (bitw .or a b)) | _ => dflt
  | .xor => match k with | .i64 => K (.int .i64 (bitw .xor a b)) | _ => dflt
  | _ => dflt

/-! ### A table of types, held against the program -/
inductive Ty where
  | one                                        -- one cell, neither struct nor array
  | slc (e es eb : Nat)                        -- a slice: its element type, that type's cells (not 0) and bytes
  | str (size : Nat) (fs : List (Nat × Nat × Bool)) (zero : List Value)     -- cells; each field: its offset, its size (not 0), is it a struct or an array; the zero value's cells, or nothing
  | arr (len : Nat) (esize : Nat) (eagg : Bool)
  deriving Inhabited
abbrev Tab := List (Nat × Ty)
def Tab.get (T : Tab) (t : Nat) : Option Ty :=
  match T with
  | [] => none
  | (i, x) :: l => bif Nat.beq i t then some x else Tab.get l t
def aggB (P : Program) (t : TypeId) : Bool := match P.underlying t with | some (.struct _) | some (.array _ _) => true | _ => false
def fieldOk (P : Program) (f : Field) (x : Nat × Nat × Bool) : Bool :=
  Nat.beq f.offset x.1 && !(Nat.beq x.2.1 0) && ((P.info? f.type).map (·.size) == some x.2.1) && ((P.underlying f.type).isSome) && (aggB P f.type == x.2.2)
def fieldsOk (P : Program) : List Field → List (Nat × Nat × Bool) → Bool
  | [], [] => true
  | f :: fs, x :: xs => fieldOk P f x && fieldsOk P fs xs
  | _, _ => false
def sameCell : Value → Value → Bool
  | .bool a, .bool b => a == b
  | .int k a, .int k' b => Nat.beq (kid k) (kid k') && a == b
  | .pointer none, .pointer none => true
  | .slice none 0 0, .slice none 0 0 => true
  | .map none, .map none => true
  | .nilFunc, .nilFunc => true
  | .nilIface, .nilIface => true
  | _, _ => false
theorem sameCell_eq {a b : Value} (h : sameCell a b = true) : a = b := by
  unfold sameCell at h
  split at h
  · simp at h; rw [h]
  · simp only [Bool.and_eq_true, beq_iff_eq] at h
    rw [kid_inj h.1, h.2]
  all_goals first | rfl | cases h
def sameCells : List Value → List Value → Bool
  | [], [] => true
  | a :: l, b :: m => sameCell a b && sameCells l m
  | _, _ => false
theorem sameCells_eq : ∀ {l m : List Value}, sameCells l m = true → l = m := by
  intro l
  induction l with
  | nil => intro m h; cases m <;> first | rfl | cases h
  | cons a l ih =>
    intro m h
    cases m with
    | nil => cases h
    | cons b m =>
      simp only [sameCells, Bool.and_eq_true] at h
      rw [sameCell_eq h.1, ih h.2]
def tyOk (P : Program) (t : Nat) (x : Ty) : Bool :=
  match x with
  | .one => (P.underlying t).isSome && !(aggB P t) && ((P.info? t).map (·.size) == some 1)
  | .slc e es eb => (match P.underlying t with | some (.slice e') => Nat.beq e e' | _ => false) && ((P.info? t).map (·.size) == some 1) && (match P.info? e with | some i => Nat.beq i.size es && Nat.beq i.bytes eb && (match i.zero with | some z => Nat.beq z.cells.size es | none => false) | none => false) && !(Nat.beq es 0)
  | .str n fs zero => (match P.underlying t with | some (.struct gs) => fieldsOk P gs.toList fs | _ => false) && ((P.info? t).map (·.size) == some n) && (zero.isEmpty || (match P.info? t with | some i => (match i.zero with | some z => sameCells z.cells.toList zero | none => false) | none => false))
  | .arr len es ea => match P.underlying t with | some (.array m e) => Nat.beq m len && ((P.info? e).map (·.size) == some es) && ((P.underlying e).isSome) && (aggB P e == ea) && ((P.info? t).map (·.size) == some (len * es)) | _ => false
def tabOk (P : Program) (T : Tab) : Bool := T.all fun p => tyOk P p.1 p.2
theorem tab_get {P : Program} {T : Tab} (h : tabOk P T = true) {t : Nat} {x : Ty} (hx : T.get t = some x) : tyOk P t x = true := by
  induction T with
  | nil => cases hx
  | cons p l ih =>
    obtain ⟨i, y⟩ := p
    simp only [tabOk, List.all_cons, Bool.and_eq_true] at h
    simp only [Tab.get] at hx
    cases hb : Nat.beq i t with
    | true =>
      rw [hb] at hx
      simp only [cond_true, Option.some.injEq] at hx
      have : i = t := by simpa using hb
      subst this; subst hx
      exact h.1
    | false =>
      rw [hb] at hx
      exact ih h.2 hx
def nthF : List (Nat × Nat × Bool) → Nat → Option (Nat × Nat × Bool)
  | [], _ => none
  | v :: _, 0 => some v
  | _ :: l, i + 1 => nthF l i
def addA (a : Addr) (n : Nat) : Addr := match a with | ⟨b, o, s⟩ => match n with | 0 => ⟨b, o, s⟩ | n + 1 => ⟨b, o + (n + 1), none⟩
theorem addA_eq (a : Addr) (n : Nat) : addA a n = a.add n := by
  obtain ⟨b, o, s⟩ := a
  cases n with
  | zero => rfl
  | succ n => simp [addA, Addr.add]

def addK {α : Type} (a : Addr) (n : Nat) (K : Addr → α) : α := match a with | ⟨b, o, s⟩ => bif Nat.beq n 0 then K ⟨b, o, s⟩ else K ⟨b, o + n, none⟩
theorem addK_eq {α : Type} (a : Addr) (n : Nat) (K : Addr → α) : addK a n K = K (a.add n) := by
  obtain ⟨b, o, s⟩ := a
  cases n with
  | zero => rfl
  | succ n =>
    have e : Nat.beq (n + 1) 0 = false := rfl
    simp [addK, Addr.add, e]
/-! ### One operation that leaves the world alone -/
def inL (x : Nat) : List Nat → Bool
  | [] => false
  | y :: l => bif Nat.beq x y then true else inL x l
def decO (dec : List Nat) : Operand → Bool
  | .tmp t => inL t dec
  | .const _ => true
  | _ => false
def lenL : List Value → Nat
  | [] => 0
  | _ :: l => lenL l + 1
theorem lenL_eq (l : List Value) : lenL l = l.length := by induction l <;> simp [lenL, *]
def putL : Nat → List Value → List Value → List Value
  | _, _, [] => []
  | 0, [], c :: cs => c :: cs
  | 0, v :: vs, _ :: cs => v :: putL 0 vs cs
  | o + 1, vs, c :: cs => c :: putL o vs cs
def forceC {α : Type} (v : Value) (k : List Value → α) : α := force v fun v => match v with | .agg cs => k cs.toList | w => k [w]
theorem forceC_eq {α : Type} (v : Value) (k : List Value → α) : forceC v k = k v.cells.toList := by
  unfold forceC
  rw [force_eq]
  cases v <;> rfl
def buildK {α : Type} (n : Nat) (ρ : Env) (fs : List (Nat × Nat × Bool)) : List (Nat × Operand) → List Value → α → (List Value → α) → α
  | [], cs, _, k => k cs
  | (i, x) :: ps, cs, d, k => match nthF fs i with
    | none => d
    | some (off, sz, _) => forceC (ev n ρ x) fun vs => match Nat.beq (lenL vs) sz with
      | false => d
      | true => match Nat.ble (off + sz) (lenL cs) with
        | false => d
        | true => buildK n ρ fs ps (putL off vs cs) d k
/-- d: the value is a literal Bool -/
def stepK {α : Type} (T : Tab) (n : Nat) (ρ : Env) (dec : List Nat) (op : Op) (dflt : α) (K : Bool → Value → α) : α :=
  match op with
  | .move x | .assign x => force (ev n ρ x) (K (decO dec x))
  | .pick c a b => match decO dec c with
    | false => dflt
    | true => match ev n ρ c with
      | .bool true => force (ev n ρ a) (K (decO dec a))
      | .bool false => force (ev n ρ b) (K (decO dec b))
      | _ => dflt
  | .binOp op _ x y _ => match ev n ρ x, ev n ρ y with
    | .int k a, .int k' b => bif Nat.beq (kid k) (kid k') then binI op k a b dflt (K false) else dflt
    | _, _ => dflt
  | .unOp op _ x => match op, ev n ρ x with
    | .not, .bool b => match decO dec x with
      | false => K false (.bool (!b))
      | true => match b with | true => K true (.bool false) | false => K true (.bool true)
    | .neg, .int .i64 a => K false (.int .i64 (w64 (0 - a)))
    | _, _ => dflt
  | .nilCheck x => match ev n ρ x with
    | .pointer (some a) => K false (.pointer (some a))
    | _ => dflt
  | .fieldAddr t x f => match ev n ρ x, Tab.get T t with
    | .pointer (some a), some (.str _ fs _) => match nthF fs f with
      | some (off, _, _) => addK a off fun a' => K false (.pointer (some a'))
      | none => dflt
    | _, _ => dflt
  | .makeFunc f first cap => forceL n ρ first.toList fun fs => forceL n ρ cap.toList fun cs => K false (.func f fs.toArray cs.toArray)
  | .extract x i => match ev n ρ x with
    | .tuple vs => match nth? vs.toList i with
      | some v => force v (K false)
      | none => dflt
    | _ => dflt
  | .field t x f => match ev n ρ x, Tab.get T t with
    | .agg vs, some (.str _ fs _) => match nthF fs f with
      | some (off, _, false) => match nth? vs.toList off with
        | some v => force v (K false)
        | none => dflt
      | _ => dflt
    | _, _ => dflt
  | .build t ps => match Tab.get T t with
    | some (.str _ fs (z :: zs)) => buildK n ρ fs ps.toList (z :: zs) dflt fun cs => K false (.agg cs.toArray)
    | _ => dflt
  | .call c => match c.callee, c.args.toList with
    | .builtin .len, [x] => match ev n ρ x, c.argTypes.toList with
      | .slice _ m _, t :: _ => match Tab.get T t with
        | some (.slc _ _ _) => K false (.int .i64 (m : Int))
        | _ => dflt
      | _, _ => dflt
    | .builtin .min, [x, y] => match ev n ρ x, ev n ρ y with
      | .int .i64 a, .int .i64 b => K false (.int .i64 (min a b))
      | _, _ => dflt
    | .builtin .max, [x, y] => match ev n ρ x, ev n ρ y with
      | .int .i64 a, .int .i64 b => K false (.int .i64 (max a b))
      | _, _ => dflt
    | _, _ => dflt
  | _ => dflt

theorem min_if (x y : Int) : (if y < x then y else x) = min x y := by
  rw [Int.min_def]
  by_cases h : y < x
  · rw [if_pos h, if_neg (by omega)]
  · rw [if_neg h, if_pos (by omega)]
theorem max_if (x y : Int) : (if x < y then y else x) = max x y := by
  rw [Int.max_def]
  by_cases h : x < y
  · rw [if_pos h, if_pos (by omega)]
  · rw [if_neg h]
    by_cases h2 : x ≤ y
    · rw [if_pos h2]; omega
    · rw [if_neg h2]

section
variable {P : Program}
theorem run_binI {α : Type} {G : α → Prop} {C : Prop} {op : BinOp} {t : TypeId} {X Y : Operand} {k : IntKind} {a b : Int} {dflt : α} {K : Value → α}
    (hG : G (binI op k a b dflt K)) (hd : G dflt → C)
    (hK : ∀ v, (∀ w, (do eqGuard op t X Y (.int k a) (.int k b); binOp op t (.int k a) (.int k b)).run P w = .ok v w) → G (K v) → C) : C := by
  unfold binI at hG
  split at hG
  case h_1 => exact hK _ (fun w => by simp [eqGuard_at_int, binOp, Op.intCmp]) hG
  case h_2 => exact hK _ (fun w => by simp [eqGuard_at_int, binOp, Op.intCmp]) hG
  case h_3 => exact hK _ (fun w => by simp [eqGuard_at_int, binOp, Op.intCmp]) hG
  case h_4 => exact hK _ (fun w => by simp [eqGuard_at_int, binOp, Op.intCmp]) hG
  case h_5 => exact hK _ (fun w => by simp [eqGuard_at_int, binOp, Op.intCmp]) hG
  case h_6 => exact hK _ (fun w => by simp [eqGuard_at_int, binOp, Op.intCmp]) hG
  case h_7 =>
    split at hG
    · exact hK _ (fun w => by simp [eqGuard_at_int, binOp, Op.intArith, w64]) hG
    · exact hd hG
  case h_8 =>
    split at hG
    · exact hK _ (fun w => by simp [eqGuard_at_int, binOp, Op.intArith, w64]) hG
    · exact hd hG
  case h_9 =>
    split at hG
    · exact hK _ (fun w => by simp [eqGuard_at_int, binOp, Op.intArith, w64]) hG
    · exact hd hG
  case h_10 =>
    split at hG
    · exact hK _ (fun w => by simp only [Sem.run_bind, eqGuard_at_int, Sem.run_pure, Result.andThen_ok, binOp, ne_eq, not_true_eq_false, if_false]; rfl) hG
    · exact hd hG
  case h_11 =>
    split at hG
    · exact hK _ (fun w => by simp only [Sem.run_bind, eqGuard_at_int, Sem.run_pure, Result.andThen_ok, binOp, ne_eq, not_true_eq_false, if_false]; rfl) hG
    · exact hd hG
  case h_12 =>
    split at hG
    · exact hK _ (fun w => by simp only [Sem.run_bind, eqGuard_at_int, Sem.run_pure, Result.andThen_ok, binOp, ne_eq, not_true_eq_false, if_false]; rfl) hG
    · exact hd hG
  case h_13 => exact hd hG

theorem tab_str {T : Tab} (hT : tabOk P T = true) {t m : Nat} {fs : List (Nat × Nat × Bool)} {zs : List Value} (h : Tab.get T t = some (.str m fs zs)) :
    ∃ gs, P.underlying t = some (.struct gs) ∧ fieldsOk P gs.toList fs = true ∧ ∃ i, P.info? t = some i ∧ i.size = m ∧ (zs = [] ∨ ∃ z, i.zero = some z ∧ z.cells.toList = zs) := by
  have := tab_get hT h
  simp only [tyOk, Bool.and_eq_true] at this
  obtain ⟨⟨h1, h2⟩, h3⟩ := this
  split at h1
  · rename_i gs hgs
    refine ⟨gs, hgs, h1, ?_⟩
    cases hi : P.info? t with
    | none => rw [hi] at h2; simp at h2
    | some i =>
      rw [hi] at h2 h3
      refine ⟨i, rfl, by simpa using h2, ?_⟩
      cases zs with
      | nil => exact .inl rfl
      | cons a l =>
        right
        simp only [List.isEmpty_cons, Bool.false_or] at h3
        cases hz : i.zero with
        | none => rw [hz] at h3; cases h3
        | some z => rw [hz] at h3; exact ⟨z, rfl, sameCells_eq h3⟩
  · cases h1
theorem tab_slc {T : Tab} (hT : tabOk P T = true) {t e es eb : Nat} (h : Tab.get T t = some (.slc e es eb)) :
    P.underlying t = some (.slice e) ∧ ∃ i z, P.info? e = some i ∧ i.size = es ∧ i.bytes = eb ∧ i.zero = some z ∧ z.cells.size = es ∧ 0 < es := by
  have := tab_get hT h
  simp only [tyOk, Bool.and_eq_true] at this
  obtain ⟨⟨⟨h1, h2⟩, h3⟩, h4⟩ := this
  split at h1
  · rename_i e' he
    obtain rfl := Nat.eq_of_beq_eq_true h1
    refine ⟨he, ?_⟩
    split at h3
    · rename_i i hi
      simp only [Bool.and_eq_true] at h3
      obtain ⟨⟨a1, a2⟩, a3⟩ := h3
      split at a3
      · rename_i z hz
        refine ⟨i, z, hi, Nat.eq_of_beq_eq_true a1, Nat.eq_of_beq_eq_true a2, hz, Nat.eq_of_beq_eq_true a3, ?_⟩
        rcases Nat.eq_zero_or_pos es with h0 | h0
        · subst h0; simp at h4
        · exact h0
      · cases a3
    · cases h3
  · cases h1
def isOne (T : Tab) (t : Nat) : Bool := match Tab.get T t with | some .one => true | some (.slc _ _ _) => true | _ => false
theorem tab_one {T : Tab} (hT : tabOk P T = true) {t : Nat} (h : isOne T t = true) : (∃ d, P.underlying t = some d) ∧ aggB P t = false ∧ ∃ i, P.info? t = some i ∧ i.size = 1 := by
  unfold isOne at h
  split at h
  · rename_i hg
    have := tab_get hT hg
    simp only [tyOk, Bool.and_eq_true, Bool.not_eq_true'] at this
    refine ⟨Option.isSome_iff_exists.1 this.1.1, this.1.2, ?_⟩
    cases hi : P.info? t with
    | none => rw [hi] at this; simp at this
    | some i => rw [hi] at this; exact ⟨i, rfl, by simpa using this.2⟩
  · rename_i hg
    have h1 := tab_slc hT hg
    have := tab_get hT hg
    simp only [tyOk, Bool.and_eq_true] at this
    refine ⟨⟨_, h1.1⟩, by simp [aggB, h1.1], ?_⟩
    cases hi : P.info? t with
    | none => rw [hi] at this; simp at this
    | some i => rw [hi] at this; exact ⟨i, rfl, by simpa using this.1.1.2⟩
  · cases h
theorem fields_nth {gs : List Field} : ∀ {fs : List (Nat × Nat × Bool)} {j off sz : Nat} {ag : Bool}, fieldsOk P gs fs = true → nthF fs j = some (off, sz, ag) →
    ∃ g, gs[j]? = some g ∧ g.offset = off ∧ sz ≠ 0 ∧ (∃ i, P.info? g.type = some i ∧ i.size = sz) ∧ (∃ d, P.underlying g.type = some d) ∧ aggB P g.type = ag := by
  induction gs with
  | nil => intro fs j off sz ag h1 h2; cases fs <;> simp [fieldsOk, nthF] at h1 h2
  | cons g gs ih =>
    intro fs j off sz ag h1 h2
    cases fs with
    | nil => simp [nthF] at h2
    | cons x xs =>
      simp only [fieldsOk, Bool.and_eq_true] at h1
      cases j with
      | zero =>
        simp only [nthF, Option.some.injEq] at h2
        subst h2
        obtain ⟨h1, _⟩ := h1
        simp only [fieldOk, Bool.and_eq_true, Bool.not_eq_true', beq_iff_eq] at h1
        obtain ⟨⟨⟨⟨a1, a2⟩, a3⟩, a4⟩, a5⟩ := h1
        refine ⟨g, rfl, Nat.eq_of_beq_eq_true a1, ?_, ?_, Option.isSome_iff_exists.1 a4, a5⟩
        · intro e; rw [e] at a2; cases a2
        · cases hi : P.info? g.type with
          | none => rw [hi] at a3; cases a3
          | some i => rw [hi] at a3; exact ⟨i, rfl, by simpa using a3⟩
      | succ j => exact ih h1.2 h2

theorem run_isAgg (t : TypeId) (w : World) {d : TypeDesc} (h : P.underlying t = some d) : (isAgg t).run P w = .ok (aggB P t) w := by
  simp only [isAgg, Sem.run_bind, run_underlying h, Result.andThen_ok, aggB, h]
  cases d <;> rfl
theorem run_sizeOf {t : TypeId} {i : TypeInfo} (h : P.info? t = some i) (w : World) : (sizeOf t).run P w = .ok i.size w := by
  simp [sizeOf, typeInfo, h]

theorem putL_eq : ∀ (vs cs : List Value) (o : Nat), putL o vs cs = (vs.zipIdx.foldl (fun (a : Array Value) (p : Value × Nat) => a.setIfInBounds (o + p.2) p.1) cs.toArray).toList := by
  have key : ∀ (vs : List Value) (cs : List Value) (o i : Nat), ((vs.zipIdx i).foldl (fun (a : Array Value) (p : Value × Nat) => a.setIfInBounds (o + p.2) p.1) cs.toArray).toList = putL (o + i) vs cs := by
    intro vs
    induction vs with
    | nil =>
      intro cs o i
      have : ∀ (cs : List Value) (j : Nat), putL j [] cs = cs := by
        intro cs
        induction cs with
        | nil => intro j; cases j <;> rfl
        | cons c cs ih => intro j; cases j <;> simp [putL, ih]
      simp [this]
    | cons v vs ih =>
      intro cs o i
      simp only [List.zipIdx_cons, List.foldl_cons, List.setIfInBounds_toArray]
      rw [ih]
      have : ∀ (cs : List Value) (j : Nat), putL (j + 1) vs (cs.set j v) = putL j (v :: vs) cs := by
        intro cs
        induction cs with
        | nil => intro j; cases j <;> rfl
        | cons c cs ih2 => intro j; cases j <;> simp [putL, ih2]
      exact this cs (o + i)
  intro vs cs o
  have := key vs cs o 0
  rw [Nat.add_zero] at this
  exact this.symm
theorem putL_length : ∀ (cs vs : List Value) (o : Nat), (putL o vs cs).length = cs.length := by
  intro cs
  induction cs with
  | nil => intro vs o; cases o <;> cases vs <;> rfl
  | cons c cs ih => intro vs o; cases o <;> cases vs <;> simp [putL, ih]
theorem buildK_elim {α : Type} {G : α → Prop} {C : Prop} {n : Nat} {ρ : Env} {fs : List (Nat × Nat × Bool)} {pl : Nat → Option (Nat × Nat)} (hpl : ∀ i off sz ag, nthF fs i = some (off, sz, ag) → pl i = some (off, sz)) {dflt : α} {K : List Value → α} :
    ∀ (ps : List (Nat × Operand)) (cs : List Value), G (buildK n ρ fs ps cs dflt K) → (G dflt → C) →
      (∀ ds, Instr.fill pl cs.toArray (ps.map fun p => (p.1, ev n ρ p.2)) = some ds.toArray → G (K ds) → C) → C := by
  intro ps
  induction ps with
  | nil => intro cs hG hd hK; exact hK cs rfl hG
  | cons p ps ih =>
    obtain ⟨i, x⟩ := p
    intro cs hG hd hK
    simp only [buildK, forceC_eq] at hG
    split at hG
    · exact hd hG
    · rename_i off sz ag hf
      split at hG
      · exact hd hG
      · rename_i h1
        split at hG
        · exact hd hG
        · rename_i h2
          refine ih _ hG hd fun ds hds hG' => hK ds ?_ hG'
          have h1 := Nat.eq_of_beq_eq_true h1
          have h2 := Nat.le_of_ble_eq_true h2
          rw [lenL_eq] at h1 h2
          simp only [List.map_cons, Instr.fill, hpl _ _ _ _ hf]
          have e1 : (ev n ρ x).cells.size = sz := by simpa using h1
          have e2 : ((decide ((ev n ρ x).cells.size ≠ sz)) || decide (off + (ev n ρ x).cells.size > cs.toArray.size)) = false := by
            rw [e1]; simp; omega
          rw [e2, if_neg (by simp)]
          rw [← hds]
          congr 1
          apply Array.ext'
          rw [putL_eq, ← Array.foldl_toList, Array.toList_zipIdx]
theorem run_places (w : World) : ∀ {gs : List Field} {fs : List (Nat × Nat × Bool)}, fieldsOk P gs fs = true →
    (gs.mapM (m := Sem) fun f => do pure (f.offset, ← sizeOf f.type)).run P w = .ok (fs.map fun x => (x.1, x.2.1)) w := by
  intro gs
  induction gs with
  | nil => intro fs h; cases fs <;> first | rfl | cases h
  | cons g gs ih =>
    intro fs h
    cases fs with
    | nil => cases h
    | cons x xs =>
      obtain ⟨g', hg', hoff, hsz, ⟨i, hi, hiz⟩, _, _⟩ := fields_nth (j := 0) (off := x.1) (sz := x.2.1) (ag := x.2.2) h rfl
      simp only [List.getElem?_cons_zero, Option.some.injEq] at hg'
      subst hg'
      simp only [fieldsOk, Bool.and_eq_true] at h
      have := ih h.2
      simp only [List.mapM_cons, Sem.run_bind, run_sizeOf hi, Result.andThen_ok, Sem.run_pure, hiz, hoff] at this ⊢
      rw [this]
      rfl
theorem stepK_elim {T : Tab} (hT : tabOk P T = true) {α : Type} {G : α → Prop} {C : Prop} {n : Nat} {ρ : Env} {dec : List Nat} {op : Op} {dflt : α} {K : Bool → Value → α}
    (hG : G (stepK T n ρ dec op dflt K)) (hd : G dflt → C)
    (hK : ∀ d v, (∀ o : Oper, o.op = op → ∀ w, (execOp (ev n ρ) o).run P w = .ok (.value v) w) → G (K d v) → C) : C := by
  unfold stepK at hG
  split at hG
  case h_1 x =>
    rw [force_eq] at hG
    exact hK _ _ (fun o ho w => by simp [execOp, ho]) hG
  case h_2 x =>
    rw [force_eq] at hG
    exact hK _ _ (fun o ho w => by simp [execOp, ho]) hG
  case h_3 c a b =>
    split at hG
    · exact hd hG
    · split at hG
      · rename_i hc
        rw [force_eq] at hG
        exact hK _ _ (fun o ho w => by simp [execOp, ho, hc, asBool]) hG
      · rename_i hc
        rw [force_eq] at hG
        exact hK _ _ (fun o ho w => by simp [execOp, ho, hc, asBool]) hG
      · exact hd hG
  case h_4 op t x y yt =>
    split at hG
    · rename_i k a k' b hx hy
      cases hk : Nat.beq (kid k) (kid k') with
      | false => rw [hk] at hG; exact hd hG
      | true =>
        rw [hk] at hG
        obtain rfl := kid_inj hk
        exact run_binI (t := t) (X := x) (Y := y) (P := P) hG hd fun v hv hG' => hK _ _ (fun o ho w => by
          simp only [execOp, ho, hx, hy, Sem.run_bind, Sem.run_pure]
          have := hv w
          simp only [Sem.run_bind] at this
          rw [this]; rfl) hG'
    · exact hd hG
  case h_5 op t x =>
    split at hG
    · rename_i b hx
      split at hG
      · exact hK _ _ (fun o ho w => by simp [execOp, ho, hx, Op.unary]) hG
      · split at hG
        · exact hK _ _ (fun o ho w => by simp [execOp, ho, hx, Op.unary]) hG
        · exact hK _ _ (fun o ho w => by simp [execOp, ho, hx, Op.unary]) hG
    · rename_i a hx
      exact hK _ _ (fun o ho w => by simp [execOp, ho, hx, Op.unary, Op.intArith, w64]) hG
    · exact hd hG
  case h_6 x =>
    split at hG
    · rename_i a hx
      exact hK _ _ (fun o ho w => by simp [execOp, ho, hx]) hG
    · exact hd hG
  case h_7 t x f =>
    split at hG
    · rename_i a m fs zs hx ht
      split at hG
      · rename_i off sz ag hf
        rw [addK_eq] at hG
        obtain ⟨gs, hgs, hok, _⟩ := tab_str hT ht
        obtain ⟨g, hg, hoff, hsz, ⟨i, hi, hiz⟩, _, _⟩ := fields_nth hok hf
        refine hK _ _ (fun o ho w => ?_) hG
        have hg' : gs[f]? = some g := by simpa using hg
        simp [execOp, ho, hx, Instr.fieldAt, run_underlying hgs, hg', Instr.sureAddr, fieldPlace, run_sizeOf hi, hiz, hsz, hoff]
      · exact hd hG
    · exact hd hG
  case h_8 f first cap =>
    rw [forceL_eq, forceL_eq] at hG
    refine hK _ _ (fun o ho w => ?_) hG
    have e1 : first.map (ev n ρ) = (evs n ρ first.toList).toArray := by apply Array.ext'; simp [← evs_map]
    have e2 : cap.map (ev n ρ) = (evs n ρ cap.toList).toArray := by apply Array.ext'; simp [← evs_map]
    simp [execOp, ho, Instr.makeFunc, e1, e2]
  case h_9 x i =>
    split at hG
    · rename_i vs hx
      split at hG
      · rename_i v hv
        rw [nth?_eq] at hv
        rw [force_eq] at hG
        refine hK _ _ (fun o ho w => ?_) hG
        have hv' : vs[i]? = some v := by simpa using hv
        simp [execOp, ho, hx, Instr.extract, hv']
      · exact hd hG
    · exact hd hG
  case h_10 t x f =>
    split at hG
    · rename_i vs m fs zs hx ht
      split at hG
      · rename_i off sz hf
        obtain ⟨gs, hgs, hok, _⟩ := tab_str hT ht
        obtain ⟨g, hg, hoff, hsz, _, ⟨d, hu⟩, hag⟩ := fields_nth hok hf
        split at hG
        · rename_i v hv
          rw [nth?_eq] at hv
          rw [force_eq] at hG
          refine hK _ _ (fun o ho w => ?_) hG
          have hg' : gs[f]? = some g := by simpa using hg
          have hv' : vs[off]? = some v := by simpa using hv
          simp [execOp, ho, hx, Instr.field, run_underlying hgs, hg', asAgg, part, run_isAgg _ _ hu, hag, hoff, hv']
        · exact hd hG
      · exact hd hG
    · exact hd hG
  case h_11 t ps =>
    split at hG
    · rename_i m fs z zs ht
      obtain ⟨gs, hgs, hok, i, hi, him, hz⟩ := tab_str hT ht
      obtain ⟨z0, hz0, hzc⟩ := hz.resolve_left (by simp)
      refine buildK_elim (pl := fun i => ((fs.map fun x => (x.1, x.2.1)).toArray)[i]?) ?_ _ _ hG hd ?_
      · intro i off sz ag hf
        have : ∀ (fs : List (Nat × Nat × Bool)) (i : Nat), nthF fs i = some (off, sz, ag) → fs[i]? = some (off, sz, ag) := by
          intro fs
          induction fs with
          | nil => intro i h; cases i <;> cases h
          | cons x xs ih => intro i h; cases i <;> simp_all [nthF]
        simp [this fs i hf]
      · intro ds hds hG'
        refine hK _ _ (fun o ho w => ?_) hG'
        have e1 : z0.cells = (z :: zs).toArray := by apply Array.ext'; simpa using hzc
        have e2 := run_places (P := P) w hok
        have e3 : (ps.map fun (p : Nat × Operand) => (p.1, ev n ρ p.2)).toList = ps.toList.map fun p => (p.1, ev n ρ p.2) := by simp
        simp only [execOp, ho, Instr.build, Sem.run_bind, zeroValue, typeInfo, run_program, Result.andThen_ok, hi, Sem.run_pure, hz0, run_underlying hgs, Array.mapM_eq_mapM_toList, Sem.run_map, e2, e1]
        rw [e3, hds]
        rfl
    · exact hd hG
  case h_12 c =>
    split at hG
    · rename_i x hc ha
      have ha' : c.args = #[x] := by cases hh : c.args; simp [hh] at ha; simp [ha]
      split at hG
      · rename_i A m cap t ts hx hts
        split at hG
        · rename_i e es eb ht
          have hu := (tab_slc hT ht).1
          have ht0 : c.argTypes[0]? = some t := by
            have : c.argTypes.toList[0]? = some t := by rw [hts]; rfl
            simpa using this
          refine hK _ _ (fun o ho w => ?_) hG
          simp [execOp, ho, resolve, hc, ha', invoke, builtin, hx, Builtin.len_, ht0, run_underlying hu, goInt]
        · exact hd hG
      · exact hd hG
    · rename_i x y hc ha
      have ha' : c.args = #[x, y] := by cases hh : c.args; simp [hh] at ha; simp [ha]
      split at hG
      · rename_i a b hx hy
        refine hK _ _ (fun o ho w => ?_) hG
        simp [execOp, ho, resolve, hc, ha', invoke, builtin, hx, hy, Builtin.min_, Builtin.min2, min_if]
      · exact hd hG
    · rename_i x y hc ha
      have ha' : c.args = #[x, y] := by cases hh : c.args; simp [hh] at ha; simp [ha]
      split at hG
      · rename_i a b hx hy
        refine hK _ _ (fun o ho w => ?_) hG
        simp [execOp, ho, resolve, hc, ha', invoke, builtin, hx, hy, Builtin.max_, Builtin.max2, max_if]
      · exact hd hG
    · exact hd hG
  case h_13 => exact hd hG
end

/-! ### Configurations -/
inductive It where
  | code (c : Code)
  | blk (id : Nat)
  | lp (ds : List Deferred) (J : Env → World → Prop)
def exitOf (id : Nat) : List It → Option (List It)
  | [] => none
  | .blk j :: k => bif Nat.beq id j then some k else exitOf id k
  | .code _ :: k => exitOf id k
  | .lp _ _ :: k => exitOf id k
/-- at the return: the mark of a range over a function is taken off -/
def Out (q : Env → World → Prop) : List Deferred → Env → World → Prop
  | [], ρ, w => q ρ w
  | [d], ρ, w => ∃ D, d.target = .collected D ∧ w.heap[D]? = some (.deferred (some [])) ∧ q ρ (w.putObj D (.deferred none))
  | _, _, _ => False
def lift (n : Nat) (N : List Deferred → Env → World → Prop) (X : Nat → List Deferred → Env → World → Prop) (R : Env → World → Prop) : Exit → Act → World → Prop
  | .normal, a, w => ∃ ρ ds, a = F ds n ρ ∧ N ds ρ w
  | .exit id, a, w => ∃ ρ ds, a = F ds n ρ ∧ X id ds ρ w
  | .ret, a, w => ∃ ρ, a.tmps = (F [] n ρ).tmps ∧ Out R a.defers ρ w
  | _, _, _ => False
/-- the round that one is in, and the frame's deferred calls -/
abbrev Fra := Option Nat × List Deferred
structure Pst where
  N : List Deferred → Env → World → Prop
  X : Nat → List Deferred → Env → World → Prop
def dn (P : Program) (n : Nat) (R : Env → World → Prop) (ro : Option Nat) : List It → Pst
  | [] => ⟨fun ds ρ w => Out R ds ρ w, fun _ _ _ _ => False⟩
  | .code c :: k => ⟨fun ds ρ w => c.wpIn (fen ro) 0 P (lift n (dn P n R ro k).N (dn P n R ro k).X R) (F ds n ρ) w, (dn P n R ro k).X⟩
  | .blk id :: k => ⟨(dn P n R ro k).N, fun j => if j = id then (dn P n R ro k).N else (dn P n R ro k).X j⟩
  | .lp ds0 J :: k => ⟨fun ds ρ w => ds = ds0 ∧ J ρ w, (dn P n R ro k).X⟩
theorem dn_exit {P : Program} {n : Nat} {R : Env → World → Prop} {ro : Option Nat} {id : Nat} : ∀ {k k' : List It}, exitOf id k = some k' → (dn P n R ro k).X id = (dn P n R ro k').N := by
  intro k
  induction k with
  | nil => intro k' h; cases h
  | cons x k ih =>
    intro k' h
    cases x with
    | code c => exact ih h
    | lp ds0 J => exact ih h
    | blk j =>
      simp only [exitOf] at h
      cases hb : Nat.beq id j with
      | true =>
        rw [hb] at h
        simp only [cond_true, Option.some.injEq] at h
        have : id = j := Nat.eq_of_beq_eq_true hb
        subst this; subst h
        simp [dn]
      | false =>
        rw [hb] at h
        have hne : id ≠ j := fun e => by subst e; simp at hb
        simp only [dn, if_neg hne]
        exact ih h
def Lq (P : Program) (n : Nat) (R : Env → World → Prop) (ro : Option Nat) (k : List It) : Exit → Act → World → Prop := lift n (dn P n R ro k).N (dn P n R ro k).X R
/-- dec: the slots that hold a literal Bool (a hint for the computation alone) -/
def At (P : Program) (n : Nat) (R : Env → World → Prop) (fr : Fra) (all : Array Oper) (l : List Oper) (k : List It) (ρ : Env) (_dec : List Nat) (w : World) : Prop :=
  match l with
  | [] => (dn P n R fr.1 k).N fr.2 ρ w
  | o :: l => wpListIn (fen fr.1) 0 P all (Lq P n R fr.1 k) (o :: l) (F fr.2 n ρ) w
structure Cfg where
  all : Array Oper
  l : List Oper
  k : List It
  ρ : Env
  dec : List Nat
def rmL (x : Nat) : List Nat → List Nat
  | [] => []
  | y :: l => bif Nat.beq x y then rmL x l else y :: rmL x l
def putK {α : Type} (d : Option Nat) (b : Bool) (v : Value) (ρ : Env) (dec : List Nat) (K : Env → List Nat → α) : α :=
  match d with
  | none => K ρ dec
  | some d => match b with
    | true => K (upd ρ d v) (d :: dec)
    | false => match inL d dec with
      | true => K (upd ρ d v) (rmL d dec)
      | false => K (upd ρ d v) dec
theorem putK_elim {α : Type} {G : α → Prop} {C : Prop} {d : Option Nat} {b : Bool} {v : Value} {ρ : Env} {dec : List Nat} {K : Env → List Nat → α} (hG : G (putK d b v ρ dec K)) (h : ∀ dec', G (K (updo ρ d v) dec') → C) : C := by
  unfold putK at hG
  split at hG
  · exact h _ hG
  · split at hG
    · exact h _ hG
    · split at hG
      · exact h _ hG
      · exact h _ hG
def dstL : List Oper → Nat → Option Nat
  | [], _ => none
  | o :: _, 0 => o.dst
  | _ :: l, i + 1 => dstL l i
theorem dstL_eq : ∀ (l : List Oper) (i : Nat), dstL l i = (l[i]?).bind (·.dst) := by
  intro l
  induction l with
  | nil => intro i; rfl
  | cons o l ih => intro i; cases i <;> simp [dstL, ih]
def isB : Value → Bool
  | .bool _ => true
  | _ => false
def adv (T : Tab) (n : Nat) : Nat → Cfg → Cfg
  | 0, c => c
  | m + 1, ⟨all, l, k, ρ, dec⟩ => match l with
    | [] => match k with
      | [] => ⟨all, [], [], ρ, dec⟩
      | .lp ds0 J :: k => ⟨all, [], .lp ds0 J :: k, ρ, dec⟩
      | .blk _ :: k => adv T n m ⟨all, [], k, ρ, dec⟩
      | .code c :: k => match c with
        | .skip => adv T n m ⟨all, [], k, ρ, dec⟩
        | .seq a b => adv T n m ⟨all, [], .code a :: .code b :: k, ρ, dec⟩
        | .block id c => adv T n m ⟨all, [], .code c :: .blk id :: k, ρ, dec⟩
        | .region _ ops false => adv T n m ⟨ops, ops.toList, k, ρ, []⟩
        | .exit id => match exitOf id k with
          | some k' => adv T n m ⟨all, [], k', ρ, dec⟩
          | none => ⟨all, [], .code (.exit id) :: k, ρ, dec⟩
        | .cond c x y => match decO dec c with
          | false => ⟨all, [], .code (.cond c x y) :: k, ρ, dec⟩
          | true => match ev n ρ c with
            | .bool true => adv T n m ⟨all, [], .code x :: k, ρ, dec⟩
            | .bool false => adv T n m ⟨all, [], .code y :: k, ρ, dec⟩
            | _ => ⟨all, [], .code (.cond c x y) :: k, ρ, dec⟩
        | c => ⟨all, [], .code c :: k, ρ, dec⟩
    | ⟨dst, op, ty, pos, after, guard⟩ :: l => match guard with
      | none => stepK T n ρ dec op ⟨all, ⟨dst, op, ty, pos, after, none⟩ :: l, k, ρ, dec⟩ (fun b v => putK dst b v ρ dec fun ρ dec => adv T n m ⟨all, l, k, ρ, dec⟩)
      | some (j, want) => match dstL all.toList j with
        | none => ⟨all, ⟨dst, op, ty, pos, after, some (j, want)⟩ :: l, k, ρ, dec⟩
        | some t => match inL t dec with
          | false => ⟨all, ⟨dst, op, ty, pos, after, some (j, want)⟩ :: l, k, ρ, dec⟩
          | true => match ev n ρ (.tmp t), want with
            | .bool true, true => stepK T n ρ dec op ⟨all, ⟨dst, op, ty, pos, after, some (j, true)⟩ :: l, k, ρ, dec⟩ (fun b v => putK dst b v ρ dec fun ρ dec => adv T n m ⟨all, l, k, ρ, dec⟩)
            | .bool false, false => stepK T n ρ dec op ⟨all, ⟨dst, op, ty, pos, after, some (j, false)⟩ :: l, k, ρ, dec⟩ (fun b v => putK dst b v ρ dec fun ρ dec => adv T n m ⟨all, l, k, ρ, dec⟩)
            | .bool true, false => putK dst true undef ρ dec fun ρ dec => adv T n m ⟨all, l, k, ρ, dec⟩
            | .bool false, true => putK dst true undef ρ dec fun ρ dec => adv T n m ⟨all, l, k, ρ, dec⟩
            | v, want => match isB v with
              | true => ⟨all, ⟨dst, op, ty, pos, after, some (j, want)⟩ :: l, k, ρ, dec⟩
              | false => putK dst true undef ρ dec fun ρ dec => adv T n m ⟨all, l, k, ρ, dec⟩
def AtC (P : Program) (n : Nat) (R : Env → World → Prop) (fr : Fra) (c : Cfg) (w : World) : Prop := At P n R fr c.all c.l c.k c.ρ c.dec w

section
variable {P : Program} {n : Nat} {R : Env → World → Prop} {fr : Fra} {all : Array Oper} {l : List Oper} {k : List It} {ρ : Env} {dec : List Nat} {w : World} {o : Oper}
theorem At.list (h : At P n R fr all l k ρ dec w) : wpListIn (fen fr.1) 0 P all (Lq P n R fr.1 k) l (F fr.2 n ρ) w := by
  cases l with
  | nil => exact ⟨ρ, _, rfl, h⟩
  | cons o l => exact h
theorem yield_eq {ds : List Deferred} (j : Nat) : yielded all (F ds n ρ).tmps j = match dstL all.toList j with
    | none => none
    | some t => match ev n ρ (.tmp t) with
      | .bool b => some b
      | _ => none := by
  unfold yielded
  rw [dstL_eq]
  have e : (all.toList[j]?).bind (·.dst) = (all[j]?).bind (·.dst) := by simp
  rw [e]
  cases (all[j]?).bind (·.dst) with
  | none => rfl
  | some t =>
    simp only [Option.bind_some, F_get, ev]
    by_cases h : t < n
    · have : Nat.blt t n = true := Nat.blt_eq.mpr h
      simp only [h, if_true, this, cond_true]
      cases ρ t <;> rfl
    · have : Nat.blt t n = false := by
        rw [Bool.eq_false_iff]
        exact fun e => h (Nat.blt_eq.mp e)
      simp [h, this, undef]
def wantB (n : Nat) (ρ : Env) (all : Array Oper) (o : Oper) : Bool :=
  match o.guard with
  | none => true
  | some (j, want) => match dstL all.toList j with
    | none => false
    | some t => match ev n ρ (.tmp t), want with
      | .bool true, true => true
      | .bool false, false => true
      | _, _ => false
theorem want_eq {ds : List Deferred} : Region.wanted o (yielded all (F ds n ρ).tmps) = wantB n ρ all o := by
  unfold Region.wanted wantB
  cases o.guard with
  | none => rfl
  | some p =>
    obtain ⟨j, want⟩ := p
    simp only [yield_eq]
    cases dstL all.toList j with
    | none => rfl
    | some t =>
      simp only
      generalize ev n ρ (.tmp t) = v
      cases v <;> try rfl
      rename_i b
      cases b <;> cases want <;> rfl
theorem op_step (hw : wantB n ρ all o = true) (h : o.uponIn (fen fr.1) 0 P (F fr.2 n ρ) (fun a' w' => ∃ ρ', a' = F fr.2 n ρ' ∧ wpListIn (fen fr.1) 0 P all (Lq P n R fr.1 k) l (F fr.2 n ρ') w') (Lq P n R fr.1 k) ((o.semAt fr.1 (F fr.2 n ρ).eval).run P w)) : At P n R fr all (o :: l) k ρ dec w := by
  show wpListIn (fen fr.1) 0 P all (Lq P n R fr.1 k) (o :: l) (F fr.2 n ρ) w
  unfold wpListIn
  rw [want_eq, hw, if_pos rfl]
  refine Oper.wpIn_mono (fun a' w' h' => ?_) ⟨fun _ _ => trivial, h⟩
  obtain ⟨ρ', rfl, h'⟩ := h'
  exact h'
theorem op_val {v : Value} {w' : World} (hw : wantB n ρ all o = true) (hr : (execOp (ev n ρ) o).run P w = .ok (.value v) w') {dec' : List Nat}
    (h : At P n R fr all l k (updo ρ o.dst v) dec' w') : At P n R fr all (o :: l) k ρ dec w := by
  refine op_step hw ?_
  rw [F_eval, sem_val hr]
  exact ⟨_, F_put _ _ _ _, h.list⟩
theorem op_skip {w' : World} (hw : wantB n ρ all o = true) (hr : (execOp (ev n ρ) o).run P w = .ok .skip w') {dec' : List Nat}
    (h : At P n R fr all l k (updo ρ o.dst undef) dec' w') : At P n R fr all (o :: l) k ρ dec w := by
  refine op_step hw ?_
  rw [F_eval, sem_skip hr]
  exact ⟨_, F_put _ _ _ _, h.list⟩
theorem op_pass (hw : wantB n ρ all o = false) {dec' : List Nat} (h : At P n R fr all l k (updo ρ o.dst undef) dec' w) : At P n R fr all (o :: l) k ρ dec w := by
  show wpListIn (fen fr.1) 0 P all (Lq P n R fr.1 k) (o :: l) (F fr.2 n ρ) w
  unfold wpListIn
  rw [want_eq, hw, if_neg (by simp), F_put]
  exact ⟨fun _ _ => trivial, h.list⟩

theorem at_code {c : Code} (h : c.wpIn (fen fr.1) 0 P (Lq P n R fr.1 k) (F fr.2 n ρ) w) : At P n R fr all [] (.code c :: k) ρ dec w := h
theorem seq_ok {a b : Code} (h : (dn P n R fr.1 (.code a :: .code b :: k)).N fr.2 ρ w) : (dn P n R fr.1 (.code (.seq a b) :: k)).N fr.2 ρ w := by
  show (Code.seq a b).wpIn (fen fr.1) 0 P (Lq P n R fr.1 k) (F fr.2 n ρ) w
  refine wpIn_seq (wpIn_mono (c := a) h ?_)
  intro e a' w' h'
  cases e with
  | normal =>
    obtain ⟨ρ', ds', rfl, h'⟩ := h'
    exact h'
  | exit id => exact h'
  | goto l => exact h'
  | ret => exact h'
  | panic c => exact h'
  | outgrown => exact h'
theorem blk_ok {id : Nat} {c : Code} (h : (dn P n R fr.1 (.code c :: .blk id :: k)).N fr.2 ρ w) : (dn P n R fr.1 (.code (.block id c) :: k)).N fr.2 ρ w := by
  show (Code.block id c).wpIn (fen fr.1) 0 P (Lq P n R fr.1 k) (F fr.2 n ρ) w
  refine wpIn_block (wpIn_mono (c := c) h ?_)
  intro e a' w' h'
  cases e with
  | normal => exact h'
  | exit j =>
    obtain ⟨ρ', ds', rfl, h'⟩ := h'
    simp only [dn] at h'
    simp only [Exit.inBlock]
    by_cases hj : j = id
    · rw [if_pos hj] at h' ⊢
      exact ⟨ρ', _, rfl, h'⟩
    · rw [if_neg hj] at h' ⊢
      exact ⟨ρ', _, rfl, h'⟩
  | goto l => exact h'
  | ret => exact h'
  | panic c => exact h'
  | outgrown => exact h'
theorem exit_ok {id : Nat} {k' : List It} (he : exitOf id k = some k') (h : (dn P n R fr.1 k').N fr.2 ρ w) : (dn P n R fr.1 (.code (.exit id) :: k)).N fr.2 ρ w := by
  show (Code.exit id).wpIn (fen fr.1) 0 P (Lq P n R fr.1 k) (F fr.2 n ρ) w
  refine wpIn_exit ⟨ρ, _, rfl, ?_⟩
  rw [dn_exit he]
  exact h
theorem region_ok {id : Nat} {ops : Array Oper} {dec' : List Nat} (h : At P n R fr ops ops.toList k ρ dec' w) : (dn P n R fr.1 (.code (.region id ops false) :: k)).N fr.2 ρ w := by
  show (Code.region id ops false).wpIn (fen fr.1) 0 P (Lq P n R fr.1 k) (F fr.2 n ρ) w
  exact wpIn_region_list h.list
theorem skip_ok (h : (dn P n R fr.1 k).N fr.2 ρ w) : (dn P n R fr.1 (.code .skip :: k)).N fr.2 ρ w := by
  show Code.skip.wpIn (fen fr.1) 0 P (Lq P n R fr.1 k) (F fr.2 n ρ) w
  exact wpIn_skip ⟨ρ, _, rfl, h⟩
theorem cond_ok {c : Operand} {x y : Code} {b : Bool} (hc : ev n ρ c = .bool b) (h : (dn P n R fr.1 (.code (if b then x else y) :: k)).N fr.2 ρ w) : (dn P n R fr.1 (.code (.cond c x y) :: k)).N fr.2 ρ w := by
  show (Code.cond c x y).wpIn (fen fr.1) 0 P (Lq P n R fr.1 k) (F fr.2 n ρ) w
  exact wpIn_cond (by rw [F_eval]; exact hc) h
theorem ret_ok (h : Out R fr.2 ρ w) : (dn P n R fr.1 (.code .ret :: k)).N fr.2 ρ w := by
  show Code.ret.wpIn (fen fr.1) 0 P (Lq P n R fr.1 k) (F fr.2 n ρ) w
  exact wpIn_ret ⟨ρ, rfl, h⟩

theorem want_isB {j t : Nat} {want : Bool} {d : Option Nat} {op : Op} {ty : TypeId} {pos : String} {af : Array _} (ht : dstL all.toList j = some t) (hb : isB (ev n ρ (.tmp t)) = false) : wantB n ρ all ⟨d, op, ty, pos, af, some (j, want)⟩ = false := by
  unfold wantB
  simp only [ht]
  cases hv : ev n ρ (.tmp t) <;> first | rfl | (rw [hv] at hb; cases hb)
theorem step_ok {T : Tab} (hT : tabOk P T = true) {m : Nat} {c0 : Cfg} (ih : ∀ (c : Cfg) (w : World), AtC P n R fr (adv T n m c) w → AtC P n R fr c w) (hw : wantB n ρ all o = true)
    (h : AtC P n R fr (stepK T n ρ dec o.op c0 (fun b v => putK o.dst b v ρ dec fun ρ dec => adv T n m ⟨all, l, k, ρ, dec⟩)) w)
    (h0 : AtC P n R fr c0 w → At P n R fr all (o :: l) k ρ dec w) : At P n R fr all (o :: l) k ρ dec w := by
  refine stepK_elim hT (G := fun c => AtC P n R fr c w) (C := At P n R fr all (o :: l) k ρ dec w) h h0 ?_
  intro d v hv hk
  refine putK_elim (G := fun c => AtC P n R fr c w) hk ?_
  intro dec' hk
  exact op_val hw (hv o rfl w) (ih _ _ hk)
theorem adv_sound {T : Tab} (hT : tabOk P T = true) : ∀ (m : Nat) (c : Cfg) (w : World), AtC P n R fr (adv T n m c) w → AtC P n R fr c w := by
  intro m
  induction m with
  | zero => intro c w h; exact h
  | succ m ih =>
    rintro ⟨all, l, k, ρ, dec⟩ w h
    unfold adv at h
    split at h
    · split at h
      · exact h
      · exact h
      · have h2 := ih _ _ h
        exact h2
      · split at h
        · exact skip_ok (ih _ _ h)
        · exact seq_ok (ih _ _ h)
        · exact blk_ok (ih _ _ h)
        · exact region_ok (dec' := []) (ih ⟨_, _, _, _, _⟩ _ h)
        · split at h
          · rename_i he
            exact exit_ok he (ih _ _ h)
          · exact h
        · split at h
          · exact h
          · split at h
            · rename_i hc
              exact cond_ok hc (ih _ _ h)
            · rename_i hc
              exact cond_ok hc (ih _ _ h)
            · exact h
        · exact h
    · split at h
      · exact step_ok (o := ⟨_, _, _, _, _, none⟩) hT ih rfl h id
      · rename_i j want
        split at h
        · exact h
        · rename_i t ht
          split at h
          · exact h
          · split at h
            · rename_i hv
              exact step_ok (o := ⟨_, _, _, _, _, some (j, true)⟩) hT ih (by simp [wantB, ht, hv]) h id
            · rename_i hv
              exact step_ok (o := ⟨_, _, _, _, _, some (j, false)⟩) hT ih (by simp [wantB, ht, hv]) h id
            · rename_i hv
              refine putK_elim (G := fun c => AtC P n R fr c w) h ?_
              intro dec' h
              exact op_pass (o := ⟨_, _, _, _, _, some (j, false)⟩) (by simp [wantB, ht, hv]) (ih _ _ h)
            · rename_i hv
              refine putK_elim (G := fun c => AtC P n R fr c w) h ?_
              intro dec' h
              exact op_pass (o := ⟨_, _, _, _, _, some (j, true)⟩) (by simp [wantB, ht, hv]) (ih _ _ h)
            · split at h
              · exact h
              · rename_i hb
                refine putK_elim (G := fun c => AtC P n R fr c w) h ?_
                intro dec' h
                exact op_pass (o := ⟨_, _, _, _, _, some (j, _)⟩) (want_isB ht hb) (ih _ _ h)
end

/-! ### The moves -/
section
variable {P : Program} {n : Nat} {R : Env → World → Prop} {fr : Fra} {all : Array Oper} {l : List Oper} {k : List It} {ρ : Env} {dec : List Nat} {w : World} {o : Oper}
/-- walk on by computation, as far as it goes -/
theorem go {T : Tab} (hT : tabOk P T = true) (m : Nat) {all' : Array Oper} {l' : List Oper} {k' : List It} {ρ' : Env} {dec' : List Nat}
    (h : adv T n m ⟨all, l, k, ρ, dec⟩ = ⟨all', l', k', ρ', dec'⟩) (h2 : At P n R fr all' l' k' ρ' dec' w) : At P n R fr all l k ρ dec w := by
  refine adv_sound hT m ⟨all, l, k, ρ, dec⟩ w ?_
  rw [h]
  exact h2
theorem keepS {l' : List (Nat × Value)} (hl : Pins l' ρ) (h : ∀ τ, At P n R fr all l k (pin l' τ) dec w) : At P n R fr all l k ρ dec w :=
  keep (G := fun ρ => At P n R fr all l k ρ dec w) l' hl h
/-- a test -/
theorem cond {c : Operand} {x y : Code} {b : Bool} (hb : ev n ρ c = .bool b) (ht : b = true → At P n R fr all [] (.code x :: k) ρ dec w) (hf : b = false → At P n R fr all [] (.code y :: k) ρ dec w) :
    At P n R fr all [] (.code (.cond c x y) :: k) ρ dec w := by
  cases b with
  | true => exact cond_ok hb (ht rfl)
  | false => exact cond_ok hb (hf rfl)
theorem condD {c : Operand} {x y : Code} {p : Prop} [Decidable p] (hb : ev n ρ c = .bool (decide p)) (ht : p → At P n R fr all [] (.code x :: k) ρ dec w) (hf : ¬p → At P n R fr all [] (.code y :: k) ρ dec w) :
    At P n R fr all [] (.code (.cond c x y) :: k) ρ dec w :=
  cond hb (fun h => ht (of_decide_eq_true h)) (fun h => hf (of_decide_eq_false h))
theorem condT {c : Operand} {x y : Code} {b : Bool} (hb : ev n ρ c = .bool b) (h : b = true) (ht : At P n R fr all [] (.code x :: k) ρ dec w) :
    At P n R fr all [] (.code (.cond c x y) :: k) ρ dec w := cond_ok hb (by rw [h]; exact ht)
theorem condF {c : Operand} {x y : Code} {b : Bool} (hb : ev n ρ c = .bool b) (h : b = false) (ht : At P n R fr all [] (.code y :: k) ρ dec w) :
    At P n R fr all [] (.code (.cond c x y) :: k) ρ dec w := cond_ok hb (by rw [h]; exact ht)
theorem ret (h : R ρ w) (hd : fr.2 = [] := by rfl) : At P n R fr all [] (.code .ret :: k) ρ dec w := ret_ok (by rw [hd]; exact h)
/-- a return behind a range over a function -/
theorem retM {D : Nat} {as : Array Value} (hd : fr.2 = [{ target := .collected D, args := as }]) (hk : w.heap[D]? = some (.deferred (some []))) (h : R ρ (w.putObj D (.deferred none))) : At P n R fr all [] (.code .ret :: k) ρ dec w :=
  ret_ok (by rw [hd]; exact ⟨D, rfl, hk, h⟩)
theorem fin (h : R ρ w) (hd : fr.2 = [] := by rfl) : At P n R fr all [] [] ρ dec w := by
  show Out R fr.2 ρ w
  rw [hd]; exact h
theorem round {J : Env → World → Prop} (h : J ρ w) : At P n R fr all [] (.lp fr.2 J :: k) ρ dec w := ⟨rfl, h⟩
/-- a guard: its Bool is told apart -/
theorem guard {j : Nat} {want : Bool} {t : Nat} {b : Bool} (_hg : o.guard = some (j, want)) (_ht : dstL all.toList j = some t) (hb : ev n ρ (.tmp t) = .bool b)
    (hT : b = true → At P n R fr all (o :: l) k (upd ρ t (.bool true)) (t :: dec) w) (hF : b = false → At P n R fr all (o :: l) k (upd ρ t (.bool false)) (t :: dec) w) :
    At P n R fr all (o :: l) k ρ dec w := by
  have e : ρ t = .bool b := by
    simp only [ev] at hb
    cases hn : Nat.blt t n with
    | true => rw [hn] at hb; exact hb
    | false => rw [hn] at hb; cases hb
  have e2 : upd ρ t (.bool b) = ρ := by rw [← e]; exact upd_self _ _
  cases b with
  | true => have := hT rfl; rw [e2] at this; exact this
  | false => have := hF rfl; rw [e2] at this; exact this
theorem guardD {j : Nat} {want : Bool} {t : Nat} {p : Prop} [Decidable p] (hg : o.guard = some (j, want)) (ht : dstL all.toList j = some t) (hb : ev n ρ (.tmp t) = .bool (decide p))
    (hT : p → At P n R fr all (o :: l) k (upd ρ t (.bool true)) (t :: dec) w) (hF : ¬p → At P n R fr all (o :: l) k (upd ρ t (.bool false)) (t :: dec) w) :
    At P n R fr all (o :: l) k ρ dec w :=
  guard hg ht hb (fun h => hT (of_decide_eq_true h)) (fun h => hF (of_decide_eq_false h))
/-- a guard that is a negation -/
theorem guardN {j : Nat} {want : Bool} {t : Nat} {b : Bool} (hg : o.guard = some (j, want)) (ht : dstL all.toList j = some t) (hb : ev n ρ (.tmp t) = .bool (!b))
    (hT : b = false → At P n R fr all (o :: l) k (upd ρ t (.bool true)) (t :: dec) w) (hF : b = true → At P n R fr all (o :: l) k (upd ρ t (.bool false)) (t :: dec) w) :
    At P n R fr all (o :: l) k ρ dec w :=
  guard hg ht hb (fun h => hT (by simpa using h)) (fun h => hF (by simpa using h))

/-- a loop: s: the slots that are named; V: what they hold in a state x; μ goes down -/
theorem loop {α : Type} {body : Code} (s : List Nat) (V : α → List Value) (I : α → World → Prop) (μ : α → Nat) (x0 : α) (hlen : ∀ x, (V x).length = s.length)
    (h0 : s.map ρ = V x0) (hI : I x0 w)
    (hr : ∀ x τ w, I x w → At P n R fr #[] [] (.code body :: .lp fr.2 (fun ρ' w' => ∃ y, s.map ρ' = V y ∧ I y w' ∧ μ y < μ x) :: k) (pin (s.zip (V x)) τ) [] w) :
    At P n R fr all [] (.code (.loop body) :: k) ρ dec w := by
  show (Code.loop body).wpIn (fen fr.1) 0 P (Lq P n R fr.1 k) (F fr.2 n ρ) w
  classical
  have hpins : ∀ (s : List Nat) (vs : List Value) (ρ : Env), vs.length = s.length → s.map ρ = vs → Pins (s.zip vs) ρ := by
    intro s
    induction s with
    | nil => intro vs ρ hl h; cases vs <;> trivial
    | cons i s ih =>
      intro vs ρ hl h
      cases vs with
      | nil => simp at hl
      | cons v vs =>
        simp only [List.map_cons, List.cons.injEq] at h
        exact ⟨h.1, ih vs ρ (by simpa using hl) h.2⟩
  let M : Act → World → Prop := fun a w => ∃ ρ x, a = F fr.2 n ρ ∧ s.map ρ = V x ∧ I x w
  let Mm : Nat → Act → World → Prop := fun m a w => ∃ ρ x, a = F fr.2 n ρ ∧ s.map ρ = V x ∧ I x w ∧ μ x = m
  -- by the least measure
  have hmin : ∀ a w, M a w → ∃ m, Mm m a w ∧ ∀ m', Mm m' a w → m ≤ m' := by
    intro a w ⟨ρ, x, h1, h2, h3⟩
    have hex : ∃ m, Mm m a w := ⟨μ x, ρ, x, h1, h2, h3, rfl⟩
    have key : ∀ b, (∃ m, m ≤ b ∧ Mm m a w) → ∃ m, Mm m a w ∧ ∀ m', Mm m' a w → m ≤ m' := by
      intro b
      induction b with
      | zero => intro ⟨m, hm, h⟩; exact ⟨m, h, fun m' _ => by omega⟩
      | succ b ih =>
        intro ⟨m, hm, h⟩
        by_cases hh : ∃ m', m' ≤ b ∧ Mm m' a w
        · exact ih hh
        · refine ⟨m, h, fun m' h' => ?_⟩
          rcases Nat.lt_or_ge b m' with h1 | h1
          · omega
          · exact absurd ⟨m', h1, h'⟩ hh
    obtain ⟨m, hm⟩ := hex
    exact key m ⟨m, Nat.le_refl _, hm⟩
  let meas : Act → World → Nat := fun a w => if h : ∃ m, Mm m a w ∧ ∀ m', Mm m' a w → m ≤ m' then Classical.choose h else 0
  refine wpIn_loop M meas ⟨ρ, x0, rfl, h0, hI⟩ ?_
  intro a w hM
  have hm := hmin a w hM
  have hch := Classical.choose_spec hm
  have hmeas : meas a w = Classical.choose hm := by
    show dite _ _ _ = _
    rw [dif_pos hm]
  generalize Classical.choose hm = m at hch hmeas
  obtain ⟨⟨ρ, x, rfl, h2, h3, h4⟩, _⟩ := hch
  have hb := hr x ρ w h3
  rw [pin_of (hpins s (V x) ρ (hlen x) h2)] at hb
  refine wpIn_mono (c := body) hb ?_
  intro e a' w' h'
  cases e with
  | normal =>
    obtain ⟨ρ', ds', rfl, rfl, y, g1, g2, g3⟩ := h'
    have hM' : M (F fr.2 n ρ') w' := ⟨ρ', y, rfl, g1, g2⟩
    have hm' := hmin _ _ hM'
    have hle : meas (F fr.2 n ρ') w' ≤ μ y := by
      have e : meas (F fr.2 n ρ') w' = Classical.choose hm' := by
        show dite _ _ _ = _
        rw [dif_pos hm']
      rw [e]
      exact (Classical.choose_spec hm').2 _ ⟨ρ', y, rfl, g1, g2, rfl⟩
    exact ⟨hM', by omega⟩
  | exit id => exact h'
  | goto l => exact h'
  | ret => exact h'
  | panic c => exact h'
  | outgrown => exact h'

/-! ### Calls -/
def Ret (P : Program) (f : FuncId) (args : List Value) (w : World) (K : Value → World → Prop) : Prop := Calls P f args.toArray w fun e w' => ∃ v, e = .returned v ∧ K v w'
theorem Ret.mono {f : FuncId} {args : List Value} {K K' : Value → World → Prop} (h : Ret P f args w K) (hk : ∀ v w', K v w' → K' v w') : Ret P f args w K' :=
  Calls.mono h fun _ _ ⟨v, e, hv⟩ => ⟨v, e, hk _ _ hv⟩
def callable (P : Program) (f : FuncId) : Bool := match P.funcs[f]? with | some fn => fn.body.isSome && !(fn.name == "runtime.NumGoroutine") | none => false
theorem run_call {f : FuncId} {args : Array Value} (h : callable P f = true) : (callFunc f args).run P w = .ok (.enter f args) w := by
  unfold callable at h
  unfold callFunc
  cases hf : P.funcs[f]? with
  | none => rw [hf] at h; cases h
  | some fn =>
    rw [hf] at h
    simp only [Bool.and_eq_true, Bool.not_eq_true'] at h
    have h1 : fn.body ≠ none := by
      intro hb
      rw [hb] at h
      cases h.1
    have h2 : fn.name ≠ "runtime.NumGoroutine" := by simpa using h.2
    simp [hf, h2, h1]
theorem call {fo : Operand} {args : Array Operand} {tys : Array TypeId} {f : FuncId} {first cap : Array Value} {K : Value → World → Prop}
    (hw : wantB n ρ all o = true) (ho : o.op = .call { callee := .value fo, args := args, argTypes := tys }) (hf : ev n ρ fo = .func (.func f) first cap) (hok : callable P f = true)
    (hc : Ret P f (first.toList ++ (evs n ρ args.toList ++ cap.toList)) w K) (h : ∀ v w', K v w' → At P n R fr all l k (updo ρ o.dst v) dec w') : At P n R fr all (o :: l) k ρ dec w := by
  refine op_step hw ?_
  rw [Oper.semAt_eq fr.1 _ o (by intro c; rw [ho]; simp)]
  have e : (execOp (F fr.2 n ρ).eval o).run P w = .ok (.enter f (first.toList ++ (evs n ρ args.toList ++ cap.toList)).toArray) w := by
    rw [F_eval]
    have e1 : args.map (ev n ρ) = (evs n ρ args.toList).toArray := by apply Array.ext'; simp [← evs_map]
    have e2 : first ++ (evs n ρ args.toList).toArray ++ cap = (first.toList ++ (evs n ρ args.toList ++ cap.toList)).toArray := by apply Array.ext'; simp
    simp only [execOp, ho, resolve, hf, Deferred.ofValue, e1, Sem.run_bind, Sem.run_pure, Result.andThen_ok, invoke, run_call hok, e2]
  rw [e]
  refine ⟨fen_depth, ?_⟩
  show CallsIn Fence.wide 0 P f _ w _
  refine callsIn_wide.2 (Calls.mono hc ?_)
  rintro e w' ⟨v, rfl, hv⟩
  exact ⟨_, F_put _ _ _ _, (h v w' hv).list⟩
def argE (args : List Value) : Env := nthD args
def RetQ (P : Program) (fn : Func) (n : Nat) (K : Value → World → Prop) : Env → World → Prop := fun ρ w => ∃ v, (results fn (F [] n ρ).tmps).run P w = .ok v w ∧ K v w
theorem enter {f : FuncId} {fn : Func} {c : Code} {args : List Value} {K : Value → World → Prop} (hf : P.funcs[f]? = some fn) (hb : fn.body = some c) (hn : fn.ntmps = n) (ha : Nat.ble args.length n = true)
    (h : At P n (RetQ P fn n K) (none, []) #[] [] [.code c] (argE args) [] w) : Ret P f args w K := by
  refine callsIn_wide.1 (callsIn_of_wp_marks (F := Fence.wide) (n := 0) hf hb trivial ?_ rfl)
  have ha := Nat.le_of_ble_eq_true ha
  have e : ({ tmps := args.toArray ++ Array.replicate (fn.ntmps - args.toArray.size) undef, defers := [] } : Act) = F [] n (argE args) := by
    rw [hn]
    simp only [F, Act.mk.injEq, and_true]
    apply Array.ext'
    apply List.ext_getElem?
    intro i
    simp only [Array.toList_append, Array.toList_replicate, List.size_toArray, List.getElem?_map, argE]
    by_cases h1 : i < args.length
    · rw [List.getElem?_append_left h1, List.getElem?_range (by omega)]
      simp [nthD_eq, h1]
    · rw [List.getElem?_append_right (by omega), List.getElem?_replicate]
      by_cases h2 : i < n
      · rw [if_pos (by omega), List.getElem?_range h2]
        simp [nthD_eq, List.getElem?_eq_none (Nat.le_of_not_lt h1)]
      · rw [if_neg (by omega), List.getElem?_eq_none (by simpa using Nat.le_of_not_lt h2)]
        rfl
  rw [e]
  refine wpIn_mono (c := c) h ?_
  have key : ∀ (ds : List Deferred) (ρ' : Env) (w' : World), Out (RetQ P fn n K) ds ρ' w' → LeavesInM Fence.wide 0 P fn (F [] n ρ').tmps (fun e w' => ∃ v, e = .returned v ∧ K v w') ds .returning w' := by
    intro ds ρ' w' h
    cases ds with
    | nil =>
      obtain ⟨v, h1, h2⟩ := h
      exact ⟨v, h1, v, rfl, h2⟩
    | cons d ds =>
      cases ds with
      | nil =>
        obtain ⟨D, h1, h2, v, h3, h4⟩ := h
        exact ⟨by simp, .inl ⟨D, _, h1, run_takeDeferred h2, v, h3, v, rfl, h4⟩⟩
      | cons d' ds => exact h.elim
  intro e a' w' h'
  cases e with
  | normal =>
    obtain ⟨ρ', ds', rfl, h'⟩ := h'
    exact key ds' ρ' w' h'
  | exit id => obtain ⟨_, _, _, h'⟩ := h'; exact h'.elim
  | goto l => exact h'
  | ret =>
    obtain ⟨ρ', h1, h'⟩ := h'
    show LeavesInM Fence.wide 0 P fn a'.tmps _ a'.defers .returning w'
    rw [h1]
    exact key _ ρ' w' h'
  | panic c => exact h'.elim
  | outgrown => exact h'.elim
theorem ev_get {t : Nat} : (F [] n ρ).tmps.getD t undef = ev n ρ (.tmp t) := by
  rw [F_getD]
  simp only [ev]
  by_cases h : t < n
  · have : Nat.blt t n = true := Nat.blt_eq.mpr h
    simp [h, this]
  · have : Nat.blt t n = false := by
      rw [Bool.eq_false_iff]
      exact fun e => h (Nat.blt_eq.mp e)
    simp [h, this]
theorem ret0 {fn : Func} {K : Value → World → Prop} (hr : fn.results = #[]) (h : K (.tuple #[]) w) : RetQ P fn n K ρ w := ⟨_, by simp [results, hr], h⟩
theorem ret1 {fn : Func} {K : Value → World → Prop} {t : Nat} (hr : fn.results = #[.tmp t]) {v : Value} (hv : ev n ρ (.tmp t) = v) (h : K v w) : RetQ P fn n K ρ w :=
  ⟨v, by rw [results_tmp hr, ev_get, hv], h⟩
theorem ret2 {fn : Func} {K : Value → World → Prop} {t u : Nat} (hr : fn.results = #[.tmp t, .tmp u]) {v x : Value} (hv : ev n ρ (.tmp t) = v) (hx : ev n ρ (.tmp u) = x) (h : K (.tuple #[v, x]) w) : RetQ P fn n K ρ w :=
  ⟨_, by rw [results_tmp2 hr, ev_get, ev_get, hv, hx], h⟩
theorem ret3 {fn : Func} {K : Value → World → Prop} {t u s : Nat} (hr : fn.results = #[.tmp t, .tmp u, .tmp s]) {v x y : Value} (hv : ev n ρ (.tmp t) = v) (hx : ev n ρ (.tmp u) = x) (hy : ev n ρ (.tmp s) = y)
    (h : K (.tuple #[v, x, y]) w) : RetQ P fn n K ρ w :=
  ⟨_, by
    have e : ∀ i, (F [] n ρ).tmps[i]?.getD undef = ev n ρ (.tmp i) := fun i => by rw [← Array.getD_eq_getD_getElem?]; exact ev_get
    simp [results, hr, e, hv, hx, hy], h⟩
end
end Go.Ev
