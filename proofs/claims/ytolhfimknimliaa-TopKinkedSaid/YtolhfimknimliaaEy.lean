/- A step calculus over the kit's 'wp': equality of structs of ints. No statement about the program is in it. -/
import Derived.Laws.StructEq
import Derived.Test.YtolhfimknimliaaEx
namespace Go.Ev
open Go.RowKit
section
variable {P : Program}
def intTy (P : Program) (t : TypeId) : Bool := match P.underlying t with | some (.int _) => true | _ => false
def intFields (P : Program) : Nat → List Field → Bool
  | _, [] => true
  | i, f :: fs => intTy P f.type && (Nat.beq f.offset i && ((f.name != "_") && intFields P (i + 1) fs))
theorem eqFieldI (d : Nat) (xs ys : Array Value) (w : World) (f : Field) (fs : List Field) (hn : (f.name != "_") = true) (k : IntKind) (a b : Int) (hx : (part f.type xs f.offset).run P w = .ok (.int k a) w) (hy : (part f.type ys f.offset).run P w = .ok (.int k b) w)
    (hu : ∃ k', P.underlying f.type = some (.int k')) : (Op.eqFields (d + 1) xs ys (f :: fs)).run P w = if a = b then (Op.eqFields (d + 1) xs ys fs).run P w else .ok false w := by
  obtain ⟨k', hu⟩ := hu
  have hn : f.name ≠ "_" := by simpa using hn
  simp only [Op.eqFields, hn, ne_eq, not_false_eq_true, if_true, Sem.run_bind, hx, hy, Result.andThen_ok, run_equalIn_int w d f.type k k' a b hu]
  by_cases h : a = b <;> simp [h]
theorem partI (t : TypeId) {k' : IntKind} (hu : P.underlying t = some (.int k')) (xs : Array Value) (off : Nat) (v : Value) (h : xs[off]? = some v) (w : World) : (part t xs off).run P w = .ok v w := by
  have ha : aggB P t = false := by simp [aggB, hu]
  simp [part, run_isAgg _ _ hu, ha, h]
theorem eqInts (d : Nat) (w : World) : ∀ (fs : List Field) (i : Nat) (l m : List Int), intFields P i fs = true → l.length = i + fs.length → m.length = l.length →
    (Op.eqFields (d + 1) (l.map (Value.int .i64)).toArray (m.map (Value.int .i64)).toArray fs).run P w = .ok (l.drop i == m.drop i) w := by
  intro fs
  induction fs with
  | nil =>
    intro i l m _ hl hm
    rw [List.drop_eq_nil_of_le (by simp at hl; omega), List.drop_eq_nil_of_le (by simp at hl; omega)]
    simp [Op.eqFields]
  | cons f fs ih =>
    intro i l m hf hl hm
    simp only [intFields, Bool.and_eq_true] at hf
    obtain ⟨h1, h2, h3, h4⟩ := hf
    have h2 := Nat.eq_of_beq_eq_true h2
    simp only [List.length_cons] at hl
    have hil : i < l.length := by omega
    have him : i < m.length := by omega
    unfold intTy at h1
    split at h1
    · rename_i k' hu
      rw [eqFieldI d _ _ w f fs h3 .i64 l[i] m[i] (partI f.type hu _ _ _ (by rw [h2]; simp [hil]) w) (partI f.type hu _ _ _ (by rw [h2]; simp [him]) w) ⟨_, hu⟩]
      have dl : l.drop i = l[i] :: l.drop (i + 1) := List.drop_eq_getElem_cons hil
      have dm : m.drop i = m[i] :: m.drop (i + 1) := List.drop_eq_getElem_cons him
      rw [ih (i + 1) l m h4 (by omega) hm, dl, dm]
      generalize l.drop (i + 1) = l'
      generalize m.drop (i + 1) = m'
      by_cases e : l[i] = m[i]
      · rw [if_pos e, e]; simp
      · rw [if_neg e]
        have : (l[i] :: l' == m[i] :: m') = false := by
          rw [beq_eq_false_iff_ne]
          intro h
          injection h with h _
          exact e h
        rw [this]
    · cases h1
theorem run_equalInts (t : TypeId) (hS : P.underlying t = some (.struct (P.fieldsOf t))) (hp : P.stoodInHeld t = false) (hf : intFields P 0 (P.fieldsOf t).toList = true) (l m : List Int) (hl : Nat.beq l.length (P.fieldsOf t).toList.length = true) (hm : Nat.beq m.length (P.fieldsOf t).toList.length = true) (w : World) :
    (Op.equalIn 10000 t (.agg (l.map (Value.int .i64)).toArray) (.agg (m.map (Value.int .i64)).toArray)).run P w = .ok (l == m) w := by
  have hl := Nat.eq_of_beq_eq_true hl
  have hm := Nat.eq_of_beq_eq_true hm
  rw [show (10000 : Nat) = 9998 + 1 + 1 from rfl, run_equalIn_agg w (9998 + 1) t _ _ hS hp]
  have := eqInts (P := P) 9998 w (P.fieldsOf t).toList 0 l m hf (by omega) (by omega)
  simpa using this
/-- the facts on a struct type of ints -/
def eqStr (P : Program) (t : TypeId) (n : Nat) : Bool :=
  (match P.underlying t with | some (.struct _) => true | _ => false) && (!(P.stoodInHeld t) && (intFields P 0 (P.fieldsOf t).toList && (!(P.eqGuardType P.depth t) && Nat.beq (P.fieldsOf t).toList.length n)))
theorem eqStr_spec {t : TypeId} {n : Nat} (h : eqStr P t n = true) : P.underlying t = some (.struct (P.fieldsOf t)) ∧ P.stoodInHeld t = false ∧ intFields P 0 (P.fieldsOf t).toList = true ∧ P.eqGuardType P.depth t = false ∧ (P.fieldsOf t).toList.length = n := by
  simp only [eqStr, Bool.and_eq_true, Bool.not_eq_true'] at h
  obtain ⟨h1, h2, h3, h4, h5⟩ := h
  refine ⟨?_, h2, h3, h4, Nat.eq_of_beq_eq_true h5⟩
  split at h1
  · rename_i fs hu
    rw [hu]
    simp [Program.fieldsOf, hu]
  · cases h1
theorem r_eqS {n : Nat} {ρ : Env} {w : World} {o : Oper} {x y : Operand} {t ty : TypeId} {l m : List Int} (ho : o.op = .binOp .eql t x y ty) (ht : eqStr P t l.length = true) (hlm : m.length = l.length) (hx : ev n ρ x = .agg (l.map (Value.int .i64)).toArray) (hy : ev n ρ y = .agg (m.map (Value.int .i64)).toArray) :
    (execOp (ev n ρ) o).run P w = .ok (.value (.bool (l == m))) w := by
  obtain ⟨h1, h2, h3, h4, h5⟩ := eqStr_spec ht
  simp only [execOp, ho, hx, hy, Sem.run_bind, run_eqGuard_agg w .eql t x y _ _ h4, Result.andThen_ok, run_eql_struct, run_equalInts t h1 h2 h3 l m (by rw [h5]; simp) (by rw [h5, hlm]; simp), Sem.run_pure]
theorem r_neqS {n : Nat} {ρ : Env} {w : World} {o : Oper} {x y : Operand} {t ty : TypeId} {l m : List Int} (ho : o.op = .binOp .neq t x y ty) (ht : eqStr P t l.length = true) (hlm : m.length = l.length) (hx : ev n ρ x = .agg (l.map (Value.int .i64)).toArray) (hy : ev n ρ y = .agg (m.map (Value.int .i64)).toArray) :
    (execOp (ev n ρ) o).run P w = .ok (.value (.bool (!(l == m)))) w := by
  obtain ⟨h1, h2, h3, h4, h5⟩ := eqStr_spec ht
  simp only [execOp, ho, hx, hy, Sem.run_bind, run_eqGuard_agg w .neq t x y _ _ h4, Result.andThen_ok, run_neq_struct, run_equalInts t h1 h2 h3 l m (by rw [h5]; simp) (by rw [h5, hlm]; simp), Sem.run_pure]
end
end Go.Ev
