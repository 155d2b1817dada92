/- From the data of a row to the calculus: arguments of any type of ints, bools, structs, arrays and slices. No statement about the program is in it. -/
import Derived.WalkKit
import Derived.ProofKit
import Derived.OpenShut
import Derived.Carry
import Derived.Test.YtolhfimknimliaaE2
namespace Go.Ev
open Go.ChangeShapes Go.WideShapes Go.ChangeAt Go.RowKit
theorem bd_i64 {a : Int} (w : (Lit.int .i64 a).wf = true) : -9223372036854775808 ≤ a ∧ a ≤ 9223372036854775807 := by
  have hmin : IntKind.i64.min = -9223372036854775808 := by decide
  have hmax : IntKind.i64.max = 9223372036854775807 := by decide
  simp [Lit.wf, hmin, hmax] at w
  omega
theorem adr_add (a : Addr) (m n : Nat) : (a.add m).add n = a.add (m + n) := by
  obtain ⟨b, o, s⟩ := a
  unfold Addr.add
  by_cases h1 : m = 0
  · subst h1; simp
  · by_cases h2 : n = 0
    · subst h2; simp [h1]
    · simp [h1, h2, Nat.add_assoc]
abbrev I64 (x : Int) : Prop := -9223372036854775808 ≤ x ∧ x ≤ 9223372036854775807
/-- a slice that came in: where it lies, what it has, its capacity -/
structure Sli (α : Type) where
  A : Option Addr
  l : List α
  c : Nat
section
variable {H : Type} {enc : TypeId × Value → H} {P : Program} {w : World} {t e : TypeId} {α β : Type} {f : α → List Value} {Q : α → Prop}
/-- what reads as data of type t has the cells f a, with Q a -/
def Opn (enc : TypeId × Value → H) (P : Program) (w : World) (t : TypeId) (f : α → List Value) (Q : α → Prop) : Prop :=
  ∀ (fuel : Nat) (cs : List Value) (x : DataW H × List MemPlace), DataW.trod enc P w 0 (fun _ => true) true fuel t cs = some x → ∃ a, cs = f a ∧ Q a
theorem opn_int (ht : P.underlying t = some (.int .i64)) : Opn enc P w t (fun x : Int => [.int .i64 x]) I64 := by
  intro fuel cs x h
  obtain ⟨n, rfl, _, hw⟩ := DataW.trod_int ht h
  exact ⟨n, rfl, bd_i64 hw⟩
theorem opn_bool (ht : P.underlying t = some .bool) : Opn enc P w t (fun x : Bool => [.bool x]) (fun _ => True) := by
  intro fuel cs x h
  obtain ⟨n, rfl, _⟩ := DataW.trod_bool ht h
  exact ⟨n, rfl, trivial⟩
theorem Opn.to {g : β → List Value} {Q' : β → Prop} (h : Opn enc P w t f Q) (m : α → β) (hm : ∀ a, Q a → f a = g (m a) ∧ Q' (m a)) : Opn enc P w t g Q' := by
  intro fuel cs x hx
  obtain ⟨a, rfl, hq⟩ := h fuel cs x hx
  exact ⟨m a, (hm a hq).1, (hm a hq).2⟩
def SliOk (w : World) (sz : Nat) (f : α → List Value) (Q : α → Prop) (s : Sli α) : Prop :=
  s.l.length ≤ s.c ∧ s.c ≤ maxLen ∧ Sl w w.heap.size sz s.A s.l.length (s.l.flatMap f) ∧ ∀ a ∈ s.l, Q a
theorem SliOk.ml {sz : Nat} {s : Sli α} (h : SliOk w sz f Q s) : s.l.length ≤ maxLen := Nat.le_trans h.1 h.2.1
theorem opn_slice {sz : Nat} (ht : P.underlying t = some (.slice e)) (hc : P.cellsOf e = sz) (h0 : 0 < sz) (he : Opn enc P w e f Q) (hf : ∀ a, (f a).length = sz) :
    Opn enc P w t (fun s : Sli α => [.slice s.A s.l.length s.c]) (SliOk w sz f Q) := by
  intro fuel cs x h
  rcases DataW.trod_slice ht h with ⟨rfl, _⟩ | ⟨a, len, cap, elems, rest, n, _, rfl, _, _, hl, hm, hlen, hel, _, _⟩
  · exact ⟨⟨none, [], 0⟩, rfl, Nat.le_refl _, Nat.zero_le _, by simp [Sl], fun a h => by cases h⟩
  · rw [hc] at hel
    have key : ∀ i : Fin len, ∃ y : α, w.cells? 0 (a.add (i.1 * sz)) sz = some (f y) ∧ Q y := by
      intro i
      have h1 := hel i.1 i.2
      rw [List.getElem?_eq_getElem (by omega : i.1 < elems.length)] at h1
      obtain ⟨cs', h2, h3⟩ := Option.bind_eq_some_iff.1 h1
      obtain ⟨y, rfl, hq⟩ := he _ _ _ h3
      exact ⟨y, h2, hq⟩
    let xs : List α := List.ofFn fun i : Fin len => Classical.choose (key i)
    have hxl : xs.length = len := by simp [xs]
    have hx : ∀ i (hi : i < len), ∃ y, xs[i]? = some y ∧ w.cells? 0 (a.add (i * sz)) sz = some (f y) ∧ Q y := by
      intro i hi
      refine ⟨Classical.choose (key ⟨i, hi⟩), ?_, (Classical.choose_spec (key ⟨i, hi⟩)).1, (Classical.choose_spec (key ⟨i, hi⟩)).2⟩
      simp [xs, hi]
    refine ⟨⟨some a, xs, cap⟩, by simp only [hxl], by show xs.length ≤ cap; rw [hxl]; exact hl, hm, ⟨flat_len hf xs, Nat.le_refl _, fun hp => ?_⟩, fun y hy => ?_⟩
    · obtain ⟨b, o, s⟩ := a
      have cellE : ∀ i r, i < len → r < sz → ∀ v, (xs.flatMap f)[i * sz + r]? = some v → w.cell? ((Addr.mk b o s).add (i * sz + r)) = some v := by
        intro i r hi hr v hv
        obtain ⟨y, hy, hcl, _⟩ := hx i hi
        have h5 := (World.cells?_some hcl).2.2 r hr
        obtain ⟨u, hu⟩ : ∃ u, (f y)[r]? = some u := ⟨_, List.getElem?_eq_getElem (by rw [hf]; exact hr)⟩
        have hg := flat_get hf xs i y r u hy hu
        rw [hg] at hv
        cases hv
        rw [hu] at h5
        rw [← h5]
        congr 1
        exact (adr_add _ _ _).symm
      have hlen0 : 0 < len := by rw [← hxl]; exact hp
      obtain ⟨y0, hy0, hc0, _⟩ := hx 0 hlen0
      have hblk : b < w.heap.size := by
        have := World.cells?_block hc0 h0
        simpa [Addr.add] using this
      obtain ⟨v0, hv0⟩ : ∃ v, (f y0)[0]? = some v := ⟨_, List.getElem?_eq_getElem (by rw [hf]; exact h0)⟩
      have hfirst := cellE 0 0 hlen0 h0 v0 (flat_get hf xs 0 y0 0 v0 hy0 hv0)
      have hs : s = none := by
        cases s with
        | none => rfl
        | some y =>
          exfalso
          simp only [World.cell?, Addr.add] at hfirst
          split at hfirst <;> simp at hfirst
      subst hs
      refine ⟨b, o, rfl, hblk, fun j v hv => ?_⟩
      have hj : j < len * sz := by
        have := (List.getElem?_eq_some_iff.1 hv).1
        rw [flat_len hf, hxl] at this
        exact this
      have hq : j / sz < len := Nat.div_lt_of_lt_mul (by rw [Nat.mul_comm]; exact hj)
      have hr : j % sz < sz := Nat.mod_lt _ h0
      have hjj : j / sz * sz + j % sz = j := Nat.div_add_mod' j sz
      have := cellE (j / sz) (j % sz) hq hr v (by rw [hjj]; exact hv)
      rw [hjj] at this
      rw [← Addr.add_mid]
      exact this
    · obtain ⟨i, hi, rfl⟩ := List.getElem_of_mem hy
      have hi : i < xs.length := hi
      obtain ⟨y, hy, _, hq⟩ := hx i (by omega)
      rw [List.getElem?_eq_getElem hi] at hy
      cases hy
      exact hq
/-- the rest of a struct's fields, from cell o on -/
def OpF (enc : TypeId × Value → H) (P : Program) (w : World) (total : Nat) (fs : List Field) (o : Nat) (f : α → List Value) (Q : α → Prop) : Prop :=
  ∀ (fuel : Nat) (cs : List Value), cs.length = total → (∀ g ∈ fs, ∃ x, DataW.trod enc P w 0 (fun _ => true) true fuel g.type ((cs.drop g.offset).take (P.cellsOf g.type)) = some x) → ∃ a, cs.drop o = f a ∧ Q a
theorem opF_nil (total o : Nat) (h : total = o) : OpF enc P w total [] o (fun _ : Unit => []) (fun _ => True) := by
  intro fuel cs hl _
  exact ⟨(), List.drop_eq_nil_of_le (by omega), trivial⟩
theorem opF_cons {total : Nat} {g : Field} {fs : List Field} {o sz : Nat} {f' : β → List Value} {Q' : β → Prop} (h : Opn enc P w g.type f Q) (ho : g.offset = o) (hc : P.cellsOf g.type = sz) (hr : OpF enc P w total fs (o + sz) f' Q') :
    OpF enc P w total (g :: fs) o (fun p : α × β => f p.1 ++ f' p.2) (fun p => Q p.1 ∧ Q' p.2) := by
  intro fuel cs hl ha
  obtain ⟨x, hx⟩ := ha g (by simp)
  obtain ⟨a, h1, h2⟩ := h _ _ _ hx
  obtain ⟨b, h3, h4⟩ := hr fuel cs hl (fun g' hg' => ha g' (by simp [hg']))
  refine ⟨(a, b), ?_, h2, h4⟩
  rw [ho, hc] at h1
  show cs.drop o = f a ++ f' b
  rw [← h1, ← h3, ← List.drop_drop, List.take_append_drop]
theorem opn_struct {fs : Array Field} {n : Nat} (ht : P.underlying t = some (.struct fs)) (hc : P.cellsOf t = n) (h : OpF enc P w n fs.toList 0 f Q) : Opn enc P w t f Q := by
  intro fuel cs x hx
  obtain ⟨xs, n', _, _, hl, hlen, hf⟩ := DataW.trod_struct ht hx
  obtain ⟨a, h1, h2⟩ := h n' cs (by rw [hl, hc]) (fun g hg => by
    obtain ⟨i, hi, rfl⟩ := List.getElem_of_mem hg
    have hi' : i < fs.size := by simpa using hi
    have := hf i _ (by simp [hi'] : fs[i]? = some fs.toList[i])
    rw [this]
    exact ⟨_, List.getElem?_eq_getElem (by omega)⟩)
  exact ⟨a, by simpa using h1, h2⟩
theorem opn_array {m sz : Nat} (ht : P.underlying t = some (.array m e)) (hc : P.cellsOf e = sz) (hct : P.cellsOf t = m * sz) (he : Opn enc P w e f Q) :
    Opn enc P w t (fun l : List α => l.flatMap f) (fun l => l.length = m ∧ ∀ a ∈ l, Q a) := by
  intro fuel cs x hx
  obtain ⟨xs, n', _, _, hl, hlen, hf⟩ := DataW.trod_array ht hx
  have key : ∀ k, k ≤ m → ∃ l : List α, (cs.take (k * sz)) = l.flatMap f ∧ l.length = k ∧ ∀ a ∈ l, Q a := by
    intro k
    induction k with
    | zero => intro _; exact ⟨[], by simp, rfl, fun a h => by cases h⟩
    | succ k ih =>
      intro hk
      obtain ⟨l, h1, h2, h3⟩ := ih (by omega)
      have h4 := hf k (by omega)
      rw [List.getElem?_eq_getElem (by omega : k < xs.length)] at h4
      obtain ⟨a, h5, h6⟩ := he _ _ _ h4
      rw [hc] at h5
      refine ⟨l ++ [a], ?_, by simp [h2], fun b hb => ?_⟩
      · rw [Nat.add_mul, Nat.one_mul, List.take_add, h1, h5]
        simp
      · rcases List.mem_append.1 hb with hb | hb
        · exact h3 b hb
        · simp at hb; subst hb; exact h6
  obtain ⟨l, h1, h2, h3⟩ := key m (Nat.le_refl _)
  refine ⟨l, ?_, h2, h3⟩
  show cs = l.flatMap f
  rw [← h1, List.take_of_length_le (by rw [hl, hct]; exact Nat.le_refl _)]
/-- an argument that is a struct -/
theorem open_str {r : Reach} {b0 : Nat} {fs : Array Field} {v : Value} {d : DataW H} {ps : List MemPlace} (ht : P.underlying t = some (.struct fs)) (h : Opn enc P w t f Q) (hval : Value.okWide P w r b0 t v) (hd : DataW.Trod enc P w 0 (fun _ => true) true t v d ps) :
    ∃ a, v = .agg (f a).toArray ∧ Q a := by
  obtain ⟨cs, rfl, _⟩ := okWide_struct ht hval
  obtain ⟨fuel, hf⟩ := hd
  obtain ⟨a, h1, h2⟩ := h _ _ _ hf
  refine ⟨a, ?_, h2⟩
  rw [← h1]
  simp [Value.cells]
theorem open_sli {r : Reach} {b0 : Nat} {v : Value} {d : DataW H} {ps : List MemPlace} {sz : Nat} (ht : P.underlying t = some (.slice e)) (h : Opn enc P w t (fun s : Sli α => [.slice s.A s.l.length s.c]) (SliOk w sz f Q)) (hval : Value.okWide P w r b0 t v) (hd : DataW.Trod enc P w 0 (fun _ => true) true t v d ps) :
    ∃ s : Sli α, v = .slice s.A s.l.length s.c ∧ SliOk w sz f Q s := by
  obtain ⟨A, n, c, rfl⟩ := okWide_slice ht hval
  obtain ⟨fuel, hf⟩ := hd
  obtain ⟨a, h1, h2⟩ := h _ _ _ hf
  refine ⟨a, ?_, h2⟩
  simpa [Value.cells] using h1
end
end Go.Ev
