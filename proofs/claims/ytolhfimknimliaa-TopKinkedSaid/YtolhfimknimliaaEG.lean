/- A step calculus over the kit's 'wp': loops over maps. No statement about the program is in it. -/
import Derived.Maps.RangeRun
import Derived.Test.YtolhfimknimliaaE9
namespace Go.Ev
open Go.RowKit
open Go.ChangeMaps (setBlock)
open Go.ChangeShapes Go.WideShapes
/-- the stamps of a map's entries -/
def Bo (w : World) (b : Nat) : Prop := ∃ (es : Array MapEntry) (clock : Nat), w.heap[b]? = some (.map es clock) ∧ (∀ e ∈ es.toList, e.born < clock) ∧ (es.toList.map (·.born)).Nodup
/-- a map, told by what it holds at each key, with its stamps -/
def Mq (P : Program) (kt : TypeId) (w : World) (b : Nat) {α β : Type} (ek : α → Value) (eb : β → Value) (g : α → Option β) : Prop := (∃ m, Mt P kt w b m ek eb g) ∧ Bo w b
/-- a loop over a map under way: V are the keys that came, cnt how many are to come -/
def Rq (P : Program) (kt : TypeId) (w : World) (b r : Nat) {α β : Type} (ek : α → Value) (eb : β → Value) (g : α → Option β) (V : α → Prop) (cnt : Nat) : Prop :=
  Mq P kt w b ek eb g ∧ ∃ (es : Array MapEntry) (clock since : Nat) (seen : Array Nat) (c0 : Nat), w.heap[b]? = some (.map es clock) ∧ w.heap[r]? = some (.mapIter (some b) since seen c0) ∧ (∀ x ∈ es.toList, x.born < since) ∧ since ≤ c0 ∧ since ≤ clock ∧ (leftOf es seen).size = cnt ∧
    ∀ a, (∃ v, g a = some v) → (V a ↔ ∃ e ∈ es.toList, e.key = ek a ∧ seen.contains e.born = true)
section
variable {P : Program} {T : Tab} {n : Nat} {R : Env → World → Prop} {fr : Fra} {all : Array Oper} {l : List Oper} {k : List It} {ρ : Env} {dec : List Nat} {w w' : World} {o : Oper} {x y : Operand}
variable {kt e t : TypeId} {b m r cnt : Nat} {α β : Type} {ek : α → Value} {eb : β → Value} {g : α → Option β} {M : Nat → Prop} {V : α → Prop}
theorem Bo.keep (h : Bo w b) (c : Chg M w w') (hn : ¬ M b) : Bo w' b := by
  obtain ⟨es, clock, hb, hr⟩ := h
  exact ⟨es, clock, (c.block b (lt_of_block hb) hn).trans hb, hr⟩
theorem Mq.keep (h : Mq P kt w b ek eb g) (c : Chg M w w') (hn : ¬ M b) : Mq P kt w' b ek eb g := by
  obtain ⟨⟨m, h1⟩, h2⟩ := h
  exact ⟨⟨m, h1.keep c hn⟩, h2.keep c hn⟩
theorem Mq.no (h : Mq P kt w b ek eb g) (c : Chg No w w') : Mq P kt w' b ek eb g := h.keep c fun h => h
theorem Mq.lt (h : Mq P kt w b ek eb g) : b < w.heap.size := h.1.choose_spec.lt
theorem Rq.keep (h : Rq P kt w b r ek eb g V cnt) (c : Chg M w w') (hb : ¬ M b) (hr : ¬ M r) : Rq P kt w' b r ek eb g V cnt := by
  obtain ⟨h1, es, clock, since, seen, c0, e1, e2, e3⟩ := h
  exact ⟨h1.keep c hb, es, clock, since, seen, c0, (c.block b (lt_of_block e1) hb).trans e1, (c.block r (lt_of_block e2) hr).trans e2, e3⟩
theorem Rq.no (h : Rq P kt w b r ek eb g V cnt) (c : Chg No w w') : Rq P kt w' b r ek eb g V cnt := h.keep c (fun h => h) fun h => h
theorem Rq.lt (h : Rq P kt w b r ek eb g V cnt) : r < w.heap.size := by
  obtain ⟨_, es, clock, since, seen, c0, _, e2, _⟩ := h
  exact lt_of_block e2
theorem Mq.ext {g' : α → Option β} (h : Mq P kt w b ek eb g) (hg : ∀ a, g a = g' a) : Mq P kt w b ek eb g' := by
  obtain rfl : g = g' := funext hg
  exact h
/-- a new map -/
theorem mkQ (hw : wantB n ρ all o = true) (ho : o.op = .makeMap t none)
    (h : ∀ b w', w.heap.size = b → w'.heap.size = b + 1 → Chg No w w' → (∀ {α β : Type} (ek : α → Value) (eb : β → Value), Mq P kt w' b ek eb (fun _ => none)) → At P n R fr all l k (updo ρ o.dst (.map (some b))) dec w') : At P n R fr all (o :: l) k ρ dec w := by
  refine op_val (w' := w.alloc (.map #[] 0)) hw ?_ (h _ _ rfl (by simp) (Chg.alloc w _) fun ek eb => ⟨⟨0, #[], 0, heap_alloc_new w _, by simp, by simp, by simp, by simp⟩, #[], 0, heap_alloc_new w _, by simp, by simp⟩)
  have := run_makeMap (P := P) t w
  simp [execOp, ho, this]
theorem updQ [DecidableEq α] (K : Go.Maps.Keyed P kt) (hw : wantB n ρ all o = true) {x y z : Operand} (ho : o.op = .mapUpdate t x y z) (ht : P.underlying t = some (.map kt e)) (hx : ev n ρ x = .map (some b)) {a : α} (hy : ev n ρ y = ek a) (hk : ∃ kl, keyOf P kt (ek a) = some kl) (hinj : ∀ a', ek a' = ek a → a' = a)
    {v : β} (hv : ev n ρ z = eb v) (hM : Mq P kt w b ek eb g)
    (h : ∀ w', Chg (fun k => k = b) w w' → Mq P kt w' b ek eb (fun c => if c = a then some v else g c) → w'.heap.size = w.heap.size → At P n R fr all l k (updo ρ o.dst undef) dec w') : At P n R fr all (o :: l) k ρ dec w := by
  obtain ⟨kl, hk⟩ := hk
  obtain ⟨⟨m, hM⟩, hB⟩ := hM
  obtain ⟨w1, x1, x2, x3, x4⟩ := r_upd K ho ht hx hy hk hinj hv hM
  refine op_skip hw x1 (h w1 x2 ⟨⟨_, x3⟩, ?_⟩ x4)
  obtain ⟨es, clock, hb, hs2, hd, he, hg⟩ := hM
  obtain ⟨es', clock', hb', hB1, hB2⟩ := hB
  rw [hb] at hb'
  injection hb' with hb'
  injection hb' with e1 e2
  subst e1
  subst e2
  rcases K.find w hk es.toList (fun e h => (he e h).1) with ⟨h1, h2⟩ | ⟨j, e0, h1, h2, h3⟩
  · have e : (execOp (ev n ρ) o).run P w = .ok .skip (setBlock w b (.map (es.push ⟨ek a, eb v, clock⟩) (clock + 1))) := by
      simp [execOp, ho, hx, hy, hv, Instr.mapUpdate, run_underlying ht, MapKept.run_getObj_map hb, K.check w false hk, h1, MapKept.run_setObj_map _ hb, Result.andThen, setBlock]
    rw [e] at x1
    injection x1 with _ x1
    subst x1
    refine ⟨_, _, ChangeMaps.heap_setBlock_same hb _, ?_, ?_⟩
    · intro e1 he1
      rw [Array.toList_push, List.mem_append, List.mem_singleton] at he1
      rcases he1 with he1 | rfl
      · exact Nat.lt_succ_of_lt (hB1 e1 he1)
      · exact Nat.lt_succ_self _
    · rw [Array.toList_push, List.map_append, List.nodup_append]
      refine ⟨hB2, by simp, fun x hx y hy => ?_⟩
      obtain ⟨e1, he1, rfl⟩ := List.mem_map.1 hx
      simp at hy
      subst hy
      have := hB1 e1 he1
      omega
  · have hj : j < es.toList.length := (List.getElem?_eq_some_iff.1 h2).1
    have hj' : es[j]? = some e0 := by simpa using h2
    have hmod : ∀ fm : MapEntry → MapEntry, (es.modify j fm).toList = es.toList.set j (fm e0) := fun fm => by
      rw [Array.toList_modify]
      refine List.ext_getElem? fun i => ?_
      by_cases hij : j = i
      · subst hij
        rw [List.getElem?_modify, List.getElem?_set, if_pos rfl, if_pos hj, h2]
        simp
      · rw [List.getElem?_modify, List.getElem?_set, if_neg hij]
        simp [hij]
    have e : (execOp (ev n ρ) o).run P w = .ok .skip (setBlock w b (.map (es.modify j fun e => { e with key := ek a, val := eb v }) clock)) := by
      simp [execOp, ho, hx, hy, hv, Instr.mapUpdate, run_underlying ht, MapKept.run_getObj_map hb, K.check w false hk, h1, hj', h3, K.stays w hk, MapKept.run_setObj_map _ hb, Result.andThen, setBlock]
    rw [e] at x1
    injection x1 with _ x1
    subst x1
    have hkk : (es.modify j fun e => { e with key := ek a, val := eb v }).toList.map (·.born) = es.toList.map (·.born) := by
      rw [hmod, List.map_set]
      refine List.ext_getElem? fun i => ?_
      rw [List.getElem?_set]
      split
      · rename_i hij
        subst hij
        rw [List.length_map, if_pos hj, List.getElem?_map, h2]
        rfl
      · rfl
    refine ⟨_, _, ChangeMaps.heap_setBlock_same hb _, ?_, by rw [hkk]; exact hB2⟩
    intro e1 he1
    have : e1.born ∈ es.toList.map (·.born) := by rw [← hkk]; exact List.mem_map.2 ⟨e1, he1, rfl⟩
    obtain ⟨e2, he2, hb2⟩ := List.mem_map.1 this
    rw [← hb2]
    exact hB1 e2 he2
/-- a look into a map -/
theorem r_lookQ (K : Go.Maps.Keyed P kt) (ho : o.op = .lookup t x y false) (ht : P.underlying t = some (.map kt e)) (hx : ev n ρ x = .map (some b)) {a : α} (hy : ev n ρ y = ek a) (hk : ∃ kl, keyOf P kt (ek a) = some kl) (hinj : ∀ a', ek a' = ek a → a' = a)
    (hM : Mq P kt w b ek eb g) {z : Value} (hz : zeroOf P e = some z) {v : Value} (hv : ((g a).map eb).getD z = v) : (execOp (ev n ρ) o).run P w = .ok (.value v) w := by
  obtain ⟨kl, hk⟩ := hk
  obtain ⟨⟨m, hM⟩, _⟩ := hM
  rw [r_look false K ho ht hx hy hk hinj hM hz, ← hv]
  rfl
theorem lookQ (K : Go.Maps.Keyed P kt) (hw : wantB n ρ all o = true) (ho : o.op = .lookup t x y false) (ht : P.underlying t = some (.map kt e)) (hx : ev n ρ x = .map (some b)) {a : α} (hy : ev n ρ y = ek a) (hk : ∃ kl, keyOf P kt (ek a) = some kl) (hinj : ∀ a', ek a' = ek a → a' = a)
    (hM : Mq P kt w b ek eb g) {z : Value} (hz : zeroOf P e = some z) {v : Value} (hv : ((g a).map eb).getD z = v) (h : At P n R fr all l k (updo ρ o.dst v) dec w) : At P n R fr all (o :: l) k ρ dec w :=
  op_val hw (r_lookQ K ho ht hx hy hk hinj hM hz hv) h
/-- how many keys a map holds: none just if it holds nothing -/
theorem lenQ (hw : wantB n ρ all o = true) (ho : o.op = .call { callee := .builtin .len, args := #[x], argTypes := #[t] }) (ht : P.underlying t = some (.map kt e)) (hx : ev n ρ x = .map (some b)) (hM : Mq P kt w b ek eb g)
    (h : ∀ s : Nat, (s = 0 ↔ ∀ a, g a = none) → At P n R fr all l k (updo ρ o.dst (.int .i64 (s : Int))) dec w) : At P n R fr all (o :: l) k ρ dec w := by
  obtain ⟨⟨m, es, clock, hb, _, _, he, hg⟩, _⟩ := hM
  have h1 : P.underlying t = some (.map (P.mapKeyOf t) (P.mapElemOf t)) := by simp [Program.mapKeyOf, Program.mapElemOf, ht]
  refine op_val hw (v := .int .i64 (es.size : Int)) (w' := w) ?_ (h es.size ⟨fun h0 a => ?_, fun h0 => ?_⟩)
  · simp [execOp, ho, resolve, invoke, builtin, hx, run_len_map w t _ b es clock h1 hb, goInt]
  · cases hga : g a with
    | none => rfl
    | some v =>
      obtain ⟨e1, h1, _⟩ := hg a v hga
      have : 0 < es.toList.length := List.length_pos_of_mem h1
      simp at this
      omega
  · rcases Nat.eq_zero_or_pos es.size with h1 | h1
    · exact h1
    · have h2 : es[0] ∈ es.toList := by simp
      obtain ⟨_, a, v, _, _, h3⟩ := he _ h2
      rw [h0 a] at h3
      cases h3
/-- a loop over a map begins -/
theorem rangeQ (hw : wantB n ρ all o = true) (ho : o.op = .range t x) (ht : P.underlying t = some (.map kt e)) (hx : ev n ρ x = .map (some b)) (hM : Mq P kt w b ek eb g)
    (h : ∀ r w' cnt, w.heap.size = r → w'.heap.size = r + 1 → Chg No w w' → Rq P kt w' b r ek eb g (fun _ => False) cnt → At P n R fr all l k (updo ρ o.dst (.pointer (some ⟨r, 0, none⟩))) dec w') : At P n R fr all (o :: l) k ρ dec w := by
  have hM0 := hM
  obtain ⟨⟨m, es, clock, hb, _, _, he, hg⟩, es', clock', hb', hB1, hB2⟩ := hM
  rw [hb] at hb'
  injection hb' with hb'
  injection hb' with e1 e2
  subst e1
  subst e2
  have hlt := lt_of_block hb
  refine op_val (w' := w.alloc (.mapIter (some b) clock #[] clock)) hw ?_ (h _ _ _ rfl (by simp) (Chg.alloc w _) ⟨hM0.no (Chg.alloc w _), es, clock, clock, #[], clock, (Below.heap_alloc w _ b hlt).trans hb, heap_alloc_new w _, hB1, Nat.le_refl _, Nat.le_refl _, rfl, fun a _ => ⟨fun h => h.elim, fun ⟨e1, _, _, h1⟩ => by simp at h1⟩⟩)
  have := run_range_map w t kt e b es clock ht hb
  simp [execOp, ho, hx, this]
/-- a step of a loop over a map: none is left, or some entry comes -/
theorem nextQ (hinj : ∀ a a', ek a' = ek a → a' = a) (hw : wantB n ρ all o = true) (ho : o.op = .next x false) (hx : ev n ρ x = .pointer (some ⟨r, 0, none⟩)) (hR : Rq P kt w b r ek eb g V cnt)
    (h0 : cnt = 0 → (∀ a v, g a = some v → V a) → At P n R fr all l k (updo ρ o.dst (.tuple #[.bool false])) dec w)
    (h : ∀ a v w' cnt', g a = some v → cnt' < cnt → Rq P kt w' b r ek eb g (fun c => V c ∨ c = a) cnt' → Chg (fun k => k = r) w w' → w'.heap.size = w.heap.size → (Instr.entry (.pointer (some ⟨r, 0, none⟩))).run P w' = .ok (.tuple #[ek a, eb v]) w' →
      At P n R fr all l k (updo ρ o.dst (.tuple #[.bool true, ek a, eb v])) dec w') : At P n R fr all (o :: l) k ρ dec w := by
  have hR0 := hR
  obtain ⟨hM, es, clock, since, seen, c0, hb, hr, hold, hsc, hsc2, rfl, hV⟩ := hR
  have hM0 := hM
  obtain ⟨⟨m, es', clock', hb', _, _, he, hg⟩, es2, clock2, hb2, hB1, hB2⟩ := hM
  rw [hb] at hb' hb2
  injection hb' with hb'
  injection hb' with e1 e2
  subst e1
  subst e2
  injection hb2 with hb2
  injection hb2 with e1 e2
  subst e1
  subst e2
  have hne : b ≠ r := by
    rintro rfl
    rw [hb] at hr
    cases hr
  rcases run_next_at (P := P) w o.type r b since c0 seen es clock hr hb hold hsc with ⟨hz, hrun⟩ | ⟨e1, he1, w1, hal, hrun⟩
  · refine op_val (w' := w) hw ?_ (h0 hz fun a v hga => (hV a ⟨v, hga⟩).2 ?_)
    · simp [execOp, ho, hx, hrun]
    · obtain ⟨e1, h1, h2⟩ := hg a v hga
      exact ⟨e1, h1, h2, all_seen es seen hz e1 h1⟩
  · obtain ⟨hem, hes⟩ := mem_left he1
    obtain ⟨_, a, v, hka, hva, hga⟩ := he e1 hem
    have hr1 : w1.heap[r]? = some (.mapIter (some b) since seen c0) := by rcases hal with rfl | rfl <;> exact hr
    have hb1 : w1.heap[b]? = some (.map es clock) := by rcases hal with rfl | rfl <;> exact hb
    have hrl : r < w1.heap.size := lt_of_block hr1
    have hs1 : w1.heap.size = w.heap.size := by rcases hal with rfl | rfl <;> rfl
    have hset : (setBlock w1 r (.mapIter (some b) since (seen.push e1.born) clock)).heap[r]? = some (.mapIter (some b) since (seen.push e1.born) clock) := by simp [setBlock, hrl]
    have hoth : ∀ i, i ≠ r → (setBlock w1 r (.mapIter (some b) since (seen.push e1.born) clock)).heap[i]? = w1.heap[i]? := fun i hi => by simp [setBlock, Ne.symm hi]
    have chg : Chg (fun k => k = r) w (setBlock w1 r (.mapIter (some b) since (seen.push e1.born) clock)) := by
      rcases hal with rfl | rfl
      · exact ⟨rfl, rfl, rfl, by simp [setBlock], fun i _ hi => hoth i hi⟩
      · exact ⟨rfl, rfl, rfl, Nat.le_of_eq (show w.drew.heap.size = (setBlock w.drew r _).heap.size by simp [setBlock]), fun i _ hi => hoth i hi⟩
    have hb3 : (setBlock w1 r (.mapIter (some b) since (seen.push e1.born) clock)).heap[b]? = some (.map es clock) := (hoth b hne).trans hb1
    refine op_val hw (v := .tuple #[.bool true, ek a, eb v]) ?_ (h a v _ _ hga (left_shrinks es seen e1 he1) ⟨hM0.keep chg hne, es, clock, since, seen.push e1.born, clock, hb3, hset, hold, hsc2, hsc2, rfl, fun c hc => ?_⟩ chg (by simp [setBlock, hs1]) ?_)
    · simp [execOp, ho, hx, hrun, hka, hva]
    · constructor
      · rintro (hc1 | rfl)
        · obtain ⟨e2, h1, h2, h3⟩ := (hV c hc).1 hc1
          exact ⟨e2, h1, h2, by rw [contains_push, h3]; rfl⟩
        · exact ⟨e1, hem, hka, by rw [contains_push]; simp⟩
      · rintro ⟨e2, h1, h2, h3⟩
        rw [contains_push, Bool.or_eq_true] at h3
        rcases h3 with h3 | h3
        · exact .inl ((hV c hc).2 ⟨e2, h1, h2, h3⟩)
        · have h4 : e2.born = e1.born := by simpa using h3
          obtain rfl := born_inj hB2 h1 hem h4
          exact .inr (hinj a c (h2.symm.trans hka))
    · have := run_entry_at (P := P) _ r b since seen es clock e1 hset hb3 hem hB2
      rw [hka, hva] at this
      exact this
/-- what came -/
theorem entryQ {v : Value} (hw : wantB n ρ all o = true) (ho : o.op = .entry x) (hx : ev n ρ x = .pointer (some ⟨r, 0, none⟩)) (he : (Instr.entry (.pointer (some ⟨r, 0, none⟩))).run P w = .ok v w)
    (h : At P n R fr all l k (updo ρ o.dst v) dec w) : At P n R fr all (o :: l) k ρ dec w := by
  refine op_val hw ?_ h
  simp [execOp, ho, hx, he]
end
end Go.Ev
