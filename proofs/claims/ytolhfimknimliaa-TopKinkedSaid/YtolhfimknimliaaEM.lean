/- A step calculus over the kit's 'wp': maps. No statement about the program is in it. -/
import Derived.Maps.Keyed
import Derived.ChangeMaps5
import Derived.Test.YtolhfimknimliaaE6
namespace Go.Ev
open Go.RowKit
open Go.ChangeMaps (setBlock)
open Go.ChangeShapes Go.WideShapes
/-- a map, told by what it holds at each key -/
def Mt (P : Program) (kt : TypeId) (w : World) (b n : Nat) {α β : Type} (ek : α → Value) (eb : β → Value) (g : α → Option β) : Prop :=
  ∃ (es : Array MapEntry) (clock : Nat), w.heap[b]? = some (.map es clock) ∧ es.size ≤ n ∧ es.toList.Pairwise (fun x y => x.key ≠ y.key) ∧
    (∀ e ∈ es.toList, (∃ l, keyOf P kt e.key = some l) ∧ ∃ a v, e.key = ek a ∧ e.val = eb v ∧ g a = some v) ∧ ∀ a v, g a = some v → ∃ e ∈ es.toList, e.key = ek a
section
variable {P : Program} {T : Tab} {n : Nat} {R : Env → World → Prop} {fr : Fra} {all : Array Oper} {l : List Oper} {k : List It} {ρ : Env} {dec : List Nat} {w w' : World} {o : Oper} {x y : Operand}
variable {kt e t : TypeId} {b m : Nat} {α β : Type} {ek : α → Value} {eb : β → Value} {g : α → Option β} {M : Nat → Prop}
theorem Mt.lt (h : Mt P kt w b m ek eb g) : b < w.heap.size := by
  obtain ⟨es, clock, hb, _⟩ := h
  exact lt_of_block hb
theorem Mt.keep (h : Mt P kt w b m ek eb g) (c : Chg M w w') (hn : ¬ M b) : Mt P kt w' b m ek eb g := by
  obtain ⟨es, clock, hb, hr⟩ := h
  exact ⟨es, clock, (c.block b (lt_of_block hb) hn).trans hb, hr⟩
theorem Mt.no (h : Mt P kt w b m ek eb g) (c : Chg No w w') : Mt P kt w' b m ek eb g := h.keep c fun h => h
/-- a new map -/
theorem mkM (hw : wantB n ρ all o = true) (ho : o.op = .makeMap t none)
    (h : ∀ b w', w.heap.size = b → w'.heap.size = b + 1 → Chg No w w' → (∀ {α β : Type} (ek : α → Value) (eb : β → Value), Mt P kt w' b 0 ek eb (fun _ => none)) → At P n R fr all l k (updo ρ o.dst (.map (some b))) dec w') : At P n R fr all (o :: l) k ρ dec w := by
  refine op_val (w' := w.alloc (.map #[] 0)) hw ?_ (h _ _ rfl (by simp) (Chg.alloc w _) fun ek eb => ⟨#[], 0, heap_alloc_new w _, by simp, by simp, by simp, by simp⟩)
  have := run_makeMap (P := P) t w
  simp [execOp, ho, this]
/-- a look into a map -/
theorem r_look (c : Bool) (K : Go.Maps.Keyed P kt) (ho : o.op = .lookup t x y c) (ht : P.underlying t = some (.map kt e)) (hx : ev n ρ x = .map (some b)) {a : α} (hy : ev n ρ y = ek a) {kl : Lit} (hk : keyOf P kt (ek a) = some kl) (hinj : ∀ a', ek a' = ek a → a' = a)
    (hM : Mt P kt w b m ek eb g) {z : Value} (hz : zeroOf P e = some z) : (execOp (ev n ρ) o).run P w = .ok (.value (if c then .tuple #[((g a).map eb).getD z, .bool (g a).isSome] else ((g a).map eb).getD z)) w := by
  obtain ⟨es, clock, hb, _, _, he, hg⟩ := hM
  have hzr : (zeroValue e).run P w = .ok z w := by
    unfold zeroOf at hz
    cases hi : P.info? e with
    | none => rw [hi] at hz; cases hz
    | some i =>
      rw [hi] at hz
      simp only [Option.bind_some] at hz
      simp [zeroValue, typeInfo, hi, hz]
  rcases K.find w hk es.toList (fun e h => (he e h).1) with ⟨h1, h2⟩ | ⟨j, e0, h1, h2, h3⟩
  · have hn : g a = none := by
      cases hga : g a with
      | none => rfl
      | some v =>
        obtain ⟨e1, hm, hk'⟩ := hg a v hga
        exact absurd hk' (h2 e1 hm)
    simp [execOp, ho, hx, hy, Instr.lookup, run_underlying ht, MapKept.run_getObj_map hb, K.check w _ hk, h1, hzr, hn, Result.andThen]
  · obtain ⟨_, a', v, ha', hv, hga⟩ := he e0 (List.mem_of_getElem? h2)
    have := hinj a' (ha'.symm.trans h3)
    subst this
    simp [execOp, ho, hx, hy, Instr.lookup, run_underlying ht, MapKept.run_getObj_map hb, K.check w _ hk, h1, hga, hv, Result.andThen]
theorem look (c : Bool) (K : Go.Maps.Keyed P kt) (hw : wantB n ρ all o = true) (ho : o.op = .lookup t x y c) (ht : P.underlying t = some (.map kt e)) (hx : ev n ρ x = .map (some b)) {a : α} (hy : ev n ρ y = ek a) {kl : Lit} (hk : keyOf P kt (ek a) = some kl) (hinj : ∀ a', ek a' = ek a → a' = a)
    (hM : Mt P kt w b m ek eb g) {z : Value} (hz : zeroOf P e = some z)
    (h : At P n R fr all l k (updo ρ o.dst (if c then .tuple #[((g a).map eb).getD z, .bool (g a).isSome] else ((g a).map eb).getD z)) dec w) : At P n R fr all (o :: l) k ρ dec w :=
  op_val hw (r_look c K ho ht hx hy hk hinj hM hz) h
/-- a store into a map -/
theorem r_upd [DecidableEq α] (K : Go.Maps.Keyed P kt) {x y z : Operand} (ho : o.op = .mapUpdate t x y z) (ht : P.underlying t = some (.map kt e)) (hx : ev n ρ x = .map (some b)) {a : α} (hy : ev n ρ y = ek a) {kl : Lit} (hk : keyOf P kt (ek a) = some kl) (hinj : ∀ a', ek a' = ek a → a' = a)
    {v : β} (hv : ev n ρ z = eb v) (hM : Mt P kt w b m ek eb g) :
    ∃ w', (execOp (ev n ρ) o).run P w = .ok .skip w' ∧ Chg (fun k => k = b) w w' ∧ Mt P kt w' b (m + 1) ek eb (fun c => if c = a then some v else g c) ∧ w'.heap.size = w.heap.size := by
  obtain ⟨es, clock, hb, hs, hd, he, hg⟩ := hM
  have chg : ∀ ob, Chg (fun k => k = b) w (setBlock w b ob) := fun ob => ⟨rfl, rfl, rfl, by simp [setBlock], fun i _ hi => ChangeMaps.heap_setBlock_other hb ob hi⟩
  rcases K.find w hk es.toList (fun e h => (he e h).1) with ⟨h1, h2⟩ | ⟨j, e0, h1, h2, h3⟩
  · refine ⟨setBlock w b (.map (es.push ⟨ek a, eb v, clock⟩) (clock + 1)), ?_, chg _, ⟨_, _, ChangeMaps.heap_setBlock_same hb _, by simp; omega, ?_, ?_, ?_⟩, by simp [setBlock]⟩
    · simp [execOp, ho, hx, hy, hv, Instr.mapUpdate, run_underlying ht, MapKept.run_getObj_map hb, K.check w false hk, h1, MapKept.run_setObj_map _ hb, Result.andThen, setBlock]
    · rw [Array.toList_push, List.pairwise_append]
      exact ⟨hd, by simp, fun x hx y hy => by simp at hy; subst hy; exact h2 x hx⟩
    · intro e1 h1
      rw [Array.toList_push, List.mem_append, List.mem_singleton] at h1
      rcases h1 with h1 | rfl
      · obtain ⟨hl, a', v', e2, e3, e4⟩ := he e1 h1
        refine ⟨hl, a', v', e2, e3, ?_⟩
        show (if a' = a then some v else g a') = some v'
        rw [if_neg (fun e => h2 e1 h1 (by rw [e2, e]))]
        exact e4
      · exact ⟨⟨kl, hk⟩, a, v, rfl, rfl, if_pos rfl⟩
    · intro a' v' h'
      have h' : (if a' = a then some v else g a') = some v' := h'
      rw [Array.toList_push]
      by_cases ha : a' = a
      · subst ha
        exact ⟨_, List.mem_append_right _ (List.mem_singleton.2 rfl), rfl⟩
      · rw [if_neg ha] at h'
        obtain ⟨e1, hm, hk'⟩ := hg a' v' h'
        exact ⟨e1, List.mem_append_left _ hm, hk'⟩
  · have hj : j < es.toList.length := (List.getElem?_eq_some_iff.1 h2).1
    have hj' : es[j]? = some e0 := by simpa using h2
    have hmod : ∀ fm : MapEntry → MapEntry, (es.modify j fm).toList = es.toList.set j (fm e0) := fun fm => by
      rw [Array.toList_modify]
      refine List.ext_getElem? fun i => ?_
      by_cases hij : j = i
      · subst hij
        rw [List.getElem?_modify, List.getElem?_set, if_pos rfl, if_pos hj, h2]
        simp
      · rw [List.getElem?_modify, List.getElem?_set, if_neg hij]
        simp [hij]
    refine ⟨setBlock w b (.map (es.modify j fun e => { e with key := ek a, val := eb v }) clock), ?_, chg _, ⟨_, _, ChangeMaps.heap_setBlock_same hb _, by simp; omega, ?_, ?_, ?_⟩, by simp [setBlock]⟩
    · simp [execOp, ho, hx, hy, hv, Instr.mapUpdate, run_underlying ht, MapKept.run_getObj_map hb, K.check w false hk, h1, hj', h3, K.stays w hk, MapKept.run_setObj_map _ hb, Result.andThen, setBlock]
    · rw [hmod]
      have hkk : (es.toList.set j { e0 with key := ek a, val := eb v }).map (·.key) = es.toList.map (·.key) := by
        rw [List.map_set]
        refine List.ext_getElem? fun i => ?_
        rw [List.getElem?_set]
        split
        · rename_i hij
          subst hij
          rw [List.length_map, if_pos hj, List.getElem?_map, h2]
          simp [h3]
        · rfl
      have := (List.pairwise_map (f := fun x : MapEntry => x.key) (R := fun x y => x ≠ y)).2 hd
      rw [← hkk, List.pairwise_map] at this
      exact this
    · intro e1 h1
      rw [hmod] at h1
      obtain ⟨i, hi⟩ := List.getElem?_of_mem h1
      rw [List.getElem?_set] at hi
      by_cases hij : j = i
      · subst hij
        rw [if_pos rfl, if_pos hj] at hi
        cases hi
        exact ⟨⟨kl, hk⟩, a, v, rfl, rfl, if_pos rfl⟩
      · rw [if_neg hij] at hi
        obtain ⟨hl, a', v', e2, e3, e4⟩ := he e1 (List.mem_of_getElem? hi)
        refine ⟨hl, a', v', e2, e3, ?_⟩
        have : e1.key ≠ e0.key := by
          rcases Nat.lt_or_gt_of_ne hij with h | h
          · exact fun e => (List.pairwise_iff_getElem.1 hd j i hj (List.getElem?_eq_some_iff.1 hi).1 h) (by
              have x1 := (List.getElem?_eq_some_iff.1 hi).2
              have x2 := (List.getElem?_eq_some_iff.1 h2).2
              rw [x1, x2]; exact e.symm)
          · exact fun e => (List.pairwise_iff_getElem.1 hd i j (List.getElem?_eq_some_iff.1 hi).1 hj h) (by
              have x1 := (List.getElem?_eq_some_iff.1 hi).2
              have x2 := (List.getElem?_eq_some_iff.1 h2).2
              rw [x1, x2]; exact e)
        show (if a' = a then some v else g a') = some v'
        rw [if_neg (fun e => this (by rw [e2, e, h3]))]
        exact e4
    · intro a' v' h'
      have h' : (if a' = a then some v else g a') = some v' := h'
      rw [hmod]
      by_cases ha : a' = a
      · subst ha
        exact ⟨_, List.mem_set hj _, rfl⟩
      · rw [if_neg ha] at h'
        obtain ⟨e1, hm, hk'⟩ := hg a' v' h'
        obtain ⟨i, hi⟩ := List.getElem?_of_mem hm
        have hij : j ≠ i := by
          rintro rfl
          rw [h2] at hi
          cases hi
          exact ha (hinj a' (hk'.symm.trans h3))
        exact ⟨e1, List.mem_of_getElem? (i := i) (by rw [List.getElem?_set_ne hij]; exact hi), hk'⟩
theorem upd_map [DecidableEq α] (K : Go.Maps.Keyed P kt) (hw : wantB n ρ all o = true) {x y z : Operand} (ho : o.op = .mapUpdate t x y z) (ht : P.underlying t = some (.map kt e)) (hx : ev n ρ x = .map (some b)) {a : α} (hy : ev n ρ y = ek a) {kl : Lit} (hk : keyOf P kt (ek a) = some kl) (hinj : ∀ a', ek a' = ek a → a' = a)
    {v : β} (hv : ev n ρ z = eb v) (hM : Mt P kt w b m ek eb g)
    (h : ∀ w', Chg (fun k => k = b) w w' → Mt P kt w' b (m + 1) ek eb (fun c => if c = a then some v else g c) → w'.heap.size = w.heap.size → At P n R fr all l k (updo ρ o.dst undef) dec w') : At P n R fr all (o :: l) k ρ dec w := by
  obtain ⟨w', h1, h2, h3, h4⟩ := r_upd K ho ht hx hy hk hinj hv hM
  exact op_skip hw h1 (h w' h2 h3 h4)
variable {S : World → Prop} {lh : List (Oper × Bool)}
/-- in a drawn region: a new map -/
theorem mkME (hw : wantB n ρ all o = true) (ho : o.op = .makeMap t none)
    (h : ∀ b w', w.heap.size = b → w'.heap.size = b + 1 → Chg No w w' → (∀ {α β : Type} (ek : α → Value) (eb : β → Value), Mt P kt w' b 0 ek eb (fun _ => none)) → S w' ∧ AtH P n R fr S all lh k (updo ρ o.dst (.map (some b))) dec w') : AtH P n R fr S all ((o, false) :: lh) k ρ dec w := by
  obtain ⟨hS, hA⟩ := h _ (w.alloc (.map #[] 0)) rfl (by simp) (Chg.alloc w _) fun ek eb => ⟨#[], 0, heap_alloc_new w _, by simp, by simp, by simp, by simp⟩
  have := run_makeMap (P := P) t w
  exact valE hw (by simp [execOp, ho, this]) hS hA
/-- in a drawn region: a store into a map, the last operation -/
theorem updL [DecidableEq α] (K : Go.Maps.Keyed P kt) (hw : wantB n ρ all o = true) {x y z : Operand} (ho : o.op = .mapUpdate t x y z) (ht : P.underlying t = some (.map kt e)) (hx : ev n ρ x = .map (some b)) {a : α} (hy : ev n ρ y = ek a) {kl : Lit} (hk : keyOf P kt (ek a) = some kl) (hinj : ∀ a', ek a' = ek a → a' = a)
    {v : β} (hv : ev n ρ z = eb v) (hM : Mt P kt w b m ek eb g) (hl : lastOk .any all o = true)
    (h : ∀ w', Chg (fun k => k = b) w w' → Mt P kt w' b (m + 1) ek eb (fun c => if c = a then some v else g c) → w'.heap.size = w.heap.size → AtH P n R fr S all [] k (updo ρ o.dst undef) dec w') : AtH P n R fr S all [(o, false)] k ρ dec w := by
  obtain ⟨w', h1, h2, h3, h4⟩ := r_upd K ho ht hx hy hk hinj hv hM
  exact skipL hw h1 hl (h w' h2 h3 h4)
end
end Go.Ev
