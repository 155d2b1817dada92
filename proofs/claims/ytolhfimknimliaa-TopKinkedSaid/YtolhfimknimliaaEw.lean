/- A step calculus over the kit's 'wp': memory. No statement about the program is in it. -/
import Derived.Scope
import Derived.Test.YtolhfimknimliaaEv
import Derived.Deep.MidRow
import Derived.Deep.AppendLies
namespace Go.Ev
open Go.RowKit

/-! ### What has turned between two worlds -/
structure Chg (M : Nat → Prop) (w w' : World) : Prop where
  os : w'.os = w.os
  tape : w'.tape = w.tape
  output : w'.output = w.output
  size : w.heap.size ≤ w'.heap.size
  block : ∀ k, k < w.heap.size → ¬ M k → w'.heap[k]? = w.heap[k]?
abbrev No : Nat → Prop := fun _ => False
section
variable {M N : Nat → Prop} {w w' w'' : World}
theorem Chg.refl (M : Nat → Prop) (w : World) : Chg M w w := ⟨rfl, rfl, rfl, Nat.le_refl _, fun _ _ _ => rfl⟩
theorem Chg.mono (h : Chg M w w') (hm : ∀ k, k < w.heap.size → M k → N k) : Chg N w w' := ⟨h.os, h.tape, h.output, h.size, fun k hk hn => h.block k hk fun hM => hn (hm k hk hM)⟩
theorem Chg.step (h : Chg M w w') (k : Chg N w' w'') (hm : ∀ k, k < w.heap.size → N k → M k) : Chg M w w'' :=
  ⟨k.os.trans h.os, k.tape.trans h.tape, k.output.trans h.output, Nat.le_trans h.size k.size, fun i hi hM => (k.block i (Nat.lt_of_lt_of_le hi h.size) fun hn => hM (hm i hi hn)).trans (h.block i hi hM)⟩
theorem Chg.trans (h : Chg M w w') (k : Chg M w' w'') : Chg M w w'' := h.step k fun _ _ h => h
theorem Chg.no (h : Chg M w w') (k : Chg No w' w'') : Chg M w w'' := h.step k fun _ _ h => h.elim
theorem Chg.alloc (w : World) (o : Obj) : Chg No w (w.alloc o) := ⟨rfl, rfl, rfl, by simp, fun k hk _ => Below.heap_alloc w o k hk⟩
theorem Chg.drew (w : World) : Chg No w w.drew := ⟨rfl, rfl, rfl, Nat.le_refl _, fun _ _ _ => rfl⟩
theorem Chg.setCell (w : World) (a : Addr) (v : Value) : Chg (fun k => k = a.block) w (w.setCell a v) := ⟨rfl, rfl, rfl, by simp, fun k _ hk => heap_setCell_other w a k v hk⟩
theorem Chg.setRow (w : World) (g : Nat) (cs : Array Value) : Chg (fun k => k = g) w (w.setRow g cs) := ⟨rfl, rfl, rfl, by simp, fun k _ hk => setRow_other w g k cs hk⟩
theorem Chg.grown {row : Option Nat} (h : w.grownBy w' row) : Chg (fun k => some k = row) w w' := ⟨h.os, h.tape, h.output, h.size, fun k hk hn => h.block k hk hn⟩
theorem Chg.below {B : Nat} (h : Chg M w w') (hB : B ≤ w.heap.size) (hm : ∀ k, k < B → ¬ M k) : Below B w w' := ⟨h.os, h.tape, h.output, h.size, fun k hk => h.block k (Nat.lt_of_lt_of_le hk hB) (hm k hk)⟩
theorem Chg.cell (h : Chg M w w') {a : Addr} (ha : a.block < w.heap.size) (hn : ¬ M a.block) : w'.cell? a = w.cell? a := World.cell?_of_block (w := w) (h.block a.block ha hn)

/-! ### A block known whole -/
def Bk (w : World) (g : Nat) (t : TypeId) (cs : List Value) : Prop := w.heap[g]? = some (.cells cs.toArray t (0, 0))
variable {g i : Nat} {t : TypeId} {cs : List Value} {v : Value}
theorem Bk.lt (h : Bk w g t cs) : g < w.heap.size := lt_of_block h
theorem Bk.get (h : Bk w g t cs) (hv : nth? cs i = some v) : w.cell? ⟨g, i, none⟩ = some v := by
  rw [nth?_eq] at hv
  simp [World.cell?, show w.heap[g]? = _ from h, hv]
theorem Bk.getE (h : Bk w g t cs) (hv : cs[i]? = some v) : w.cell? ⟨g, i, none⟩ = some v := by
  simp [World.cell?, show w.heap[g]? = _ from h, hv]
theorem Bk.free (h : Bk w g t cs) (a : Addr) (ha : a.block = g) : w.frozen? a = false := by
  subst ha
  simp [World.frozen?, show w.heap[a.block]? = _ from h]
theorem Bk.keep (h : Bk w g t cs) (c : Chg M w w') (hn : ¬ M g) : Bk w' g t cs := (c.block g h.lt hn).trans h
theorem Bk.no (h : Bk w g t cs) (c : Chg No w w') : Bk w' g t cs := h.keep c fun h => h
theorem Bk.new (w : World) (t : TypeId) (cs : List Value) : Bk (w.alloc (.cells cs.toArray t)) w.heap.size t cs := heap_alloc_new w _
theorem Bk.set (h : Bk w g t cs) (i : Nat) (v : Value) : Bk (w.setCell ⟨g, i, none⟩ v) g t (cs.set i v) := by
  unfold Bk at h ⊢
  simp [World.setCell, Array.getElem?_modify, h]
theorem Bk.ne {g' : Nat} {t' : TypeId} {cs' : List Value} (h : Bk w g t cs) (h' : Bk w g' t' cs') (hne : t ≠ t') : g ≠ g' := by
  rintro rfl
  unfold Bk at h h'
  rw [h] at h'
  injection h' with h'
  injection h' with _ ht
  exact hne ht

/-! ### Cells in a row -/
def cellsAt (w : World) (b o : Nat) (cs : List Value) : Prop := ∀ j v, cs[j]? = some v → w.cell? ⟨b, o + j, none⟩ = some v
theorem Bk.cells (h : Bk w g t cs) (o : Nat) (ds : List Value) (hd : ∀ j v, ds[j]? = some v → cs[o + j]? = some v) : cellsAt w g o ds := fun j v hv => h.getE (hd j v hv)
theorem Bk.all (h : Bk w g t cs) : cellsAt w g 0 cs := h.cells 0 cs fun j v hv => by rwa [Nat.zero_add]
theorem cellsAt.keep {b o : Nat} {cs : List Value} (h : cellsAt w b o cs) (hb : b < w.heap.size) (c : Chg M w w') (hn : ¬ M b) : cellsAt w' b o cs := fun j v hv => (c.cell (a := ⟨b, o + j, none⟩) hb hn).trans (h j v hv)

/-- a slice's n elements of sz cells each are readable below block B -/
def Sl (w : World) (B : Nat) (sz : Nat) (A : Option Addr) (n : Nat) (xs : List Value) : Prop :=
  xs.length = n * sz ∧ B ≤ w.heap.size ∧ (0 < n → ∃ b o, A = some ⟨b, o, none⟩ ∧ b < B ∧ cellsAt w b o xs)
theorem Sl.keep {B sz n : Nat} {A : Option Addr} {xs : List Value} (h : Sl w B sz A n xs) (c : Chg M w w') (hm : ∀ k, k < B → ¬ M k) : Sl w' B sz A n xs := by
  refine ⟨h.1, Nat.le_trans h.2.1 c.size, fun hn => ?_⟩
  obtain ⟨b, o, hA, hb, hc⟩ := h.2.2 hn
  exact ⟨b, o, hA, hb, hc.keep (Nat.lt_of_lt_of_le hb h.2.1) c (hm b hb)⟩
theorem Sl.no {B sz n : Nat} {A : Option Addr} {xs : List Value} (h : Sl w B sz A n xs) (c : Chg No w w') : Sl w' B sz A n xs := h.keep c fun _ _ h => h
theorem Sl.more {B B' sz n : Nat} {A : Option Addr} {xs : List Value} (h : Sl w B sz A n xs) (hB : B ≤ B') (hB' : B' ≤ w.heap.size) : Sl w B' sz A n xs := by
  refine ⟨h.1, hB', fun hn => ?_⟩
  obtain ⟨b, o, hA, hb, hc⟩ := h.2.2 hn
  exact ⟨b, o, hA, Nat.lt_of_lt_of_le hb hB, hc⟩
theorem Sl.nil (w : World) (sz : Nat) (A : Option Addr) : Sl w 0 sz A 0 [] := ⟨by simp, Nat.zero_le _, fun h => absurd h (by omega)⟩
end

/-! ### An own row and what has turned -/
section
variable {M : Nat → Prop} {w w' : World} {B : Nat} {e : TypeId} {sz n : Nat} {v : Value} {xs : List Value}
theorem own_keep (h : w.ownsRow B e sz v n xs) (c : Chg M w w') (hm : ∀ k, v.ownBlock = some k → ¬ M k) : w'.ownsRow B e sz v n xs := by
  refine ⟨h.1, ?_⟩
  rcases h.2 with hn | ⟨g, cap, cur, rfl, hb, hgg, rest⟩
  · exact .inl hn
  · refine .inr ⟨g, cap, cur, rfl, hb, ?_, rest⟩
    rw [c.block g (Array.getElem?_eq_some_iff.1 hgg).1 (hm g rfl)]
    exact hgg
theorem own_no (h : w.ownsRow B e sz v n xs) (c : Chg No w w') : w'.ownsRow B e sz v n xs := own_keep h c fun _ _ h => h
theorem own_base {B' : Nat} (h : w.ownsRow B e sz v n xs) (hB : B' ≤ B) : w.ownsRow B' e sz v n xs := by
  refine ⟨h.1, ?_⟩
  rcases h.2 with hn | ⟨g, cap, cur, rfl, hb, rest⟩
  · exact .inl hn
  · exact .inr ⟨g, cap, cur, rfl, Nat.le_trans hB hb, rest⟩
/-- as a slice: its address, its capacity -/
theorem own_ge (h : w.ownsRow B e sz v n xs) {k : Nat} (hk : v.ownBlock = some k) : B ≤ k := by
  rcases h.2 with ⟨rfl, _⟩ | ⟨g, cap, cur, rfl, hb, _⟩
  · simp [Value.ownBlock] at hk
  · simp only [Value.ownBlock, Option.some.injEq] at hk
    omega
theorem own_nil {w1 : World} {B' : Nat} {e : TypeId} {sz : Nat} : w1.ownsRow B' e sz (.slice none 0 0) 0 [] :=
  ⟨by simp, .inl ⟨rfl, rfl⟩⟩
theorem own_form (h : w.ownsRow B e sz v n xs) : ∃ A c, v = .slice A n c := by
  rcases h.2 with ⟨rfl, rfl⟩ | ⟨g, cap, cur, rfl, _⟩
  · exact ⟨_, _, rfl⟩
  · exact ⟨_, _, rfl⟩
theorem own_sl {A : Option Addr} {c : Nat} (h : w.ownsRow B e sz (.slice A n c) n xs) : Sl w w.heap.size sz A n xs := by
  refine ⟨h.1, Nat.le_refl _, fun hn => ?_⟩
  rcases h.2 with ⟨_, h0⟩ | ⟨g, cap, cur, hv, hb, hg, _⟩
  · omega
  · injection hv with hA
    subst hA
    refine ⟨g, 0, rfl, (Array.getElem?_eq_some_iff.1 hg).1, fun j u hu => ?_⟩
    have := h.cells (g := g) rfl j u hu
    rw [Addr.add_mid] at this
    exact this
theorem own_ne (h : w.ownsRow B e sz v n xs) {g : Nat} {t : TypeId} {cs : List Value} (hg : Bk w g t cs) (hne : e ≠ t) : v.ownBlock ≠ some g := by
  rcases h.2 with ⟨rfl, _⟩ | ⟨g', cap, cur, rfl, _, hh, _⟩
  · simp [Value.ownBlock]
  · intro he
    simp only [Value.ownBlock, Option.some.injEq] at he
    subst he
    have hg' : w.heap[g']? = some (.cells cs.toArray t (0, 0)) := hg
    rw [hh] at hg'
    injection hg' with h1
    injection h1 with _ h2
    exact hne h2
end

/-! ### The moves on memory -/
def zeroOf (P : Program) (t : TypeId) : Option Value := (P.info? t).bind (·.zero)
theorem Bk.row {w : World} {g : Nat} {t : TypeId} {cs : List Value} (h : Bk w g t cs) : w.rowIs g t cs.length (fun j => cs.getD j undef) :=
  ⟨cs.toArray, h, by simp, fun i hi => by simp [hi]⟩
/-- an owned row of at least one element, as a row told by a function -/
theorem own_row {w : World} {B : Nat} {e : TypeId} {sz n c : Nat} {A : Option Addr} {xs : List Value} (h : w.ownsRow B e sz (.slice A n c) n xs) (hn : 0 < n) :
    ∃ g m f, A = some ⟨g, 0, none⟩ ∧ B ≤ g ∧ w.rowIs g e m f ∧ n * sz ≤ m ∧ ∀ i, i < n * sz → xs[i]? = some (f i) := by
  rcases h.2 with ⟨_, h0⟩ | ⟨g, cap, cur, hv, hb, hg, hnc, _, hcs, htake⟩
  · omega
  · injection hv with hA
    subst hA
    refine ⟨g, cap * sz, fun i => cur.getD i undef, rfl, hb, ⟨cur, hg, hcs, fun i hi => ?_⟩, Nat.mul_le_mul_right _ hnc, fun i hi => ?_⟩
    · show _ = some (cur.getD i undef)
      rw [Array.getD_eq_getD_getElem?, Array.getElem?_eq_getElem (by omega)]; rfl
    · have hic : i < cur.size := by have := Nat.mul_le_mul_right sz hnc; omega
      show _ = some (cur.getD i undef)
      rw [← htake, List.getElem?_take, if_pos hi, Array.getD_eq_getD_getElem?, Array.getElem?_eq_getElem hic]
      simp [hic]
theorem own_ne_row {w : World} {B : Nat} {e : TypeId} {sz n : Nat} {v : Value} {xs : List Value} (h : w.ownsRow B e sz v n xs) {g : Nat} {t : TypeId} {m : Nat} {f : Nat → Value} (hg : w.rowIs g t m f) (hne : e ≠ t) : v.ownBlock ≠ some g := by
  obtain ⟨c, hc, _⟩ := hg
  rcases h.2 with ⟨rfl, _⟩ | ⟨g', cap, cur, rfl, _, hh, _⟩
  · simp [Value.ownBlock]
  · intro he
    simp only [Value.ownBlock, Option.some.injEq] at he
    subst he
    rw [hh] at hc
    injection hc with h1
    injection h1 with _ h2
    exact hne h2
section
variable {P : Program} {T : Tab} {n : Nat} {R : Env → World → Prop} {fr : Fra} {all : Array Oper} {l : List Oper} {k : List It} {ρ : Env} {dec : List Nat} {w : World} {o : Oper}
theorem r_load (hT : tabOk P T = true) {t : TypeId} {x : Operand} (ho : o.op = .load t x) (ht : isOne T t = true) {a : Addr} (hx : ev n ρ x = .pointer (some a)) {v : Value} (hc : w.cell? a = some v) : (execOp (ev n ρ) o).run P w = .ok (.value v) w := by
  obtain ⟨⟨d, hd⟩, hag, _⟩ := tab_one hT ht
  simp [execOp, ho, hx, Instr.loadAt, Instr.sureAddr, loadVar, run_isAgg _ _ hd, hag, hc]
theorem ld (hT : tabOk P T = true) (hw : wantB n ρ all o = true) {t : TypeId} {x : Operand} (ho : o.op = .load t x) (ht : isOne T t = true) {a : Addr} (hx : ev n ρ x = .pointer (some a)) {v : Value} (hc : w.cell? a = some v)
    (h : At P n R fr all l k (updo ρ o.dst v) dec w) : At P n R fr all (o :: l) k ρ dec w := op_val hw (r_load hT ho ht hx hc) h
theorem r_loadA (hT : tabOk P T = true) {t : TypeId} {x : Operand} (ho : o.op = .load t x) {m : Nat} {fs : List (Nat × Nat × Bool)} {zs : List Value} (ht : Tab.get T t = some (.str m fs zs)) {b off : Nat}
    (hx : ev n ρ x = .pointer (some ⟨b, off, none⟩)) {cs : List Value} (hm : Nat.beq (lenL cs) m = true) (hc : cellsAt w b off cs) : (execOp (ev n ρ) o).run P w = .ok (.value (.agg cs.toArray)) w := by
  obtain ⟨gs, hgs, _, i, hi, him, _⟩ := tab_str hT ht
  have hm := Nat.eq_of_beq_eq_true hm
  rw [lenL_eq] at hm
  have e1 : (loadCells ⟨b, off, none⟩ cs.length).run P w = .ok cs.toArray w := run_loadCells_list w _ cs fun j v hv => by rw [Addr.add_mid]; exact hc j v hv
  have hag : aggB P t = true := by simp [aggB, hgs]
  simp [execOp, ho, hx, Instr.loadAt, Instr.sureAddr, loadVar, run_isAgg _ _ hgs, hag, run_sizeOf hi, him, ← hm, e1]
theorem ldA (hT : tabOk P T = true) (hw : wantB n ρ all o = true) {t : TypeId} {x : Operand} (ho : o.op = .load t x) {m : Nat} {fs : List (Nat × Nat × Bool)} {zs : List Value} (ht : Tab.get T t = some (.str m fs zs)) {b off : Nat}
    (hx : ev n ρ x = .pointer (some ⟨b, off, none⟩)) {cs : List Value} (hm : Nat.beq (lenL cs) m = true) (hc : cellsAt w b off cs)
    (h : At P n R fr all l k (updo ρ o.dst (.agg cs.toArray)) dec w) : At P n R fr all (o :: l) k ρ dec w := op_val hw (r_loadA hT ho ht hx hm hc) h
/-- a store of one cell into a block known whole -/
theorem st (hT : tabOk P T = true) (hw : wantB n ρ all o = true) {t : TypeId} {x y : Operand} (ho : o.op = .store t x y) (ht : isOne T t = true) {g i : Nat} (hx : ev n ρ x = .pointer (some ⟨g, i, none⟩)) {v : Value} (hy : ev n ρ y = v) (h1 : v.oneCell' = true)
    {tg : TypeId} {cs : List Value} (hb : Bk w g tg cs) (hi : Nat.blt i (lenL cs) = true)
    (h : ∀ w', Chg (fun k => k = g) w w' → Bk w' g tg (cs.set i v) → w'.heap.size = w.heap.size → At P n R fr all l k (updo ρ o.dst undef) dec w') : At P n R fr all (o :: l) k ρ dec w := by
  obtain ⟨_, _, inf, hinf, hsz⟩ := tab_one hT ht
  have hi := Nat.blt_eq.mp hi
  rw [lenL_eq] at hi
  have hc : w.cell? ⟨g, i, none⟩ = some cs[i] := hb.getE (List.getElem?_eq_getElem hi)
  have hf : w.frozen? ⟨g, i, none⟩ = false := hb.free _ rfl
  refine op_skip (w' := w.setCell ⟨g, i, none⟩ v) hw ?_ (h _ (Chg.setCell w ⟨g, i, none⟩ v) (hb.set i v) (by simp))
  have hcells : v.cells = #[v] := by cases v <;> first | rfl | (simp [Value.oneCell'] at h1)
  simp [execOp, ho, hx, hy, Instr.storeAt, Instr.sureAddr, storeVar, hcells, run_sizeOf hinf, hsz, storeCells, Addr.add_zero', run_store P w _ v _ h1, hc, hf]
/-- a store of one cell, of which only the cell is known -/
theorem stC (hT : tabOk P T = true) (hw : wantB n ρ all o = true) {t : TypeId} {x y : Operand} (ho : o.op = .store t x y) (ht : isOne T t = true) {g i : Nat} (hx : ev n ρ x = .pointer (some ⟨g, i, none⟩)) {v : Value} (hy : ev n ρ y = v) (h1 : v.oneCell' = true)
    {u : Value} (hc : w.cell? ⟨g, i, none⟩ = some u) (hf : w.frozen? ⟨g, i, none⟩ = false)
    (h : At P n R fr all l k (updo ρ o.dst undef) dec (w.setCell ⟨g, i, none⟩ v)) : At P n R fr all (o :: l) k ρ dec w := by
  obtain ⟨_, _, inf, hinf, hsz⟩ := tab_one hT ht
  refine op_skip (w' := w.setCell ⟨g, i, none⟩ v) hw ?_ h
  have hcells : v.cells = #[v] := by cases v <;> first | rfl | (simp [Value.oneCell'] at h1)
  simp [execOp, ho, hx, hy, Instr.storeAt, Instr.sureAddr, storeVar, hcells, run_sizeOf hinf, hsz, storeCells, Addr.add_zero', run_store P w _ v _ h1, hc, hf]
theorem rowIs_keep {M : Nat → Prop} {w w' : World} {b : Nat} {t : TypeId} {m : Nat} {f : Nat → Value} (h : w.rowIs b t m f) (c : Chg M w w') (hn : ¬ M b) : w'.rowIs b t m f := h.of_block (c.block b h.lt hn)
theorem rowIs_no {w w' : World} {b : Nat} {t : TypeId} {m : Nat} {f : Nat → Value} (h : w.rowIs b t m f) (c : Chg No w w') : w'.rowIs b t m f := rowIs_keep h c fun h => h
/-- a store of one cell into a row told by a function -/
theorem stR (hT : tabOk P T = true) (hw : wantB n ρ all o = true) {t : TypeId} {x y : Operand} (ho : o.op = .store t x y) (ht : isOne T t = true) {g i : Nat} (hx : ev n ρ x = .pointer (some ⟨g, i, none⟩)) {v : Value} (hy : ev n ρ y = v) (h1 : v.oneCell' = true)
    {tg : TypeId} {m : Nat} {f : Nat → Value} (hb : w.rowIs g tg m f) (hi : i < m)
    (h : ∀ w', Chg (fun k => k = g) w w' → w'.rowIs g tg m (fun j => if j = i then v else f j) → w'.heap.size = w.heap.size → At P n R fr all l k (updo ρ o.dst undef) dec w') : At P n R fr all (o :: l) k ρ dec w :=
  stC hT hw ho ht hx hy h1 (hb.cell hi) (hb.frozen i) (h _ (Chg.setCell w ⟨g, i, none⟩ v) (hb.set i v) (by simp))
/-- a struct of one-cell fields, written out over its zero value (however large) -/
theorem fill_ones (pl : Nat → Option (Nat × Nat)) : ∀ (ps : List (Nat × Value)) (offs : List Nat) (cs : Array Value), ps.length = offs.length → (∀ p ∈ ps.zip offs, pl p.1.1 = some (p.2, 1) ∧ p.1.2.cells = #[p.1.2] ∧ p.2 < cs.size) →
    Instr.fill pl cs ps = some ((ps.zip offs).foldl (fun cs p => cs.setIfInBounds p.2 p.1.2) cs) := by
  intro ps
  induction ps with
  | nil => intro offs cs _ _; rfl
  | cons p ps ih =>
    intro offs cs hl h
    cases offs with
    | nil => simp at hl
    | cons off offs =>
      obtain ⟨i, v⟩ := p
      obtain ⟨h1, h2, h3⟩ := h ((i, v), off) (by simp)
      simp only [Instr.fill, h1, h2]
      rw [if_neg (by simp; omega)]
      have := ih offs (cs.setIfInBounds off v) (by simpa using hl) (fun p hp => by
        have := h p (by simp [hp])
        exact ⟨this.1, this.2.1, by simpa using this.2.2⟩)
      simpa using this
def offsOk (n : Nat) (ρ : Env) (fs : List (Nat × Nat × Bool)) (m : Nat) : List (Nat × Operand) → List Nat → Bool
  | [], [] => true
  | (i, x) :: ps, off :: os => (match nthF fs i with | some (a, b, _) => Nat.beq a off && (Nat.beq b 1 && (Nat.blt off m && (ev n ρ x).oneCell')) | none => false) && offsOk n ρ fs m ps os
  | _, _ => false
theorem offsOk_mem {n : Nat} {ρ : Env} {fs : List (Nat × Nat × Bool)} {m : Nat} : ∀ {ps : List (Nat × Operand)} {os : List Nat}, offsOk n ρ fs m ps os = true → ps.length = os.length ∧
    ∀ p ∈ (ps.map fun p => (p.1, ev n ρ p.2)).zip os, (∃ ag, nthF fs p.1.1 = some (p.2, 1, ag)) ∧ p.1.2.cells = #[p.1.2] ∧ p.2 < m := by
  intro ps
  induction ps with
  | nil => intro os h; cases os <;> first | (exact ⟨rfl, by simp⟩) | cases h
  | cons p ps ih =>
    intro os h
    cases os with
    | nil => cases h
    | cons off os =>
      obtain ⟨i, x⟩ := p
      simp only [offsOk, Bool.and_eq_true] at h
      obtain ⟨h1, h2⟩ := h
      obtain ⟨h3, h4⟩ := ih h2
      refine ⟨by simp [h3], ?_⟩
      intro q hq
      simp only [List.map_cons, List.zip_cons_cons, List.mem_cons] at hq
      rcases hq with rfl | hq
      · split at h1
        · rename_i a b ag hf
          simp only [Bool.and_eq_true] at h1
          obtain ⟨e1, e2, e3, e4⟩ := h1
          obtain rfl := Nat.eq_of_beq_eq_true e1
          obtain rfl := Nat.eq_of_beq_eq_true e2
          refine ⟨⟨ag, hf⟩, ?_, Nat.blt_eq.mp e3⟩
          revert e4
          show (ev n ρ x).oneCell' = true → (ev n ρ x).cells = #[ev n ρ x]
          generalize ev n ρ x = v
          intro e4
          cases v <;> first | rfl | cases e4
        · cases h1
      · exact h4 q hq
/-- a struct of whatever size, some of its one-cell fields written out over the zero value -/
theorem bigB (hT : tabOk P T = true) (hw : wantB n ρ all o = true) {t : TypeId} {ps : Array (Nat × Operand)} (ho : o.op = .build t ps) {m : Nat} {fs : List (Nat × Nat × Bool)} {zs : List Value} (ht : Tab.get T t = some (.str m fs zs)) {z : Value} (hz : zeroOf P t = some z) (hm : z.cells.size = m)
    (offs : List Nat) (hoff : offsOk n ρ fs m ps.toList offs = true)
    (h : At P n R fr all l k (updo ρ o.dst (.agg (((ps.toList.map fun p => (p.1, ev n ρ p.2)).zip offs).foldl (fun cs p => cs.setIfInBounds p.2 p.1.2) z.cells))) dec w) : At P n R fr all (o :: l) k ρ dec w := by
  obtain ⟨gs, hgs, hok, i, hi, him, _⟩ := tab_str hT ht
  have hz' : i.zero = some z := by
    unfold zeroOf at hz
    rw [hi] at hz
    exact hz
  obtain ⟨hl, hmem⟩ := offsOk_mem hoff
  refine op_val hw ?_ h
  have e2 := run_places (P := P) w hok
  have e3 : (ps.map fun (p : Nat × Operand) => (p.1, ev n ρ p.2)).toList = ps.toList.map fun p => (p.1, ev n ρ p.2) := by simp
  have e4 := fill_ones (fun i => ((fs.map fun x => (x.1, x.2.1)).toArray)[i]?) (ps.toList.map fun p => (p.1, ev n ρ p.2)) offs z.cells (by simpa using hl) (by
    intro p hp
    obtain ⟨⟨ag, h1⟩, h2, h3⟩ := hmem p hp
    refine ⟨?_, h2, by rw [hm]; exact h3⟩
    have : ∀ (fs : List (Nat × Nat × Bool)) (i : Nat), nthF fs i = some (p.2, 1, ag) → fs[i]? = some (p.2, 1, ag) := by
      intro fs
      induction fs with
      | nil => intro i h; cases i <;> cases h
      | cons x xs ih => intro i h; cases i <;> simp_all [nthF]
    simp [this fs _ h1])
  simp only [execOp, ho, Instr.build, Sem.run_bind, zeroValue, typeInfo, run_program, Result.andThen_ok, hi, Sem.run_pure, hz', run_underlying hgs, Array.mapM_eq_mapM_toList, Sem.run_map, e2]
  rw [e3, e4]
  rfl
theorem oneCells {vs : List Value} (h : vs.all (·.oneCell') = true) : ∀ v ∈ vs, v.oneCell' = true := fun v hv => List.all_eq_true.1 h v hv
/-- a store of a struct into a block known whole -/
theorem r_stA (hT : tabOk P T = true) {t : TypeId} {x y : Operand} (ho : o.op = .store t x y) {m : Nat} {fs : List (Nat × Nat × Bool)} {zs : List Value} (ht : Tab.get T t = some (.str m fs zs)) {g i : Nat}
    (hx : ev n ρ x = .pointer (some ⟨g, i, none⟩)) {vs : List Value} (hy : ev n ρ y = .agg vs.toArray) (hm : Nat.beq (lenL vs) m = true) (h1 : vs.all (·.oneCell') = true)
    {tg : TypeId} {cs : List Value} (hb : Bk w g tg cs) (hi : Nat.ble (i + m) (lenL cs) = true) :
    ∃ w', (execOp (ev n ρ) o).run P w = .ok .skip w' ∧ Chg (fun k => k = g) w w' ∧ Bk w' g tg (putL i vs cs) ∧ w'.heap.size = w.heap.size := by
  obtain ⟨gs, hgs, _, inf, hinf, hsz, _⟩ := tab_str hT ht
  have hi := Nat.le_of_ble_eq_true hi
  have hm := Nat.eq_of_beq_eq_true hm
  rw [lenL_eq] at hm hi
  have hst := run_storeCells_at P g i tg vs 0 cs.toArray w hb (by simp; omega) (oneCells h1)
  simp only [Nat.add_zero] at hst
  have hput : ∀ (cs : List Value) (i : Nat) (vs : List Value), i + vs.length ≤ cs.length → cs.take i ++ vs ++ cs.drop (i + vs.length) = putL i vs cs := by
    intro cs
    induction cs with
    | nil => intro i vs h; cases i <;> cases vs <;> simp at h ⊢ <;> rfl
    | cons c cs ih =>
      intro i vs h
      cases i with
      | zero =>
        cases vs with
        | nil => simp [putL]
        | cons v vs =>
          have := ih 0 vs (by simp at h ⊢; omega)
          simp only [List.take_zero, List.nil_append, Nat.zero_add] at this
          simp [putL, ← this]
      | succ i =>
        have := ih i vs (by simp at h; omega)
        rw [putL, ← this]
        simp [Nat.add_right_comm i 1]
  refine ⟨w.setRow g (cs.take i ++ vs ++ cs.drop (i + vs.length)).toArray, ?_, Chg.setRow w g _, ?_, by simp⟩
  · have e1 : inf.size = vs.length := by omega
    simp only [execOp, ho, hx, hy, Instr.storeAt, Instr.sureAddr, storeVar, Value.cells, Sem.run_bind, Sem.run_pure, Result.andThen_ok, run_sizeOf hinf, e1, List.size_toArray, ne_eq, not_true_eq_false, if_false]
    have e2 : (cs.toArray.toList.take i ++ vs ++ cs.toArray.toList.drop (i + vs.length)) = (cs.take i ++ vs ++ cs.drop (i + vs.length)) := by simp
    rw [e2] at hst
    rw [hst]
    rfl
  · rw [← hput cs i vs (by omega)]
    exact setRow_heap w g _ _ tg _ hb
theorem stA (hT : tabOk P T = true) (hw : wantB n ρ all o = true) {t : TypeId} {x y : Operand} (ho : o.op = .store t x y) {m : Nat} {fs : List (Nat × Nat × Bool)} {zs : List Value} (ht : Tab.get T t = some (.str m fs zs)) {g i : Nat}
    (hx : ev n ρ x = .pointer (some ⟨g, i, none⟩)) {vs : List Value} (hy : ev n ρ y = .agg vs.toArray) (hm : Nat.beq (lenL vs) m = true) (h1 : vs.all (·.oneCell') = true)
    {tg : TypeId} {cs : List Value} (hb : Bk w g tg cs) (hi : Nat.ble (i + m) (lenL cs) = true)
    (h : ∀ w', Chg (fun k => k = g) w w' → Bk w' g tg (putL i vs cs) → w'.heap.size = w.heap.size → At P n R fr all l k (updo ρ o.dst undef) dec w') : At P n R fr all (o :: l) k ρ dec w := by
  obtain ⟨w', h1, h2, h3, h4⟩ := r_stA hT ho ht hx hy hm h1 hb hi
  exact op_skip hw h1 (h w' h2 h3 h4)
/-- a new variable that holds a value -/
theorem bx (hw : wantB n ρ all o = true) {t : TypeId} {x : Operand} (ho : o.op = .box t x) {v : Value} (hx : ev n ρ x = v) {cs : List Value} (hv : v.cells = cs.toArray)
    (h : ∀ g w', w.heap.size = g → w'.heap.size = g + 1 → Chg No w w' → Bk w' g t cs → At P n R fr all l k (updo ρ o.dst (.pointer (some ⟨g, 0, none⟩))) dec w') : At P n R fr all (o :: l) k ρ dec w := by
  refine op_val (w' := w.alloc (.cells cs.toArray t)) hw ?_ (h _ _ rfl (by simp) (Chg.alloc w _) (Bk.new w t cs))
  simp [execOp, ho, hx, Instr.box, newVar, newRow, hv]
/-- a new variable that holds its type's zero value -/
theorem nw (hw : wantB n ρ all o = true) {t : TypeId} (ho : o.op = .alloc t) {z : Value} (hz : zeroOf P t = some z) {cs : List Value} (hv : z.cells = cs.toArray)
    (h : ∀ g w', w.heap.size = g → w'.heap.size = g + 1 → Chg No w w' → Bk w' g t cs → At P n R fr all l k (updo ρ o.dst (.pointer (some ⟨g, 0, none⟩))) dec w') : At P n R fr all (o :: l) k ρ dec w := by
  refine op_val (w' := w.alloc (.cells cs.toArray t)) hw ?_ (h _ _ rfl (by simp) (Chg.alloc w _) (Bk.new w t cs))
  unfold zeroOf at hz
  cases hi : P.info? t with
  | none => rw [hi] at hz; cases hz
  | some i =>
    rw [hi] at hz
    simp only [Option.bind_some] at hz
    simp [execOp, ho, Instr.alloc, zeroValue, typeInfo, hi, hz, newVar, newRow, hv]
/-- the place of an element of a slice -/
theorem r_idx (hT : tabOk P T = true) {t : TypeId} {x y : Operand} (ho : o.op = .indexAddr t x y) {e es eb : Nat} (ht : Tab.get T t = some (.slc e es eb)) {b off len cap : Nat}
    (hx : ev n ρ x = .slice (some ⟨b, off, none⟩) len cap) {kd : IntKind} {i : Int} (hy : ev n ρ y = .int kd i) (j : Nat) (hj : i = (j : Int)) (hlt : j < len) : (execOp (ev n ρ) o).run P w = .ok (.value (.pointer (some ⟨b, off + j * es, none⟩))) w := by
  obtain ⟨hu, inf, z, hi, hs, _⟩ := tab_slc hT ht
  subst hj
  simp [execOp, ho, hx, hy, Instr.indexAt, asIntOf, run_underlying hu, run_sizeOf hi, hs, Addr.add_mid, hlt]
theorem idx (hT : tabOk P T = true) (hw : wantB n ρ all o = true) {t : TypeId} {x y : Operand} (ho : o.op = .indexAddr t x y) {e es eb : Nat} (ht : Tab.get T t = some (.slc e es eb)) {b off len cap : Nat}
    (hx : ev n ρ x = .slice (some ⟨b, off, none⟩) len cap) {kd : IntKind} {i : Int} (hy : ev n ρ y = .int kd i) (j : Nat) (hj : i = (j : Int)) (hlt : j < len)
    (h : At P n R fr all l k (updo ρ o.dst (.pointer (some ⟨b, off + j * es, none⟩))) dec w) : At P n R fr all (o :: l) k ρ dec w := op_val hw (r_idx hT ho ht hx hy j hj hlt) h
/-- the place of an element of an array -/
theorem r_idxA (hT : tabOk P T = true) {t : TypeId} {x y : Operand} (ho : o.op = .indexAddr t x y) {len es : Nat} {ea : Bool} (ht : Tab.get T t = some (.arr len es ea)) {b off : Nat}
    (hx : ev n ρ x = .pointer (some ⟨b, off, none⟩)) {kd : IntKind} {i : Int} (hy : ev n ρ y = .int kd i) (j : Nat) (hj : i = (j : Int)) (hlt : j < len) : (execOp (ev n ρ) o).run P w = .ok (.value (.pointer (some ⟨b, off + j * es, none⟩))) w := by
  have := tab_get hT ht
  simp only [tyOk] at this
  split at this
  · rename_i m e hu
    simp only [Bool.and_eq_true] at this
    obtain ⟨⟨⟨⟨h1, h2⟩, h3⟩, h4⟩, h5⟩ := this
    obtain rfl := Nat.eq_of_beq_eq_true h1
    cases hi : P.info? e with
    | none => rw [hi] at h2; cases h2
    | some inf =>
      rw [hi] at h2
      have hs : inf.size = es := by simpa using h2
      subst hj
      simp [execOp, ho, hx, hy, Instr.indexAt, asIntOf, Instr.sureAddr, run_underlying hu, run_sizeOf hi, hs, Addr.add_mid, hlt]
  · cases this
theorem idxA (hT : tabOk P T = true) (hw : wantB n ρ all o = true) {t : TypeId} {x y : Operand} (ho : o.op = .indexAddr t x y) {len es : Nat} {ea : Bool} (ht : Tab.get T t = some (.arr len es ea)) {b off : Nat}
    (hx : ev n ρ x = .pointer (some ⟨b, off, none⟩)) {kd : IntKind} {i : Int} (hy : ev n ρ y = .int kd i) (j : Nat) (hj : i = (j : Int)) (hlt : j < len)
    (h : At P n R fr all l k (updo ρ o.dst (.pointer (some ⟨b, off + j * es, none⟩))) dec w) : At P n R fr all (o :: l) k ρ dec w := op_val hw (r_idxA hT ho ht hx hy j hj hlt) h
/-- division by what is not 0 -/
theorem r_quo {t ty : TypeId} {x y : Operand} (ho : o.op = .binOp .quo t x y ty) {a b : Int} (hx : ev n ρ x = .int .i64 a) (hy : ev n ρ y = .int .i64 b) (hb : b ≠ 0) : (execOp (ev n ρ) o).run P w = .ok (.value (.int .i64 (w64 (a.tdiv b)))) w := by
  simp [execOp, ho, hx, hy, eqGuard, binOp, Op.intDiv, hb, w64]
theorem quo (hw : wantB n ρ all o = true) {t ty : TypeId} {x y : Operand} (ho : o.op = .binOp .quo t x y ty) {a b : Int} (hx : ev n ρ x = .int .i64 a) (hy : ev n ρ y = .int .i64 b) (hb : b ≠ 0)
    (h : At P n R fr all l k (updo ρ o.dst (.int .i64 (w64 (a.tdiv b)))) dec w) : At P n R fr all (o :: l) k ρ dec w := by
  refine op_val hw ?_ h
  simp [execOp, ho, hx, hy, eqGuard, binOp, Op.intDiv, hb, w64]
theorem r_quoN {t ty : TypeId} {x y : Operand} (ho : o.op = .binOp .quo t x y ty) {a b : Int} (hx : ev n ρ x = .int .i64 a) (hy : ev n ρ y = .int .i64 b) (ha : 0 ≤ a) (ha2 : a ≤ 9223372036854775807) (hb : 0 < b) : (execOp (ev n ρ) o).run P w = .ok (.value (.int .i64 (a / b))) w := by
  rw [r_quo ho hx hy (by omega), Int.tdiv_eq_ediv_of_nonneg ha, w64_id]
  · have := Int.ediv_nonneg ha (by omega : 0 ≤ b); omega
  · have := Int.ediv_le_self b ha; omega
theorem quoN (hw : wantB n ρ all o = true) {t ty : TypeId} {x y : Operand} (ho : o.op = .binOp .quo t x y ty) {a b : Int} (hx : ev n ρ x = .int .i64 a) (hy : ev n ρ y = .int .i64 b) (ha : 0 ≤ a) (ha2 : a ≤ 9223372036854775807) (hb : 0 < b)
    (h : At P n R fr all l k (updo ρ o.dst (.int .i64 (a / b))) dec w) : At P n R fr all (o :: l) k ρ dec w := by
  refine quo hw ho hx hy (by omega) ?_
  rw [Int.tdiv_eq_ediv_of_nonneg ha, w64_id]
  · exact h
  · have := Int.ediv_nonneg ha (by omega : 0 ≤ b); omega
  · have := Int.ediv_le_self b ha; omega
theorem r_rem {t ty : TypeId} {x y : Operand} (ho : o.op = .binOp .rem t x y ty) {a b : Int} (hx : ev n ρ x = .int .i64 a) (hy : ev n ρ y = .int .i64 b) (hb : b ≠ 0) : (execOp (ev n ρ) o).run P w = .ok (.value (.int .i64 (a.tmod b))) w := by
  simp [execOp, ho, hx, hy, eqGuard, binOp, Op.intDiv, hb]
theorem rem (hw : wantB n ρ all o = true) {t ty : TypeId} {x y : Operand} (ho : o.op = .binOp .rem t x y ty) {a b : Int} (hx : ev n ρ x = .int .i64 a) (hy : ev n ρ y = .int .i64 b) (hb : b ≠ 0)
    (h : At P n R fr all l k (updo ρ o.dst (.int .i64 (a.tmod b))) dec w) : At P n R fr all (o :: l) k ρ dec w := by
  refine op_val hw ?_ h
  simp [execOp, ho, hx, hy, eqGuard, binOp, Op.intDiv, hb]
theorem remN (hw : wantB n ρ all o = true) {t ty : TypeId} {x y : Operand} (ho : o.op = .binOp .rem t x y ty) {a b : Int} (hx : ev n ρ x = .int .i64 a) (hy : ev n ρ y = .int .i64 b) (ha : 0 ≤ a) (hb : b ≠ 0)
    (h : At P n R fr all l k (updo ρ o.dst (.int .i64 (a % b))) dec w) : At P n R fr all (o :: l) k ρ dec w := by
  refine rem hw ho hx hy hb ?_
  rw [Int.tmod_eq_emod_of_nonneg ha]
  exact h
/-- shifts by what is not below 0 -/
theorem shr (hw : wantB n ρ all o = true) {t ty : TypeId} {x y : Operand} (ho : o.op = .binOp .shr t x y ty) {a b : Int} {kd : IntKind} (hx : ev n ρ x = .int .i64 a) (hy : ev n ρ y = .int kd b) (j : Nat) (hj : b = (j : Int)) (hj2 : j ≤ 64)
    (h : At P n R fr all l k (updo ρ o.dst (.int .i64 (a.fdiv (2 ^ j)))) dec w) : At P n R fr all (o :: l) k ρ dec w := by
  refine op_val hw ?_ h
  subst hj
  have e1 : ¬ ((j : Int) < 0) := by omega
  have e2 : min j 64 = j := by omega
  simp only [execOp, ho, hx, hy, Sem.run_bind, eqGuard_shr, Sem.run_pure, Result.andThen_ok, binOp_shr, Op.shift, if_neg e1, Int.toNat_natCast, IntKind.bits, e2]
theorem shl (hw : wantB n ρ all o = true) {t ty : TypeId} {x y : Operand} (ho : o.op = .binOp .shl t x y ty) {a b : Int} {kd : IntKind} (hx : ev n ρ x = .int .i64 a) (hy : ev n ρ y = .int kd b) (j : Nat) (hj : b = (j : Int)) (hj2 : j ≤ 64)
    (h : At P n R fr all l k (updo ρ o.dst (.int .i64 (w64 (a * 2 ^ j)))) dec w) : At P n R fr all (o :: l) k ρ dec w := by
  refine op_val hw ?_ h
  subst hj
  have e1 : ¬ ((j : Int) < 0) := by omega
  have e2 : min j 64 = j := by omega
  simp only [execOp, ho, hx, hy, Sem.run_bind, eqGuard_shl, Sem.run_pure, Result.andThen_ok, binOp_shl, Op.shift, if_neg e1, Int.toNat_natCast, IntKind.bits, e2, w64]

/-! ### Rows written out; append -/
def catL : List Value → List Value → List Value
  | [], m => m
  | v :: l, m => v :: catL l m
theorem catL_eq (l m : List Value) : catL l m = l ++ m := by induction l <;> simp [catL, *]
def flatC (n : Nat) (ρ : Env) : List (Nat × Operand) → List Value
  | [] => []
  | (_, x) :: ps => forceC (ev n ρ x) fun vs => catL vs (flatC n ρ ps)
def rowOk (n : Nat) (ρ : Env) (es : Nat) : Nat → List (Nat × Operand) → Bool
  | _, [] => true
  | i, (j, x) :: ps => bif Nat.beq j i then forceC (ev n ρ x) fun vs => bif Nat.beq (lenL vs) es then rowOk n ρ es (i + 1) ps else false else false
theorem rowOk_fill {n : Nat} {ρ : Env} {es : Nat} : ∀ (ps : List (Nat × Operand)) (i : Nat) (pre rest : List Value), rowOk n ρ es i ps = true → pre.length = i * es → rest.length = ps.length * es →
    Instr.fill (fun i => some (i * es, es)) (pre ++ rest).toArray (ps.map fun p => (p.1, ev n ρ p.2)) = some (pre ++ flatC n ρ ps).toArray ∧ (flatC n ρ ps).length = ps.length * es := by
  intro ps
  induction ps with
  | nil =>
    intro i pre rest _ _ hr
    have : rest = [] := List.eq_nil_of_length_eq_zero (by simpa using hr)
    subst this
    exact ⟨rfl, by simp [flatC]⟩
  | cons p ps ih =>
    obtain ⟨j, x⟩ := p
    intro i pre rest h hp hr
    simp only [rowOk, forceC_eq] at h
    cases hj : Nat.beq j i with
    | false => rw [hj] at h; cases h
    | true =>
      rw [hj] at h
      obtain rfl := Nat.eq_of_beq_eq_true hj
      simp only [cond_true] at h
      cases hl : Nat.beq (lenL (ev n ρ x).cells.toList) es with
      | false => rw [hl] at h; cases h
      | true =>
        rw [hl] at h
        have hl := Nat.eq_of_beq_eq_true hl
        rw [lenL_eq] at hl
        have hr' : rest.length = ps.length * es + es := by rw [hr, List.length_cons, Nat.succ_mul]
        have hput : putL (j * es) (ev n ρ x).cells.toList (pre ++ rest) = (pre ++ (ev n ρ x).cells.toList) ++ rest.drop es := by
          have hput : ∀ (cs : List Value) (i : Nat) (vs : List Value), i + vs.length ≤ cs.length → putL i vs cs = cs.take i ++ vs ++ cs.drop (i + vs.length) := by
            intro cs
            induction cs with
            | nil => intro i vs h; cases i <;> cases vs <;> simp at h ⊢ <;> rfl
            | cons c cs ih =>
              intro i vs h
              cases i with
              | zero =>
                cases vs with
                | nil => simp [putL]
                | cons v vs =>
                  have := ih 0 vs (by simp at h ⊢; omega)
                  simp only [List.take_zero, List.nil_append, Nat.zero_add] at this
                  simp [putL, this]
              | succ i =>
                have := ih i vs (by simp at h; omega)
                rw [putL, this]
                simp [Nat.add_right_comm i 1]
          rw [hput _ _ _ (by simp only [List.length_append]; omega), ← hp, hl, List.take_left, List.drop_append, List.drop_of_length_le (by omega)]
          simp
        have h2 := ih (j + 1) (pre ++ (ev n ρ x).cells.toList) (rest.drop es) h (by simp only [List.length_append, hp, hl, Nat.add_mul, Nat.one_mul]) (by simp only [List.length_drop]; omega)
        refine ⟨?_, ?_⟩
        · simp only [List.map_cons, Instr.fill]
          have e1 : (ev n ρ x).cells.size = es := by simpa using hl
          have e2 : ((decide ((ev n ρ x).cells.size ≠ es)) || decide (j * es + (ev n ρ x).cells.size > (pre ++ rest).toArray.size)) = false := by
            rw [e1]
            simp only [ne_eq, not_true_eq_false, decide_false, Bool.false_or, List.size_toArray, List.length_append, decide_eq_false_iff_not]
            omega
          rw [e2, if_neg (by simp)]
          have e3 : (ev n ρ x).cells.zipIdx.foldl (fun (cs : Array Value) (p : Value × Nat) => cs.setIfInBounds (j * es + p.2) p.1) (pre ++ rest).toArray = ((pre ++ (ev n ρ x).cells.toList) ++ rest.drop es).toArray := by
            rw [← hput, putL_eq, ← Array.foldl_toList, Array.toList_zipIdx]
          rw [e3, h2.1]
          simp [flatC, forceC_eq, catL_eq]
        · simp only [flatC, forceC_eq, catL_eq, List.length_append, h2.2, hl, List.length_cons, Nat.add_mul, Nat.one_mul]
          omega
def lenP : List (Nat × Operand) → Nat
  | [] => 0
  | _ :: l => lenP l + 1
theorem lenP_eq (l : List (Nat × Operand)) : lenP l = l.length := by induction l <;> simp [lenP, *]
theorem r_row (hT : tabOk P T = true) {t m : Nat} {ps : Array (Nat × Operand)} (ho : o.op = .buildSlice t m ps) {e es eb : Nat} (ht : Tab.get T t = some (.slc e es eb)) (hm : Nat.beq (lenP ps.toList) m = true) (hrow : rowOk n ρ es 0 ps.toList = true)
    (hbig : Nat.ble (m * es) 16777216 = true) :
    (execOp (ev n ρ) o).run P w = .ok (.value (.slice (some ⟨w.heap.size, 0, none⟩) m m)) (w.alloc (.cells (flatC n ρ ps.toList).toArray e)) ∧ (flatC n ρ ps.toList).length = m * es := by
  obtain ⟨hu, inf, z, hi, hs, hby, hz, hzs, hes⟩ := tab_slc hT ht
  have hm := Nat.eq_of_beq_eq_true hm
  have hbig := Nat.le_of_ble_eq_true hbig
  rw [lenP_eq] at hm
  have key := rowOk_fill (n := n) (ρ := ρ) ps.toList 0 [] ((Array.range (m * es)).map (z.cells[· % z.cells.size]!)).toList hrow (by simp) (by simp [hm])
  have e3 : (ps.map fun (p : Nat × Operand) => (p.1, ev n ρ p.2)).toList = ps.toList.map fun p => (p.1, ev n ρ p.2) := by simp
  refine ⟨?_, by rw [key.2, hm]⟩
  have hk := key.1
  simp only [List.nil_append, Array.toArray_toList] at hk
  have hn : ¬ (m * inf.size > 2 ^ 24) := by rw [hs]; omega
  by_cases h0 : m * es = 0
  · have hm0 : m = 0 := by
      rcases Nat.eq_zero_or_pos m with h | h
      · exact h
      · have := Nat.mul_pos h hes; omega
    subst hm0
    have hps : ps = #[] := by
      have : ps.toList = [] := List.eq_nil_of_length_eq_zero hm
      apply Array.ext'; simpa using this
    subst hps
    simp [execOp, ho, Instr.buildSlice, run_underlying hu, run_sizeOf hi, flatC, Instr.fill, newRow, Array.range_zero']
  · have h0' : ¬ (m * inf.size = 0) := by rw [hs]; exact h0
    simp only [execOp, ho, Instr.buildSlice, Sem.run_bind, run_underlying hu, Result.andThen_ok, run_sizeOf hi, if_neg hn, if_neg h0', Sem.run_pure, zeroValue, typeInfo, run_program, hi, hz]
    rw [e3, hs, hk]
    rfl
/-- a literal slice -/
theorem row (hT : tabOk P T = true) (hw : wantB n ρ all o = true) {t m : Nat} {ps : Array (Nat × Operand)} (ho : o.op = .buildSlice t m ps) {e es eb : Nat} (ht : Tab.get T t = some (.slc e es eb)) (hm : Nat.beq (lenP ps.toList) m = true) (hrow : rowOk n ρ es 0 ps.toList = true)
    (hbig : Nat.ble (m * es) 16777216 = true) {cs : List Value} (hcs : flatC n ρ ps.toList = cs)
    (h : ∀ g w', w.heap.size = g → w'.heap.size = g + 1 → Chg No w w' → Bk w' g e cs → cs.length = m * es → At P n R fr all l k (updo ρ o.dst (.slice (some ⟨g, 0, none⟩) m m)) dec w') : At P n R fr all (o :: l) k ρ dec w := by
  obtain ⟨h1, h2⟩ := r_row (w := w) hT ho ht hm hrow hbig
  rw [hcs] at h1 h2
  exact op_val hw h1 (h _ _ rfl (by simp) (Chg.alloc w _) (Bk.new w e cs) h2)
/-- a literal slice is an owned one -/
theorem Bk.own {g e es m : Nat} {cs : List Value} (h : Bk w g e cs) (hl : cs.length = m * es) (hm : m ≤ maxLen) : w.ownsRow g e es (.slice (some ⟨g, 0, none⟩) m m) m cs :=
  ⟨hl, .inr ⟨g, m, cs.toArray, rfl, Nat.le_refl _, h, Nat.le_refl _, hm, by simpa using hl, by simp [← hl]⟩⟩

theorem r_app (hT : tabOk P T = true) {t ty e es eb : Nat} (ht : Tab.get T t = some (.slc e es eb)) {A : Option Addr} {nn c : Nat} {B : Nat} {xs : List Value} (hown : w.ownsRow B e es (.slice A nn c) nn xs) {ad : Addr} {m c2 : Nat} {news : List Value}
    (hl : news.length = m * es) (hnews : ∀ j u, news[j]? = some u → w.cell? (ad.add j) = some u) (h1 : news.all (·.oneCell') = true) (h63 : nn + m ≤ maxLen) (hby : (nn + m) * eb ≤ 140737488355328) (hB : B ≤ w.heap.size) :
    ∃ A' c' w', (Builtin.append_ #[t, t] ty #[.slice A nn c, .slice (some ad) m c2]).run P w = .ok (.slice A' (nn + m) c') w' ∧ w'.ownsRow B e es (.slice A' (nn + m) c') (nn + m) (xs ++ news) ∧ Chg (fun k => (Value.slice A nn c).ownBlock = some k) w w' ∧
      ((Value.slice A' (nn + m) c').ownBlock = (Value.slice A nn c).ownBlock ∨ (Value.slice A' (nn + m) c').ownBlock = some w.heap.size) := by
  obtain ⟨hu, inf, z, hi, hs, hb, hz, hzs, hes⟩ := tab_slc hT ht
  obtain ⟨v', w', hr, hown', hg, _, hat⟩ := run_append_own_at (P := P) w B t ty e inf z es eb hu hi hz hs hb hzs hes (.slice A nn c) nn xs hown ad m c2 news hl hnews (oneCells h1) h63 hby hB
  obtain ⟨A', c', rfl⟩ := own_form hown'
  exact ⟨A', c', w', hr, hown', (Chg.grown hg).mono fun k _ h => h.symm, hat⟩
theorem exec_app {s x : Operand} {t : TypeId} (ho : o.op = .call { callee := .builtin .append, args := #[s, x], argTypes := #[t, t] }) {v u : Value} (hs : ev n ρ s = v) (hx : ev n ρ x = u) {v' : Value} {w' : World}
    (h : (Builtin.append_ #[t, t] o.type #[v, u]).run P w = .ok v' w') : (execOp (ev n ρ) o).run P w = .ok (.value v') w' := by
  simp [execOp, ho, resolve, invoke, builtin, hs, hx, h]
/-- append, onto an own slice, of what can be read -/
theorem app (hT : tabOk P T = true) (hw : wantB n ρ all o = true) {s x : Operand} {t : TypeId} (ho : o.op = .call { callee := .builtin .append, args := #[s, x], argTypes := #[t, t] }) {e es eb : Nat} (ht : Tab.get T t = some (.slc e es eb))
    {A : Option Addr} {nn c : Nat} (hs : ev n ρ s = .slice A nn c) {ad : Addr} {m c2 : Nat} (hx : ev n ρ x = .slice (some ad) m c2) {B : Nat} {xs : List Value} (hown : w.ownsRow B e es (.slice A nn c) nn xs) {news : List Value}
    (hl : news.length = m * es) (hnews : ∀ j u, news[j]? = some u → w.cell? (ad.add j) = some u) (h1 : news.all (·.oneCell') = true) (h63 : nn + m ≤ maxLen) (hby : (nn + m) * eb ≤ 140737488355328) (hB : B ≤ w.heap.size)
    (h : ∀ A' c' w', w'.ownsRow B e es (.slice A' (nn + m) c') (nn + m) (xs ++ news) → Chg (fun k => (Value.slice A nn c).ownBlock = some k) w w' →
      ((Value.slice A' (nn + m) c').ownBlock = (Value.slice A nn c).ownBlock ∨ (Value.slice A' (nn + m) c').ownBlock = some w.heap.size) → At P n R fr all l k (updo ρ o.dst (.slice A' (nn + m) c')) dec w') : At P n R fr all (o :: l) k ρ dec w := by
  obtain ⟨A', c', w', hr, a1, a2, a3⟩ := r_app (ty := o.type) hT ht hown hl hnews h1 h63 hby hB
  exact op_val hw (exec_app ho hs hx hr) (h A' c' w' a1 a2 a3)
/-- append(s, x, ..): the new elements written out (two operations) -/
theorem app1 {o2 : Oper} (hT : tabOk P T = true) (hw : wantB n ρ all o = true) {t m : Nat} {ps : Array (Nat × Operand)} (ho : o.op = .buildSlice t m ps) {e es eb : Nat} (ht : Tab.get T t = some (.slc e es eb)) (hm : Nat.beq (lenP ps.toList) m = true)
    (hrow : rowOk n ρ es 0 ps.toList = true) (hbig : Nat.ble (m * es) 16777216 = true) {cs : List Value} (hcs : flatC n ρ ps.toList = cs) (h1 : cs.all (·.oneCell') = true) {d : Nat} (hd : o.dst = some d)
    {s : Operand} (ho2 : o2.op = .call { callee := .builtin .append, args := #[s, .tmp d], argTypes := #[t, t] }) (hw2 : ∀ g, wantB n (upd ρ d (.slice (some ⟨g, 0, none⟩) m m)) all o2 = true) {A : Option Addr} {nn c : Nat}
    (hs : ∀ g, ev n (upd ρ d (.slice (some ⟨g, 0, none⟩) m m)) s = .slice A nn c) (hx : ∀ g, ev n (upd ρ d (.slice (some ⟨g, 0, none⟩) m m)) (.tmp d) = .slice (some ⟨g, 0, none⟩) m m) {B : Nat} {xs : List Value}
    (hown : w.ownsRow B e es (.slice A nn c) nn xs) (h63 : nn + m ≤ maxLen) (hby : (nn + m) * eb ≤ 140737488355328) (hB : B ≤ w.heap.size)
    (h : ∀ g A' c' w', w'.ownsRow B e es (.slice A' (nn + m) c') (nn + m) (xs ++ cs) → Chg (fun k => (Value.slice A nn c).ownBlock = some k) w w' → w.heap.size < w'.heap.size →
      ((Value.slice A' (nn + m) c').ownBlock = (Value.slice A nn c).ownBlock ∨ (Value.slice A' (nn + m) c').ownBlock = some (w.heap.size + 1)) →
      At P n R fr all l k (updo (upd ρ d (.slice (some ⟨g, 0, none⟩) m m)) o2.dst (.slice A' (nn + m) c')) dec w') : At P n R fr all (o :: o2 :: l) k ρ dec w := by
  refine row hT hw ho ht hm hrow hbig hcs ?_
  intro g w1 hg hg1 c1 b1 hl
  subst hg
  rw [hd]
  refine app hT (hw2 _) ho2 ht (hs _) (hx _) (own_no hown c1) hl ?_ h1 h63 hby (by omega) ?_
  · intro j u hu
    rw [Addr.add_mid]
    exact b1.all j u hu
  · intro A' c' w' a1 a2 a3
    refine h _ A' c' w' a1 ?_ ?_ ?_
    · exact ((c1.mono fun _ _ h => h.elim : Chg _ w w1)).trans a2
    · have := a2.size; omega
    · rw [hg1] at a3; exact a3
/-- append(out, xs...) of what can be read, xs nil or empty too -/
theorem appS (hT : tabOk P T = true) (hw : wantB n ρ all o = true) {s x : Operand} {t : TypeId} (ho : o.op = .call { callee := .builtin .append, args := #[s, x], argTypes := #[t, t] }) {e es eb : Nat} (ht : Tab.get T t = some (.slc e es eb))
    {A : Option Addr} {nn c : Nat} (hs : ev n ρ s = .slice A nn c) {A2 : Option Addr} {m c2 : Nat} (hx : ev n ρ x = .slice A2 m c2) {B : Nat} {xs : List Value} (hown : w.ownsRow B e es (.slice A nn c) nn xs) {news : List Value}
    {B2 : Nat} (hsl : Sl w B2 es A2 m news) (h1 : news.all (·.oneCell') = true) (h63 : nn + m ≤ maxLen) (hby : (nn + m) * eb ≤ 140737488355328) (hB : B ≤ w.heap.size)
    (h : ∀ A' c' w', w'.ownsRow B e es (.slice A' (nn + m) c') (nn + m) (xs ++ news) → Chg (fun k => (Value.slice A nn c).ownBlock = some k) w w' →
      ((Value.slice A' (nn + m) c').ownBlock = (Value.slice A nn c).ownBlock ∨ (Value.slice A' (nn + m) c').ownBlock = some w.heap.size) → At P n R fr all l k (updo ρ o.dst (.slice A' (nn + m) c')) dec w') : At P n R fr all (o :: l) k ρ dec w := by
  rcases Nat.eq_zero_or_pos m with h0 | h0
  · subst h0
    have hn : news = [] := List.eq_nil_of_length_eq_zero (by simpa using hsl.1)
    subst hn
    obtain ⟨hu, inf, z, hi, hs', hb, hz, hzs, hes⟩ := tab_slc hT ht
    cases A2 with
    | none =>
      have hr : (Builtin.append_ #[t, t] o.type #[.slice A nn c, .slice none 0 c2]).run P w = .ok (.slice A nn c) w := by
        rcases hown.2 with ⟨e1, e2⟩ | ⟨g, cap, cur, e1, _, _, hnc, _⟩
        · rw [e1]
          simp [Builtin.append_, run_underlying hu, sizeOf, typeInfo, hi, Builtin.lenOf, Builtin.firstCells]
        · rw [e1]
          simp [Builtin.append_, run_underlying hu, sizeOf, typeInfo, hi, Builtin.lenOf, Builtin.firstCells, hnc, storeCells]
      exact op_val hw (exec_app ho hs hx hr) (h A c w (by simpa using hown) (Chg.refl _ _) (.inl rfl))
    | some ad => exact app hT hw ho ht hs hx hown (news := []) (by simp) (by simp) rfl h63 hby hB h
  · obtain ⟨b, off, rfl, _, hc⟩ := hsl.2.2 h0
    exact app hT hw ho ht hs hx hown hsl.1 (fun j u hu => by rw [Addr.add_mid]; exact hc j u hu) h1 h63 hby hB h
/-- make([]T, n) -/
theorem mk (hT : tabOk P T = true) (hw : wantB n ρ all o = true) {t : TypeId} {x y : Operand} (ho : o.op = .makeSlice t x y) {e es eb : Nat} (ht : Tab.get T t = some (.slc e es eb)) {i : Int} (hx : ev n ρ x = .int .i64 i) (hy : ev n ρ y = .int .i64 i) (m : Nat) (hi : i = (m : Int))
    {z : Value} (hz : zeroOf P e = some z) (h63 : m ≤ maxLen) (hby : eb * m ≤ 281474976710656)
    (h : ∀ g w', w.heap.size = g → w'.heap.size = g + 1 → Chg No w w' → w'.ownsRow g e es (.slice (some ⟨g, 0, none⟩) m m) m (madeCells z.cells (m * es)).toList → At P n R fr all l k (updo ρ o.dst (.slice (some ⟨g, 0, none⟩) m m)) dec w') : At P n R fr all (o :: l) k ρ dec w := by
  obtain ⟨hu, inf, z', hinf, hs, hb, hz', hzs, hes⟩ := tab_slc hT ht
  have : z' = z := by
    unfold zeroOf at hz
    rw [hinf, Option.bind_some, hz'] at hz
    exact Option.some.inj hz
  subst this
  subst hi
  subst hb
  have hm63 : m ≤ 9223372036854775807 := by simp only [maxLen] at h63; omega
  have hb' : (inf.bytes : Int) * (m : Int) ≤ 281474976710656 := by
    have h : ((inf.bytes * m : Nat) : Int) ≤ 281474976710656 := by omega
    rwa [Int.natCast_mul] at h
  have hr := run_make (P := P) w t e inf z' hu hinf hz' .i64 .i64 m m (by omega) (by omega) hb' (by omega)
  simp only [Int.toNat_natCast, hs] at hr
  refine op_val (w' := w.alloc (.cells (madeCells z'.cells (m * es)) e)) hw ?_ (h _ _ rfl (by simp) (Chg.alloc w _) ?_)
  · simp [execOp, ho, hx, hy, hr]
  · exact World.ownsRow_lit w _ m (Nat.le_refl _) h63 (size_madeCells _ _)
end

/-! ### Regions that draw their order -/
/-- an order of a region's operations: true: quiet (it yields the same in every world of a class); false: alone when its turn comes -/
def canon (ops : Array Oper) : List (Nat × Bool) → Array Bool → Bool
  | [], listed => (Region.ready .any ops listed).isEmpty
  | (i, true) :: r, listed => (Region.ready .any ops listed).contains i && Region.free .any ops listed i && canon ops r (listed.setIfInBounds i true)
  | (i, false) :: r, listed => (Region.ready .any ops listed == [i]) && canon ops r (listed.setIfInBounds i true)
def nthO : List Oper → Nat → Option Oper
  | [], _ => none
  | o :: _, 0 => some o
  | _ :: l, i + 1 => nthO l i
theorem nthO_eq : ∀ (l : List Oper) (i : Nat), nthO l i = l[i]? := by
  intro l
  induction l with
  | nil => intro i; rfl
  | cons o l ih => intro i; cases i <;> simp [nthO, ih]
def pickO (ops : List Oper) : List (Nat × Bool) → Option (List (Oper × Bool))
  | [] => some []
  | (i, q) :: r => match nthO ops i, pickO ops r with
    | some o, some l => some ((o, q) :: l)
    | _, _ => none
/-- S: the class of worlds -/
def AtH (P : Program) (n : Nat) (R : Env → World → Prop) (fr : Fra) (S : World → Prop) (all : Array Oper) (l : List (Oper × Bool)) (k : List It) (ρ : Env) (_dec : List Nat) (w : World) : Prop :=
  match l with
  | [] => (dn P n R fr.1 k).N fr.2 ρ w
  | (o, true) :: l => ∃ v, YieldsIf P all S o v (F fr.2 n ρ) ∧ AtH P n R fr S all l k (updo ρ o.dst v) [] w
  | (o, false) :: l => if wantB n ρ all o = true then o.wpIn (fen fr.1) 0 P (F fr.2 n ρ) w (fun a' w' => ∃ ρ', a' = F fr.2 n ρ' ∧ (S w' ∨ (l = [] ∧ lastOk .any all o = true)) ∧ AtH P n R fr S all l k ρ' [] w') (Lq P n R fr.1 k) else AtH P n R fr S all l k (updo ρ o.dst undef) [] w
section
variable {P : Program} {T : Tab} {n : Nat} {R : Env → World → Prop} {fr : Fra} {S : World → Prop} {all : Array Oper} {l : List (Oper × Bool)} {k : List It} {ρ : Env} {dec : List Nat} {w : World} {o : Oper}
theorem AtH.hint {dec' : List Nat} (h : AtH P n R fr S all l k ρ dec w) : AtH P n R fr S all l k ρ dec' w := by
  cases l with
  | nil => exact h
  | cons p l => obtain ⟨o, b⟩ := p; cases b <;> exact h
theorem lq_panic (d : Option Nat) (v : Value) (c : List PanicEntry) (a : Act) (w : World) (h : Lq P n R fr.1 k (.panic c) (a.put d v) w) : Lq P n R fr.1 k (.panic c) a w := h
theorem draw_sound (hnd : noDefer all.toList = true) (hs : Region.noSelect all = true) : ∀ (ord : List (Nat × Bool)) (l : List (Oper × Bool)) (listed : Array Bool) (ρ : Env) (w : World), pickO all.toList ord = some l → canon all ord listed = true → S w →
    AtH P n R fr S all l k ρ [] w → anyH P fr.1 .any all (Lq P n R fr.1 k) S ord.length listed (F fr.2 n ρ) w := by
  intro ord
  induction ord with
  | nil =>
    intro l listed ρ w hp hc _ h
    simp only [pickO, Option.some.injEq] at hp
    subst hp
    exact anyH_done (by simpa [canon] using hc) ⟨ρ, _, rfl, h⟩ 0
  | cons p ord ih =>
    obtain ⟨i, q⟩ := p
    intro l listed ρ w hp hc hS h
    simp only [pickO] at hp
    split at hp
    · rename_i o l' ho hl'
      simp only [Option.some.injEq] at hp
      subst hp
      rw [nthO_eq] at ho
      have ho' : all[i]? = some o := by simpa using ho
      cases q with
      | true =>
        simp only [canon, Bool.and_eq_true] at hc
        obtain ⟨v, hy, h⟩ := h
        refine anyH_take hnd ho' hs hc.1.2 hc.1.1 (fun c a w h => lq_panic _ _ c a w h) hy hS ?_
        rw [F_put]
        exact ih l' _ _ w hl' hc.2 hS h
      | false =>
        simp only [canon, Bool.and_eq_true, beq_iff_eq] at hc
        refine anyH_all hc.1 (by simp) fun j hj => ?_
        have hj : j = i := by simpa using hj
        subst hj
        unfold wpOpIn
        simp only [ho', want_eq]
        simp only [AtH] at h
        by_cases hw : wantB n ρ all o = true
        · rw [if_pos hw] at h ⊢
          refine Oper.wpIn_mono (fun a' w' h' => ?_) h
          obtain ⟨ρ', rfl, hS', h'⟩ := h'
          rcases hS' with hS' | ⟨rfl, hlast⟩
          · exact ⟨.inl hS', ih l' _ _ w' hl' hc.2 hS' h'⟩
          · refine ⟨.inr fun o' ho'' => by cases ho''; exact hlast, ?_⟩
            cases ord with
            | nil => exact anyH_done (by simpa [canon] using hc.2) ⟨ρ', _, rfl, h'⟩ 0
            | cons p r =>
              obtain ⟨i2, q2⟩ := p
              simp only [pickO] at hl'
              split at hl' <;> simp at hl'
        · rw [if_neg hw] at h ⊢
          rw [F_put]
          exact ⟨fun _ _ => trivial, .inl hS, ih l' _ _ w hl' hc.2 hS h⟩
    · cases hp
def drawOk (ops : Array Oper) (ord : List (Nat × Bool)) : Bool := noDefer ops.toList && Region.noSelect ops && Nat.beq ord.length ops.size && canon ops ord (Array.replicate ops.size false)
/-- the beginning -/
theorem draw (hm : P.follows .mixedOrders = true) (S : World → Prop) (ord : List (Nat × Bool)) {id : Nat} {ops all0 : Array Oper} {l : List (Oper × Bool)} (hp : pickO ops.toList ord = some l) (hk : drawOk ops ord = true) (hS : S w.drew) (h : AtH P n R fr S ops l k ρ [] w.drew) : At P n R fr all0 [] (.code (.region id ops true) :: k) ρ dec w := by
  show (Code.region id ops true).wpIn (fen fr.1) 0 P (Lq P n R fr.1 k) (F fr.2 n ρ) w
  refine region_held (S := S) hm ?_
  simp only [drawOk, Bool.and_eq_true] at hk
  obtain ⟨⟨⟨hnd, hs⟩, hlen⟩, hc⟩ := hk
  have := draw_sound hnd hs ord l _ ρ w.drew hp hc hS h
  rw [Nat.eq_of_beq_eq_true hlen] at this
  exact this
theorem endH (h : At P n R fr #[] [] k ρ [] w) : AtH P n R fr S all [] k ρ dec w := h
theorem quietH {v : Value} (hw : wantB n ρ all o = true) (hr : ∀ w, S w → (execOp (ev n ρ) o).run P w = .ok (.value v) w) (h : AtH P n R fr S all l k (updo ρ o.dst v) dec w) : AtH P n R fr S all ((o, true) :: l) k ρ dec w :=
  ⟨v, .inl ⟨by rw [want_eq]; exact hw, fun w hS => by rw [F_eval]; exact hr w hS⟩, h.hint⟩
theorem passH (hw : wantB n ρ all o = false) (h : AtH P n R fr S all l k (updo ρ o.dst undef) dec w) : AtH P n R fr S all ((o, true) :: l) k ρ dec w :=
  ⟨undef, .inr ⟨by rw [want_eq]; exact hw, rfl⟩, h.hint⟩
theorem passE (hw : wantB n ρ all o = false) (h : AtH P n R fr S all l k (updo ρ o.dst undef) dec w) : AtH P n R fr S all ((o, false) :: l) k ρ dec w := by
  simp only [AtH, hw]
  rw [if_neg (by simp)]
  exact h.hint
theorem valE {v : Value} {w' : World} (hw : wantB n ρ all o = true) (hr : (execOp (ev n ρ) o).run P w = .ok (.value v) w') (hS : S w') (h : AtH P n R fr S all l k (updo ρ o.dst v) dec w') : AtH P n R fr S all ((o, false) :: l) k ρ dec w := by
  simp only [AtH, hw, if_true]
  refine ⟨fun _ _ => trivial, ?_⟩
  rw [F_eval, sem_val hr]
  exact ⟨_, F_put _ _ _ _, .inl hS, h.hint⟩
theorem skipE {w' : World} (hw : wantB n ρ all o = true) (hr : (execOp (ev n ρ) o).run P w = .ok .skip w') (hS : S w') (h : AtH P n R fr S all l k (updo ρ o.dst undef) dec w') : AtH P n R fr S all ((o, false) :: l) k ρ dec w := by
  simp only [AtH, hw, if_true]
  refine ⟨fun _ _ => trivial, ?_⟩
  rw [F_eval, sem_skip hr]
  exact ⟨_, F_put _ _ _ _, .inl hS, h.hint⟩
/-- from a move of the plain calculus to one of this: an operation that is alone -/
theorem byE (hw : wantB n ρ all o = true) (h : o.wpIn (fen fr.1) 0 P (F fr.2 n ρ) w (fun a' w' => ∃ ρ', a' = F fr.2 n ρ' ∧ (S w' ∨ (l = [] ∧ lastOk .any all o = true)) ∧ AtH P n R fr S all l k ρ' [] w') (Lq P n R fr.1 k)) : AtH P n R fr S all ((o, false) :: l) k ρ dec w := by
  simp only [AtH, hw, if_true]
  exact h
theorem callE {fo : Operand} {args : Array Operand} {tys : Array TypeId} {f : FuncId} {first cap : Array Value} {K : Value → World → Prop}
    (hw : wantB n ρ all o = true) (ho : o.op = .call { callee := .value fo, args := args, argTypes := tys }) (hf : ev n ρ fo = .func (.func f) first cap) (hok : callable P f = true)
    (hc : Ret P f (first.toList ++ (evs n ρ args.toList ++ cap.toList)) w K) (h : ∀ v w', K v w' → S w' ∧ AtH P n R fr S all l k (updo ρ o.dst v) dec w') : AtH P n R fr S all ((o, false) :: l) k ρ dec w := by
  refine byE hw ⟨fun _ _ => trivial, ?_⟩
  rw [Oper.semAt_eq (fen fr.1).round _ o (by intro c; rw [ho]; simp)]
  have e : (execOp (F fr.2 n ρ).eval o).run P w = .ok (.enter f (first.toList ++ (evs n ρ args.toList ++ cap.toList)).toArray) w := by
    rw [F_eval]
    have e1 : args.map (ev n ρ) = (evs n ρ args.toList).toArray := by apply Array.ext'; simp [← evs_map]
    have e2 : first ++ (evs n ρ args.toList).toArray ++ cap = (first.toList ++ (evs n ρ args.toList ++ cap.toList)).toArray := by apply Array.ext'; simp
    simp only [execOp, ho, resolve, hf, Deferred.ofValue, e1, Sem.run_bind, Sem.run_pure, Result.andThen_ok, invoke, run_call hok, e2]
  rw [e]
  refine ⟨fen_depth, ?_⟩
  show CallsIn Fence.wide 0 P f _ w _
  refine callsIn_wide.2 (Calls.mono hc ?_)
  rintro e w' ⟨v, rfl, hv⟩
  obtain ⟨h1, h2⟩ := h v w' hv
  exact ⟨_, F_put _ _ _ _, .inl h1, h2.hint⟩
theorem guardH {q : Bool} {j : Nat} {want : Bool} {t : Nat} {b : Bool} (_hg : o.guard = some (j, want)) (_ht : dstL all.toList j = some t) (hb : ev n ρ (.tmp t) = .bool b)
    (hT : b = true → AtH P n R fr S all ((o, q) :: l) k (upd ρ t (.bool true)) (t :: dec) w) (hF : b = false → AtH P n R fr S all ((o, q) :: l) k (upd ρ t (.bool false)) (t :: dec) w) :
    AtH P n R fr S all ((o, q) :: l) k ρ dec w := by
  have e : ρ t = .bool b := by
    simp only [ev] at hb
    cases hn : Nat.blt t n with
    | true => rw [hn] at hb; exact hb
    | false => rw [hn] at hb; cases hb
  have e2 : upd ρ t (.bool b) = ρ := by rw [← e]; exact upd_self _ _
  cases b with
  | true => have := hT rfl; rw [e2] at this; exact this.hint
  | false => have := hF rfl; rw [e2] at this; exact this.hint
/-- a store of one cell into a block known whole, alone -/
theorem r_store (hT : tabOk P T = true) {t : TypeId} {x y : Operand} (ho : o.op = .store t x y) (ht : isOne T t = true) {g i : Nat} (hx : ev n ρ x = .pointer (some ⟨g, i, none⟩)) {v : Value} (hy : ev n ρ y = v) (h1 : v.oneCell' = true)
    {u : Value} (hc : w.cell? ⟨g, i, none⟩ = some u) (hf : w.frozen? ⟨g, i, none⟩ = false) : (execOp (ev n ρ) o).run P w = .ok .skip (w.setCell ⟨g, i, none⟩ v) := by
  obtain ⟨_, _, inf, hinf, hsz⟩ := tab_one hT ht
  have hcells : v.cells = #[v] := by cases v <;> first | rfl | (simp [Value.oneCell'] at h1)
  simp [execOp, ho, hx, hy, Instr.storeAt, Instr.sureAddr, storeVar, hcells, run_sizeOf hinf, hsz, storeCells, Addr.add_zero', run_store P w _ v _ h1, hc, hf]
theorem storeE (hT : tabOk P T = true) (hw : wantB n ρ all o = true) {t : TypeId} {x y : Operand} (ho : o.op = .store t x y) (ht : isOne T t = true) {g i : Nat} (hx : ev n ρ x = .pointer (some ⟨g, i, none⟩)) {v : Value} (hy : ev n ρ y = v) (h1 : v.oneCell' = true)
    {tg : TypeId} {cs : List Value} (hb : Bk w g tg cs) (hi : Nat.blt i (lenL cs) = true)
    (h : ∀ w', Chg (fun k => k = g) w w' → Bk w' g tg (cs.set i v) → w'.heap.size = w.heap.size → S w' ∧ AtH P n R fr S all l k (updo ρ o.dst undef) dec w') : AtH P n R fr S all ((o, false) :: l) k ρ dec w := by
  have hi := Nat.blt_eq.mp hi
  rw [lenL_eq] at hi
  have hc : w.cell? ⟨g, i, none⟩ = some cs[i] := hb.getE (List.getElem?_eq_getElem hi)
  have hf : w.frozen? ⟨g, i, none⟩ = false := hb.free _ rfl
  obtain ⟨h2, h3⟩ := h _ (Chg.setCell w ⟨g, i, none⟩ v) (hb.set i v) (by simp)
  exact skipE hw (r_store hT ho ht hx hy h1 hc hf) h2 h3
theorem stRE (hT : tabOk P T = true) (hw : wantB n ρ all o = true) {t : TypeId} {x y : Operand} (ho : o.op = .store t x y) (ht : isOne T t = true) {g i : Nat} (hx : ev n ρ x = .pointer (some ⟨g, i, none⟩)) {v : Value} (hy : ev n ρ y = v) (h1 : v.oneCell' = true)
    {tg : TypeId} {m : Nat} {f : Nat → Value} (hb : w.rowIs g tg m f) (hi : i < m)
    (h : ∀ w', Chg (fun k => k = g) w w' → w'.rowIs g tg m (fun j => if j = i then v else f j) → w'.heap.size = w.heap.size → S w' ∧ AtH P n R fr S all l k (updo ρ o.dst undef) dec w') : AtH P n R fr S all ((o, false) :: l) k ρ dec w := by
  obtain ⟨h2, h3⟩ := h _ (Chg.setCell w ⟨g, i, none⟩ v) (hb.set i v) (by simp)
  exact skipE hw (r_store hT ho ht hx hy h1 (hb.cell hi) (hb.frozen i)) h2 h3
theorem stAE (hT : tabOk P T = true) (hw : wantB n ρ all o = true) {t : TypeId} {x y : Operand} (ho : o.op = .store t x y) {m : Nat} {fs : List (Nat × Nat × Bool)} {zs : List Value} (ht : Tab.get T t = some (.str m fs zs)) {g i : Nat}
    (hx : ev n ρ x = .pointer (some ⟨g, i, none⟩)) {vs : List Value} (hy : ev n ρ y = .agg vs.toArray) (hm : Nat.beq (lenL vs) m = true) (h1 : vs.all (·.oneCell') = true)
    {tg : TypeId} {cs : List Value} (hb : Bk w g tg cs) (hi : Nat.ble (i + m) (lenL cs) = true)
    (h : ∀ w', Chg (fun k => k = g) w w' → Bk w' g tg (putL i vs cs) → w'.heap.size = w.heap.size → S w' ∧ AtH P n R fr S all l k (updo ρ o.dst undef) dec w') : AtH P n R fr S all ((o, false) :: l) k ρ dec w := by
  obtain ⟨w', h1, h2, h3, h4⟩ := r_stA hT ho ht hx hy hm h1 hb hi
  obtain ⟨h5, h6⟩ := h w' h2 h3 h4
  exact skipE hw h1 h5 h6
/-- the last operation: it may leave the class -/
theorem skipL {w' : World} (hw : wantB n ρ all o = true) (hr : (execOp (ev n ρ) o).run P w = .ok .skip w') (hl : lastOk .any all o = true) (h : AtH P n R fr S all [] k (updo ρ o.dst undef) dec w') : AtH P n R fr S all [(o, false)] k ρ dec w := by
  unfold AtH
  rw [if_pos hw]
  refine ⟨fun _ _ => trivial, ?_⟩
  rw [F_eval, sem_skip hr]
  exact ⟨_, F_put _ _ _ _, .inr ⟨rfl, hl⟩, h.hint⟩
theorem storeL (hT : tabOk P T = true) (hw : wantB n ρ all o = true) {t : TypeId} {x y : Operand} (ho : o.op = .store t x y) (ht : isOne T t = true) {g i : Nat} (hx : ev n ρ x = .pointer (some ⟨g, i, none⟩)) {v : Value} (hy : ev n ρ y = v) (h1 : v.oneCell' = true)
    {tg : TypeId} {cs : List Value} (hb : Bk w g tg cs) (hi : Nat.blt i (lenL cs) = true) (hl : lastOk .any all o = true)
    (h : ∀ w', Chg (fun k => k = g) w w' → Bk w' g tg (cs.set i v) → w'.heap.size = w.heap.size → AtH P n R fr S all [] k (updo ρ o.dst undef) dec w') : AtH P n R fr S all [(o, false)] k ρ dec w := by
  have hi := Nat.blt_eq.mp hi
  rw [lenL_eq] at hi
  have hc : w.cell? ⟨g, i, none⟩ = some cs[i] := hb.getE (List.getElem?_eq_getElem hi)
  have hf : w.frozen? ⟨g, i, none⟩ = false := hb.free _ rfl
  exact skipL hw (r_store hT ho ht hx hy h1 hc hf) hl (h _ (Chg.setCell w ⟨g, i, none⟩ v) (hb.set i v) (by simp))
theorem stRL (hT : tabOk P T = true) (hw : wantB n ρ all o = true) {t : TypeId} {x y : Operand} (ho : o.op = .store t x y) (ht : isOne T t = true) {g i : Nat} (hx : ev n ρ x = .pointer (some ⟨g, i, none⟩)) {v : Value} (hy : ev n ρ y = v) (h1 : v.oneCell' = true)
    {tg : TypeId} {m : Nat} {f : Nat → Value} (hb : w.rowIs g tg m f) (hi : i < m) (hl : lastOk .any all o = true)
    (h : ∀ w', Chg (fun k => k = g) w w' → w'.rowIs g tg m (fun j => if j = i then v else f j) → w'.heap.size = w.heap.size → AtH P n R fr S all [] k (updo ρ o.dst undef) dec w') : AtH P n R fr S all [(o, false)] k ρ dec w :=
  skipL hw (r_store hT ho ht hx hy h1 (hb.cell hi) (hb.frozen i)) hl (h _ (Chg.setCell w ⟨g, i, none⟩ v) (hb.set i v) (by simp))
structure CfgH where
  l : List (Oper × Bool)
  ρ : Env
  dec : List Nat
def advH (T : Tab) (n : Nat) (all : Array Oper) : Nat → CfgH → CfgH
  | 0, c => c
  | m + 1, ⟨l, ρ, dec⟩ => match l with
    | [] => ⟨[], ρ, dec⟩
    | (o, false) :: l => ⟨(o, false) :: l, ρ, dec⟩
    | (⟨dst, op, ty, pos, after, guard⟩, true) :: l => match guard with
      | none => stepK T n ρ dec op ⟨(⟨dst, op, ty, pos, after, none⟩, true) :: l, ρ, dec⟩ (fun b v => putK dst b v ρ dec fun ρ dec => advH T n all m ⟨l, ρ, dec⟩)
      | some (j, want) => match dstL all.toList j with
        | none => ⟨(⟨dst, op, ty, pos, after, some (j, want)⟩, true) :: l, ρ, dec⟩
        | some t => match inL t dec with
          | false => ⟨(⟨dst, op, ty, pos, after, some (j, want)⟩, true) :: l, ρ, dec⟩
          | true => match ev n ρ (.tmp t), want with
            | .bool true, true => stepK T n ρ dec op ⟨(⟨dst, op, ty, pos, after, some (j, true)⟩, true) :: l, ρ, dec⟩ (fun b v => putK dst b v ρ dec fun ρ dec => advH T n all m ⟨l, ρ, dec⟩)
            | .bool false, false => stepK T n ρ dec op ⟨(⟨dst, op, ty, pos, after, some (j, false)⟩, true) :: l, ρ, dec⟩ (fun b v => putK dst b v ρ dec fun ρ dec => advH T n all m ⟨l, ρ, dec⟩)
            | .bool true, false => putK dst true undef ρ dec fun ρ dec => advH T n all m ⟨l, ρ, dec⟩
            | .bool false, true => putK dst true undef ρ dec fun ρ dec => advH T n all m ⟨l, ρ, dec⟩
            | v, want => match isB v with
              | true => ⟨(⟨dst, op, ty, pos, after, some (j, want)⟩, true) :: l, ρ, dec⟩
              | false => putK dst true undef ρ dec fun ρ dec => advH T n all m ⟨l, ρ, dec⟩
theorem stepH_ok (hT : tabOk P T = true) {m : Nat} {c0 : CfgH} (ih : ∀ (c : CfgH), AtH P n R fr S all (advH T n all m c).l k (advH T n all m c).ρ [] w → AtH P n R fr S all c.l k c.ρ [] w) (hw : wantB n ρ all o = true)
    (h : (fun c : CfgH => AtH P n R fr S all c.l k c.ρ [] w) (stepK T n ρ dec o.op c0 (fun b v => putK o.dst b v ρ dec fun ρ dec => advH T n all m ⟨l, ρ, dec⟩)))
    (h0 : AtH P n R fr S all c0.l k c0.ρ [] w → AtH P n R fr S all ((o, true) :: l) k ρ [] w) : AtH P n R fr S all ((o, true) :: l) k ρ [] w := by
  refine stepK_elim hT (G := fun c : CfgH => AtH P n R fr S all c.l k c.ρ [] w) (C := AtH P n R fr S all ((o, true) :: l) k ρ [] w) h h0 ?_
  intro d v hv hk
  refine putK_elim (G := fun c : CfgH => AtH P n R fr S all c.l k c.ρ [] w) hk ?_
  intro dec' hk
  exact quietH hw (fun w _ => hv o rfl w) (ih ⟨l, updo ρ o.dst v, dec'⟩ hk)
theorem advH_sound (hT : tabOk P T = true) : ∀ (m : Nat) (c : CfgH), AtH P n R fr S all (advH T n all m c).l k (advH T n all m c).ρ [] w → AtH P n R fr S all c.l k c.ρ [] w := by
  intro m
  induction m with
  | zero => intro c h; exact h
  | succ m ih =>
    rintro ⟨l, ρ, dec⟩ h
    unfold advH at h
    split at h
    · exact h
    · exact h
    · split at h
      · exact stepH_ok (o := ⟨_, _, _, _, _, none⟩) hT ih rfl h id
      · rename_i j want
        split at h
        · exact h
        · rename_i t ht
          split at h
          · exact h
          · split at h
            · rename_i hv
              exact stepH_ok (o := ⟨_, _, _, _, _, some (j, true)⟩) hT ih (by simp [wantB, ht, hv]) h id
            · rename_i hv
              exact stepH_ok (o := ⟨_, _, _, _, _, some (j, false)⟩) hT ih (by simp [wantB, ht, hv]) h id
            · rename_i hv
              refine putK_elim (G := fun c : CfgH => AtH P n R fr S all c.l k c.ρ [] w) h ?_
              intro dec' h
              exact passH (o := ⟨_, _, _, _, _, some (j, false)⟩) (by simp [wantB, ht, hv]) (ih ⟨_, _, _⟩ h)
            · rename_i hv
              refine putK_elim (G := fun c : CfgH => AtH P n R fr S all c.l k c.ρ [] w) h ?_
              intro dec' h
              exact passH (o := ⟨_, _, _, _, _, some (j, true)⟩) (by simp [wantB, ht, hv]) (ih ⟨_, _, _⟩ h)
            · split at h
              · exact h
              · rename_i hb
                refine putK_elim (G := fun c : CfgH => AtH P n R fr S all c.l k c.ρ [] w) h ?_
                intro dec' h
                exact passH (o := ⟨_, _, _, _, _, some (j, _)⟩) (want_isB ht hb) (ih ⟨_, _, _⟩ h)
theorem goH (hT : tabOk P T = true) (m : Nat) {l' : List (Oper × Bool)} {ρ' : Env} {dec' : List Nat} (h : advH T n all m ⟨l, ρ, dec⟩ = ⟨l', ρ', dec'⟩) (h2 : AtH P n R fr S all l' k ρ' dec' w) : AtH P n R fr S all l k ρ dec w := by
  refine AtH.hint (dec := []) (advH_sound hT m ⟨l, ρ, dec⟩ ?_)
  rw [h]
  exact h2.hint
end

/-! ### A scope without a goto -/
section
variable {P : Program} {n : Nat} {R : Env → World → Prop} {fr : Fra} {all : Array Oper} {k : List It} {ρ : Env} {dec : List Nat} {w : World}
theorem label {l : Nat} (h : At P n R fr all [] k ρ dec w) : At P n R fr all [] (.code (.label l) :: k) ρ dec w := by
  show (Code.label l).wpIn (fen fr.1) 0 P (Lq P n R fr.1 k) (F fr.2 n ρ) w
  exact wpIn_label ⟨ρ, _, rfl, h⟩
theorem scope {c : Code} (h : At P n R fr all [] (.code c :: k) ρ dec w) (hro : fr.1 = none := by rfl) : At P n R fr all [] (.code (.scope c) :: k) ρ dec w := by
  show (Code.scope c).wpIn (fen fr.1) 0 P (Lq P n R fr.1 k) (F fr.2 n ρ) w
  have ef : fen fr.1 = Fence.wide := by rw [hro]; rfl
  rw [ef]
  refine wpIn_wide.2 (wp_scope_straight ?_)
  have e : Exit.noGoto (Lq P n R fr.1 k) = Lq P n R fr.1 k := by
    funext e a w
    cases e <;> rfl
  rw [e]
  have h : c.wpIn (fen fr.1) 0 P (Lq P n R fr.1 k) (F fr.2 n ρ) w := h
  rw [ef] at h
  exact wpIn_wide.1 h
end
/-! ### Results that lie in memory -/
section
variable {P : Program} {T : Tab} {n : Nat} {ρ : Env} {w : World}
/-- one result, told by its cells -/
def ResV (P : Program) (n : Nat) (ρ : Env) (w : World) : ResultVar → Value → Prop
  | .tmp t, v => ev n ρ (.tmp t) = v
  | .cell t ty, v => ∃ a, ev n ρ (.tmp t) = .pointer (some a) ∧ (loadVar ty a).run P w = .ok v w
theorem resA (hT : tabOk P T = true) {t : Nat} {ty : TypeId} {b off : Nat} {m : Nat} {fs : List (Nat × Nat × Bool)} {zs : List Value} (ht : Tab.get T ty = some (.str m fs zs)) (hx : ev n ρ (.tmp t) = .pointer (some ⟨b, off, none⟩)) {cs : List Value}
    (hm : Nat.beq (lenL cs) m = true) (hc : cellsAt w b off cs) : ResV P n ρ w (.cell t ty) (.agg cs.toArray) := by
  obtain ⟨gs, hgs, _, i, hi, him, _⟩ := tab_str hT ht
  have hm := Nat.eq_of_beq_eq_true hm
  rw [lenL_eq] at hm
  have e1 : (loadCells ⟨b, off, none⟩ cs.length).run P w = .ok cs.toArray w := run_loadCells_list w _ cs fun j v hv => by rw [Addr.add_mid]; exact hc j v hv
  have hag : aggB P ty = true := by simp [aggB, hgs]
  exact ⟨_, hx, by simp [loadVar, run_isAgg _ _ hgs, hag, run_sizeOf hi, him, ← hm, e1]⟩
theorem resC (hT : tabOk P T = true) {t : Nat} {ty : TypeId} {a : Addr} (ht : isOne T ty = true) (hx : ev n ρ (.tmp t) = .pointer (some a)) {v : Value} (hc : w.cell? a = some v) : ResV P n ρ w (.cell t ty) v := by
  obtain ⟨⟨d, hd⟩, hag, _⟩ := tab_one hT ht
  exact ⟨_, hx, by simp [loadVar, run_isAgg _ _ hd, hag, hc]⟩
def resOf (tmps : Array Value) : ResultVar → Sem Value
  | .tmp t => pure (tmps.getD t undef)
  | .cell a t => do loadVar t (← asAddr (tmps.getD a undef))
theorem results_of (fn : Func) (tmps : Array Value) : results fn tmps = (do
    let vs ← fn.results.mapM (resOf tmps)
    pure (if h : vs.size = 1 then vs[0] else .tuple vs)) := by
  unfold results resOf
  rfl
theorem run_res {r : ResultVar} {v : Value} (h : ResV P n ρ w r v) : (resOf (F [] n ρ).tmps r).run P w = .ok v w := by
  cases r with
  | tmp t =>
    have h : ev n ρ (.tmp t) = v := h
    simp only [resOf, ev_get, h]
    rfl
  | cell t ty =>
    obtain ⟨a, h1, h2⟩ := h
    simp only [resOf, ev_get, h1, asAddr, Sem.run_bind, Sem.run_pure, Result.andThen_ok, h2]
theorem retR1 {fn : Func} {K : Value → World → Prop} {r : ResultVar} (hr : fn.results = #[r]) {v : Value} (hv : ResV P n ρ w r v) (h : K v w) : RetQ P fn n K ρ w := by
  refine ⟨v, ?_, h⟩
  rw [results_of]
  simp only [hr, Array.mapM_eq_mapM_toList, List.mapM_cons, List.mapM_nil, Sem.run_bind, Sem.run_map, run_res hv, Result.andThen_ok, Sem.run_pure]
  rfl
theorem retR2 {fn : Func} {K : Value → World → Prop} {r s : ResultVar} (hr : fn.results = #[r, s]) {v x : Value} (hv : ResV P n ρ w r v) (hx : ResV P n ρ w s x) (h : K (.tuple #[v, x]) w) : RetQ P fn n K ρ w := by
  refine ⟨_, ?_, h⟩
  rw [results_of]
  simp only [hr, Array.mapM_eq_mapM_toList, List.mapM_cons, List.mapM_nil, Sem.run_bind, Sem.run_map, run_res hv, run_res hx, Result.andThen_ok, Sem.run_pure]
  rfl
theorem retR3 {fn : Func} {K : Value → World → Prop} {r s u : ResultVar} (hr : fn.results = #[r, s, u]) {v x y : Value} (hv : ResV P n ρ w r v) (hx : ResV P n ρ w s x) (hy : ResV P n ρ w u y) (h : K (.tuple #[v, x, y]) w) : RetQ P fn n K ρ w := by
  refine ⟨_, ?_, h⟩
  rw [results_of]
  simp only [hr, Array.mapM_eq_mapM_toList, List.mapM_cons, List.mapM_nil, Sem.run_bind, Sem.run_map, run_res hv, run_res hx, run_res hy, Result.andThen_ok, Sem.run_pure]
  rfl
end
end Go.Ev
