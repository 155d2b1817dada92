/- A step calculus over the kit's 'wp': elements of arrays; rows of structs. No statement about the program is in it. -/
import Derived.Test.YtolhfimknimliaaE1
namespace Go.Ev
open Go.RowKit
section
variable {P : Program} {T : Tab} {n : Nat} {R : Env → World → Prop} {fr : Fra} {all : Array Oper} {l : List Oper} {k : List It} {ρ : Env} {dec : List Nat} {w : World} {o : Oper} {l' : List (Oper × Bool)}
theorem tab_arr (hT : tabOk P T = true) {t len es : Nat} {ea : Bool} (h : Tab.get T t = some (.arr len es ea)) :
    ∃ e, P.underlying t = some (.array len e) ∧ (∃ d, P.underlying e = some d) ∧ aggB P e = ea ∧ (∃ i, P.info? e = some i ∧ i.size = es) ∧ ∃ i, P.info? t = some i ∧ i.size = len * es := by
  have := tab_get hT h
  simp only [tyOk] at this
  split at this
  · rename_i m e hu
    simp only [Bool.and_eq_true] at this
    obtain ⟨⟨⟨⟨h1, h2⟩, h3⟩, h4⟩, h5⟩ := this
    obtain rfl := Nat.eq_of_beq_eq_true h1
    refine ⟨e, hu, ?_, by simpa using h4, ?_, ?_⟩
    · cases hd : P.underlying e with
      | none => rw [hd] at h3; cases h3
      | some d => exact ⟨d, rfl⟩
    · cases hi : P.info? e with
      | none => rw [hi] at h2; cases h2
      | some i => rw [hi] at h2; exact ⟨i, rfl, by simpa using h2⟩
    · cases hi : P.info? t with
      | none => rw [hi] at h5; cases h5
      | some i => rw [hi] at h5; exact ⟨i, rfl, by simpa using h5⟩
  · cases this
/-- an element, of one cell, of an array value -/
theorem r_ix1 (hT : tabOk P T = true) {t : TypeId} {x y : Operand} (ho : o.op = .index t x y) {len es : Nat} (ht : Tab.get T t = some (.arr len es false)) {cs : List Value} (hx : ev n ρ x = .agg cs.toArray)
    {kd : IntKind} {i : Int} (hy : ev n ρ y = .int kd i) (j : Nat) (hj : i = (j : Int)) (hlt : j < len) {v : Value} (hv : cs[j * es]? = some v) : (execOp (ev n ρ) o).run P w = .ok (.value v) w := by
  obtain ⟨e, hu, ⟨d, hd⟩, hag, ⟨inf, hi, hs⟩, _⟩ := tab_arr hT ht
  subst hj
  have e1 : (0 : Int) ≤ (j : Int) ∧ (j : Int) < (len : Int) := by omega
  simp only [execOp, ho, hx, hy, Instr.index, asIntOf, Sem.run_bind, Sem.run_pure, Result.andThen_ok, run_underlying hu, if_pos e1, run_sizeOf hi, hs, part, run_isAgg _ _ hd, hag, Int.toNat_natCast]
  simp [hv]
/-- an element, a struct, of an array value -/
theorem r_ixS (hT : tabOk P T = true) {t : TypeId} {x y : Operand} (ho : o.op = .index t x y) {len es : Nat} (ht : Tab.get T t = some (.arr len es true)) {cs : List Value} (hx : ev n ρ x = .agg cs.toArray)
    {kd : IntKind} {i : Int} (hy : ev n ρ y = .int kd i) (j : Nat) (hj : i = (j : Int)) (hlt : j < len) {vs : List Value} (hv : (cs.drop (j * es)).take es = vs) : (execOp (ev n ρ) o).run P w = .ok (.value (.agg vs.toArray)) w := by
  obtain ⟨e, hu, ⟨d, hd⟩, hag, ⟨inf, hi, hs⟩, _⟩ := tab_arr hT ht
  subst hj
  have e1 : (0 : Int) ≤ (j : Int) ∧ (j : Int) < (len : Int) := by omega
  have e2 : (cs.toArray.extract (j * es) (j * es + es)) = vs.toArray := by
    rw [← hv]
    apply Array.ext'
    simp
  simp only [execOp, ho, hx, hy, Instr.index, asIntOf, Sem.run_bind, Sem.run_pure, Result.andThen_ok, run_underlying hu, if_pos e1, run_sizeOf hi, hs, part, run_isAgg _ _ hd, hag, Int.toNat_natCast, if_true, e2]
theorem ix1 (hT : tabOk P T = true) (hw : wantB n ρ all o = true) {t : TypeId} {x y : Operand} (ho : o.op = .index t x y) {len es : Nat} (ht : Tab.get T t = some (.arr len es false)) {cs : List Value} (hx : ev n ρ x = .agg cs.toArray)
    {kd : IntKind} {i : Int} (hy : ev n ρ y = .int kd i) (j : Nat) (hj : i = (j : Int)) (hlt : j < len) {v : Value} (hv : cs[j * es]? = some v)
    (h : At P n R fr all l k (updo ρ o.dst v) dec w) : At P n R fr all (o :: l) k ρ dec w := op_val hw (r_ix1 hT ho ht hx hy j hj hlt hv) h
theorem ixS (hT : tabOk P T = true) (hw : wantB n ρ all o = true) {t : TypeId} {x y : Operand} (ho : o.op = .index t x y) {len es : Nat} (ht : Tab.get T t = some (.arr len es true)) {cs : List Value} (hx : ev n ρ x = .agg cs.toArray)
    {kd : IntKind} {i : Int} (hy : ev n ρ y = .int kd i) (j : Nat) (hj : i = (j : Int)) (hlt : j < len) {vs : List Value} (hv : (cs.drop (j * es)).take es = vs)
    (h : At P n R fr all l k (updo ρ o.dst (.agg vs.toArray)) dec w) : At P n R fr all (o :: l) k ρ dec w := op_val hw (r_ixS hT ho ht hx hy j hj hlt hv) h
/-- a load of an array -/
theorem r_loadArr (hT : tabOk P T = true) {t : TypeId} {x : Operand} (ho : o.op = .load t x) {len es : Nat} {ea : Bool} (ht : Tab.get T t = some (.arr len es ea)) {b off : Nat}
    (hx : ev n ρ x = .pointer (some ⟨b, off, none⟩)) {cs : List Value} (hm : Nat.beq (lenL cs) (len * es) = true) (hc : cellsAt w b off cs) : (execOp (ev n ρ) o).run P w = .ok (.value (.agg cs.toArray)) w := by
  obtain ⟨e, hu, _, _, _, inf, hi, hs⟩ := tab_arr hT ht
  have hm := Nat.eq_of_beq_eq_true hm
  rw [lenL_eq] at hm
  have e1 : (loadCells ⟨b, off, none⟩ cs.length).run P w = .ok cs.toArray w := run_loadCells_list w _ cs fun j v hv => by rw [Addr.add_mid]; exact hc j v hv
  have hag : aggB P t = true := by simp [aggB, hu]
  simp [execOp, ho, hx, Instr.loadAt, Instr.sureAddr, loadVar, run_isAgg _ _ hu, hag, run_sizeOf hi, hs, ← hm, e1]
theorem ldArr (hT : tabOk P T = true) (hw : wantB n ρ all o = true) {t : TypeId} {x : Operand} (ho : o.op = .load t x) {len es : Nat} {ea : Bool} (ht : Tab.get T t = some (.arr len es ea)) {b off : Nat}
    (hx : ev n ρ x = .pointer (some ⟨b, off, none⟩)) {cs : List Value} (hm : Nat.beq (lenL cs) (len * es) = true) (hc : cellsAt w b off cs)
    (h : At P n R fr all l k (updo ρ o.dst (.agg cs.toArray)) dec w) : At P n R fr all (o :: l) k ρ dec w := op_val hw (r_loadArr hT ho ht hx hm hc) h
/-- an array built, in a drawn region -/
theorem r_bldA (hT : tabOk P T = true) {t : TypeId} {ps : Array (Nat × Operand)} (ho : o.op = .build t ps) {len es : Nat} {ea : Bool} (ht : Tab.get T t = some (.arr len es ea))
    {z : Value} (hz : zeroOf P t = some z) {cs : List Value} (hf : Instr.fill (fun i => some (i * es, es)) z.cells (ps.toList.map fun p => (p.1, ev n ρ p.2)) = some cs.toArray) : (execOp (ev n ρ) o).run P w = .ok (.value (.agg cs.toArray)) w := by
  obtain ⟨e, hu, _, _, ⟨inf, hi, hs⟩, it, hit, _⟩ := tab_arr hT ht
  unfold zeroOf at hz
  rw [hit, Option.bind_some] at hz
  have e3 : (ps.map fun (p : Nat × Operand) => (p.1, ev n ρ p.2)).toList = ps.toList.map fun p => (p.1, ev n ρ p.2) := by simp
  simp only [execOp, ho, Instr.build, Sem.run_bind, zeroValue, typeInfo, run_program, Result.andThen_ok, hit, Sem.run_pure, hz, run_underlying hu, run_sizeOf hi, hs]
  rw [e3, hf]
  rfl
variable {S : World → Prop}
theorem stAL (hT : tabOk P T = true) (hw : wantB n ρ all o = true) {t : TypeId} {x y : Operand} (ho : o.op = .store t x y) {m : Nat} {fs : List (Nat × Nat × Bool)} {zs : List Value} (ht : Tab.get T t = some (.str m fs zs)) {g i : Nat}
    (hx : ev n ρ x = .pointer (some ⟨g, i, none⟩)) {vs : List Value} (hy : ev n ρ y = .agg vs.toArray) (hm : Nat.beq (lenL vs) m = true) (h1 : vs.all (·.oneCell') = true)
    {tg : TypeId} {cs : List Value} (hb : Bk w g tg cs) (hi : Nat.ble (i + m) (lenL cs) = true) (hl : lastOk .any all o = true)
    (h : ∀ w', Chg (fun k => k = g) w w' → Bk w' g tg (putL i vs cs) → w'.heap.size = w.heap.size → AtH P n R fr S all [] k (updo ρ o.dst undef) dec w') : AtH P n R fr S all [(o, false)] k ρ dec w := by
  obtain ⟨w', h1, h2, h3, h4⟩ := r_stA hT ho ht hx hy hm h1 hb hi
  exact skipL hw h1 hl (h w' h2 h3 h4)
theorem r_nw {t : TypeId} (ho : o.op = .alloc t) {z : Value} (hz : zeroOf P t = some z) {cs : List Value} (hv : z.cells = cs.toArray) :
    (execOp (ev n ρ) o).run P w = .ok (.value (.pointer (some ⟨w.heap.size, 0, none⟩))) (w.alloc (.cells cs.toArray t)) := by
  unfold zeroOf at hz
  cases hi : P.info? t with
  | none => rw [hi] at hz; cases hz
  | some i =>
    rw [hi] at hz
    simp only [Option.bind_some] at hz
    simp [execOp, ho, Instr.alloc, zeroValue, typeInfo, hi, hz, newVar, newRow, hv]
/-- a new variable, in a drawn region -/
theorem nwE (hw : wantB n ρ all o = true) {t : TypeId} (ho : o.op = .alloc t) {z : Value} (hz : zeroOf P t = some z) {cs : List Value} (hv : z.cells = cs.toArray)
    (h : ∀ g w', w.heap.size = g → w'.heap.size = g + 1 → Chg No w w' → Bk w' g t cs → S w' ∧ AtH P n R fr S all l' k (updo ρ o.dst (.pointer (some ⟨g, 0, none⟩))) dec w') : AtH P n R fr S all ((o, false) :: l') k ρ dec w := by
  obtain ⟨h1, h2⟩ := h _ _ rfl (by simp) (Chg.alloc w _) (Bk.new w t cs)
  exact valE hw (r_nw ho hz hv) h1 h2
/-- a literal slice, in a drawn region -/
theorem rowE (hT : tabOk P T = true) (hw : wantB n ρ all o = true) {t m : Nat} {ps : Array (Nat × Operand)} (ho : o.op = .buildSlice t m ps) {e es eb : Nat} (ht : Tab.get T t = some (.slc e es eb)) (hm : Nat.beq (lenP ps.toList) m = true) (hrow : rowOk n ρ es 0 ps.toList = true)
    (hbig : Nat.ble (m * es) 16777216 = true) {cs : List Value} (hcs : flatC n ρ ps.toList = cs)
    (h : ∀ g w', w.heap.size = g → w'.heap.size = g + 1 → Chg No w w' → Bk w' g e cs → S w' ∧ AtH P n R fr S all l' k (updo ρ o.dst (.slice (some ⟨g, 0, none⟩) m m)) dec w') : AtH P n R fr S all ((o, false) :: l') k ρ dec w := by
  obtain ⟨h1, h2⟩ := r_row (w := w) hT ho ht hm hrow hbig
  rw [hcs] at h1 h2
  obtain ⟨h3, h4⟩ := h _ _ rfl (by simp) (Chg.alloc w _) (Bk.new w e cs)
  exact valE hw h1 h3 h4
theorem r_slcHi (hT : tabOk P T = true) {t : TypeId} {x y : Operand} (ho : o.op = .slice t x none (some y) none) {e es eb : Nat} (ht : Tab.get T t = some (.slc e es eb)) {A : Option Addr} {m c : Nat}
    (hx : ev n ρ x = .slice A m c) {kd : IntKind} {i : Int} (hy : ev n ρ y = .int kd i) (j : Nat) (hi : i = (j : Int)) (hj : j ≤ c) : (execOp (ev n ρ) o).run P w = .ok (.value (.slice A j c)) w := by
  obtain ⟨hu, inf, z, hinf, hs, _⟩ := tab_slc hT ht
  subst hi
  have eA : (if c = 0 then A else A.map fun x => x.add (0 * inf.size)) = A := by
    split
    · rfl
    · cases A <;> simp [Addr.add]
  simp only [execOp, ho, hx, hy, Option.map_some, Option.map_none, Instr.sliceAt, Sem.run_bind, run_underlying hu, Result.andThen_ok, Instr.slice, Instr.sliceBounds, Sem.run_pure,
    run_sliceBound (P := P) w kd (j : Int) c _ (by omega) (by omega), run_sizeOf hinf]
  simp only [Int.toNat_natCast, Nat.sub_zero, eA]
theorem r_slcLo (hT : tabOk P T = true) {t : TypeId} {x y : Operand} (ho : o.op = .slice t x (some y) none none) {e es eb : Nat} (ht : Tab.get T t = some (.slc e es eb)) {A : Option Addr} {m c : Nat}
    (hx : ev n ρ x = .slice A m c) {kd : IntKind} {i : Int} (hy : ev n ρ y = .int kd i) (j : Nat) (hi : i = (j : Int)) (hj : j ≤ m) : (execOp (ev n ρ) o).run P w = .ok (.value (.slice (if c = j then A else A.map fun x => x.add (j * es)) (m - j) (c - j))) w := by
  obtain ⟨hu, inf, z, hinf, hs, _⟩ := tab_slc hT ht
  subst hi
  subst hs
  simp only [execOp, ho, hx, hy, Option.map_some, Option.map_none, Instr.sliceAt, Sem.run_bind, run_underlying hu, Result.andThen_ok, Instr.slice, Instr.sliceBounds, Sem.run_pure,
    run_sliceBound (P := P) w kd (j : Int) m _ (by omega) (by omega), run_sizeOf hinf]
  simp only [Int.toNat_natCast]
/-- x[j:k] -/
theorem r_slcLH (hT : tabOk P T = true) {t : TypeId} {x y z : Operand} (ho : o.op = .slice t x (some y) (some z) none) {e es eb : Nat} (ht : Tab.get T t = some (.slc e es eb)) {A : Option Addr} {m c : Nat}
    (hx : ev n ρ x = .slice A m c) {kd kd2 : IntKind} {i i2 : Int} (hy : ev n ρ y = .int kd i) (hz : ev n ρ z = .int kd2 i2) (j k : Nat) (hi : i = (j : Int)) (hi2 : i2 = (k : Int)) (hj : j ≤ k) (hk : k ≤ c) :
    (execOp (ev n ρ) o).run P w = .ok (.value (.slice (if c = j then A else A.map fun x => x.add (j * es)) (k - j) (c - j))) w := by
  obtain ⟨hu, inf, _, hinf, hs, _⟩ := tab_slc hT ht
  subst hi
  subst hi2
  subst hs
  simp only [execOp, ho, hx, hy, hz, Option.map_some, Option.map_none, Instr.sliceAt, Sem.run_bind, run_underlying hu, Result.andThen_ok, Instr.slice, Instr.sliceBounds, Sem.run_pure,
    run_sliceBound (P := P) w kd2 (k : Int) c _ (by omega) (by omega), run_sliceBound (P := P) w kd (j : Int) k _ (by omega) (by omega), run_sizeOf hinf, Int.toNat_natCast]
/-- append(out, xs...), alone -/
theorem r_appS (hT : tabOk P T = true) {s x : Operand} {t : TypeId} (ho : o.op = .call { callee := .builtin .append, args := #[s, x], argTypes := #[t, t] }) {e es eb : Nat} (ht : Tab.get T t = some (.slc e es eb))
    {A : Option Addr} {nn c : Nat} (hs : ev n ρ s = .slice A nn c) {A2 : Option Addr} {m c2 : Nat} (hx : ev n ρ x = .slice A2 m c2) {B : Nat} {xs : List Value} (hown : w.ownsRow B e es (.slice A nn c) nn xs) {news : List Value}
    {B2 : Nat} (hsl : Sl w B2 es A2 m news) (h1 : news.all (·.oneCell') = true) (h63 : nn + m ≤ maxLen) (hby : (nn + m) * eb ≤ 140737488355328) (hB : B ≤ w.heap.size) :
    ∃ A' c' w', (execOp (ev n ρ) o).run P w = .ok (.value (.slice A' (nn + m) c')) w' ∧ w'.ownsRow B e es (.slice A' (nn + m) c') (nn + m) (xs ++ news) ∧ Chg (fun k => (Value.slice A nn c).ownBlock = some k) w w' ∧
      ((Value.slice A' (nn + m) c').ownBlock = (Value.slice A nn c).ownBlock ∨ (Value.slice A' (nn + m) c').ownBlock = some w.heap.size) := by
  have key : ∀ (ad : Addr) (news : List Value), news.length = m * es → (∀ j u, news[j]? = some u → w.cell? (ad.add j) = some u) → news.all (·.oneCell') = true → A2 = some ad →
      ∃ A' c' w', (execOp (ev n ρ) o).run P w = .ok (.value (.slice A' (nn + m) c')) w' ∧ w'.ownsRow B e es (.slice A' (nn + m) c') (nn + m) (xs ++ news) ∧ Chg (fun k => (Value.slice A nn c).ownBlock = some k) w w' ∧
      ((Value.slice A' (nn + m) c').ownBlock = (Value.slice A nn c).ownBlock ∨ (Value.slice A' (nn + m) c').ownBlock = some w.heap.size) := by
    intro ad news hl hnews h1 hA
    subst hA
    obtain ⟨A', c', w', hr, a1, a2, a3⟩ := r_app (ty := o.type) (c2 := c2) hT ht hown hl hnews h1 h63 hby hB
    exact ⟨A', c', w', exec_app ho hs hx hr, a1, a2, a3⟩
  rcases Nat.eq_zero_or_pos m with h0 | h0
  · subst h0
    have hn : news = [] := List.eq_nil_of_length_eq_zero (by simpa using hsl.1)
    subst hn
    obtain ⟨hu, inf, z, hi, hs', hb, hz, hzs, hes⟩ := tab_slc hT ht
    cases A2 with
    | none =>
      have hr : (Builtin.append_ #[t, t] o.type #[.slice A nn c, .slice none 0 c2]).run P w = .ok (.slice A nn c) w := by
        rcases hown.2 with ⟨e1, e2⟩ | ⟨g, cap, cur, e1, _, _, hnc, _⟩
        · rw [e1]
          simp [Builtin.append_, run_underlying hu, sizeOf, typeInfo, hi, Builtin.lenOf, Builtin.firstCells]
        · rw [e1]
          simp [Builtin.append_, run_underlying hu, sizeOf, typeInfo, hi, Builtin.lenOf, Builtin.firstCells, hnc, storeCells]
      exact ⟨A, c, w, exec_app ho hs hx hr, by simpa using hown, Chg.refl _ _, .inl rfl⟩
    | some ad => exact key ad [] (by simp) (by simp) rfl rfl
  · obtain ⟨b, off, rfl, _, hc⟩ := hsl.2.2 h0
    exact key _ news hsl.1 (fun j u hu => by rw [Addr.add_mid]; exact hc j u hu) h1 rfl
theorem appSE (hT : tabOk P T = true) (hw : wantB n ρ all o = true) {s x : Operand} {t : TypeId} (ho : o.op = .call { callee := .builtin .append, args := #[s, x], argTypes := #[t, t] }) {e es eb : Nat} (ht : Tab.get T t = some (.slc e es eb))
    {A : Option Addr} {nn c : Nat} (hs : ev n ρ s = .slice A nn c) {A2 : Option Addr} {m c2 : Nat} (hx : ev n ρ x = .slice A2 m c2) {B : Nat} {xs : List Value} (hown : w.ownsRow B e es (.slice A nn c) nn xs) {news : List Value}
    {B2 : Nat} (hsl : Sl w B2 es A2 m news) (h1 : news.all (·.oneCell') = true) (h63 : nn + m ≤ maxLen) (hby : (nn + m) * eb ≤ 140737488355328) (hB : B ≤ w.heap.size)
    (h : ∀ A' c' w', w'.ownsRow B e es (.slice A' (nn + m) c') (nn + m) (xs ++ news) → Chg (fun k => (Value.slice A nn c).ownBlock = some k) w w' →
      ((Value.slice A' (nn + m) c').ownBlock = (Value.slice A nn c).ownBlock ∨ (Value.slice A' (nn + m) c').ownBlock = some w.heap.size) → S w' ∧ AtH P n R fr S all l' k (updo ρ o.dst (.slice A' (nn + m) c')) dec w') : AtH P n R fr S all ((o, false) :: l') k ρ dec w := by
  obtain ⟨A', c', w', hr, a1, a2, a3⟩ := r_appS hT ho ht hs hx hown hsl h1 h63 hby hB
  obtain ⟨h2, h3⟩ := h A' c' w' a1 a2 a3
  exact valE hw hr h2 h3
end
/-! ### Two operations that are ready at once: either may come first -/
def quietP (ops : Array Oper) : List Nat → Array Bool → Bool
  | [], _ => true
  | i :: r, listed => (Region.ready .any ops listed).contains i && (Region.free .any ops listed i && quietP ops r (listed.setIfInBounds i true))
def listP : List Nat → Array Bool → Array Bool
  | [], listed => listed
  | i :: r, listed => listP r (listed.setIfInBounds i true)
def draw2Ok (ops : Array Oper) (pre : List Nat) (i j : Nat) (r1 r2 : List (Nat × Bool)) : Bool :=
  noDefer ops.toList && (Region.noSelect ops && (Nat.beq (pre.length + (r1.length + 1)) ops.size && (Nat.beq r1.length r2.length && (quietP ops pre (Array.replicate ops.size false) &&
    ((Region.ready .any ops (listP pre (Array.replicate ops.size false)) == [i, j]) && (canon ops r1 ((listP pre (Array.replicate ops.size false)).setIfInBounds i true) && canon ops r2 ((listP pre (Array.replicate ops.size false)).setIfInBounds j true)))))))
section
variable {P : Program} {n : Nat} {R : Env → World → Prop} {fr : Fra} {S : World → Prop} {all : Array Oper} {k : List It} {ρ : Env} {dec : List Nat} {w : World}
theorem draw_alone (hnd : noDefer all.toList = true) (hs : Region.noSelect all = true) {i : Nat} {r : List (Nat × Bool)} {l : List (Oper × Bool)} {listed : Array Bool} (hp : pickO all.toList ((i, false) :: r) = some l) (hc : canon all r (listed.setIfInBounds i true) = true) (hS : S w) (h : AtH P n R fr S all l k ρ [] w) :
    wpOpIn (fen fr.1) 0 P all (Lq P n R fr.1 k) i (fun a' w' => (S w' ∨ ∀ o, all[i]? = some o → lastOk .any all o = true) ∧ anyH P fr.1 .any all (Lq P n R fr.1 k) S r.length (listed.setIfInBounds i true) a' w') (F fr.2 n ρ) w := by
  simp only [pickO] at hp
  split at hp
  · rename_i o l' ho hl'
    simp only [Option.some.injEq] at hp
    subst hp
    rw [nthO_eq] at ho
    have ho' : all[i]? = some o := by simpa using ho
    unfold wpOpIn
    simp only [ho', want_eq]
    simp only [AtH] at h
    by_cases hw : wantB n ρ all o = true
    · rw [if_pos hw] at h ⊢
      refine Oper.wpIn_mono (fun a' w' h' => ?_) h
      obtain ⟨ρ', rfl, hS', h'⟩ := h'
      rcases hS' with hS' | ⟨rfl, hlast⟩
      · exact ⟨.inl hS', draw_sound hnd hs r l' _ ρ' w' hl' hc hS' h'⟩
      · refine ⟨.inr fun o' ho'' => by cases ho''; exact hlast, ?_⟩
        cases r with
        | nil => exact anyH_done (by simpa [canon] using hc) ⟨ρ', _, rfl, h'⟩ 0
        | cons p r =>
          obtain ⟨i2, q2⟩ := p
          simp only [pickO] at hl'
          split at hl' <;> simp at hl'
    · rw [if_neg hw] at h ⊢
      rw [F_put]
      exact ⟨fun _ _ => trivial, .inl hS, draw_sound hnd hs r l' _ _ w hl' hc hS h⟩
  · cases hp
theorem draw_pre (hnd : noDefer all.toList = true) (hs : Region.noSelect all = true) {J : Env → World → Prop} {m : Nat} : ∀ (pre : List Nat) (l : List (Oper × Bool)) (listed : Array Bool) (ρ : Env), pickO all.toList (pre.map fun i => (i, true)) = some l → quietP all pre listed = true → S w →
    AtH P n R fr S all l [.lp fr.2 J] ρ [] w → (∀ ρ', J ρ' w → anyH P fr.1 .any all (Lq P n R fr.1 k) S m (listP pre listed) (F fr.2 n ρ') w) →
    anyH P fr.1 .any all (Lq P n R fr.1 k) S (pre.length + m) listed (F fr.2 n ρ) w := by
  intro pre
  induction pre with
  | nil =>
    intro l listed ρ hp _ _ h hJ
    simp only [List.map_nil, pickO, Option.some.injEq] at hp
    subst hp
    have h : fr.2 = fr.2 ∧ J ρ w := h
    have := hJ ρ h.2
    simpa [listP] using this
  | cons i pre ih =>
    intro l listed ρ hp hq hS h hJ
    simp only [List.map_cons, pickO] at hp
    split at hp
    · rename_i o l' ho hl'
      simp only [Option.some.injEq] at hp
      subst hp
      rw [nthO_eq] at ho
      have ho' : all[i]? = some o := by simpa using ho
      simp only [quietP, Bool.and_eq_true] at hq
      obtain ⟨v, hy, h⟩ := h
      rw [show (i :: pre).length + m = (pre.length + m) + 1 by simp; omega]
      refine anyH_take hnd ho' hs hq.2.1 hq.1 (fun c a w h => lq_panic _ _ c a w h) hy hS ?_
      rw [F_put]
      exact ih l' _ _ hl' hq.2.2 hS h hJ
    · cases hp
theorem draw2 (hm : P.follows .mixedOrders = true) (S : World → Prop) (pre : List Nat) (i j : Nat) (r1 r2 : List (Nat × Bool)) {id : Nat} {ops all0 : Array Oper} {lp l1 l2 : List (Oper × Bool)} (hp : pickO ops.toList (pre.map fun i => (i, true)) = some lp) (h1 : pickO ops.toList ((i, false) :: r1) = some l1)
    (h2 : pickO ops.toList ((j, false) :: r2) = some l2) (hk : draw2Ok ops pre i j r1 r2 = true) (hS : S w.drew)
    (h : AtH P n R fr S ops lp [.lp fr.2 (fun ρ' w' => w' = w.drew ∧ (AtH P n R fr S ops l1 k ρ' [] w' ∧ AtH P n R fr S ops l2 k ρ' [] w'))] ρ [] w.drew) : At P n R fr all0 [] (.code (.region id ops true) :: k) ρ dec w := by
  show (Code.region id ops true).wpIn (fen fr.1) 0 P (Lq P n R fr.1 k) (F fr.2 n ρ) w
  refine region_held (S := S) hm ?_
  simp only [draw2Ok, Bool.and_eq_true, beq_iff_eq] at hk
  obtain ⟨hnd, hs, hlen, hl12, hq, hr, hc1, hc2⟩ := hk
  have hlen := Nat.eq_of_beq_eq_true hlen
  have hl12 := Nat.eq_of_beq_eq_true hl12
  rw [← hlen]
  have := draw_pre (k := k) (m := r1.length + 1) hnd hs pre lp (Array.replicate ops.size false) ρ hp hq hS h ?_
  · rw [hlen] at this ⊢; exact this
  · rintro ρ' ⟨_, a1, a2⟩
    refine anyH_all hr (by simp) fun x hx => ?_
    simp only [List.mem_cons, List.not_mem_nil, or_false] at hx
    rcases hx with rfl | rfl
    · exact draw_alone hnd hs h1 hc1 hS a1
    · rw [hl12]
      exact draw_alone hnd hs h2 hc2 hS a2
end
theorem own_cap {w : World} {B : Nat} {e : TypeId} {sz n c : Nat} {A : Option Addr} {xs : List Value} (h : w.ownsRow B e sz (.slice A n c) n xs) : n ≤ c := by
  rcases h.2 with ⟨hv, h0⟩ | ⟨g, cap, cur, hv, _, _, hnc, _⟩
  · omega
  · injection hv with _ _ hc
    omega
/-- a block of a row, as a slice -/
theorem Bk.sl {w : World} {g e sz m : Nat} {cs : List Value} (h : Bk w g e cs) (hl : cs.length = m * sz) : Sl w w.heap.size sz (some ⟨g, 0, none⟩) m cs :=
  ⟨hl, Nat.le_refl _, fun _ => ⟨g, 0, rfl, h.lt, h.all⟩⟩

/-! ### Rows of structs -/
section
variable {α : Type} {f : α → List Value} {sz : Nat}
theorem flat_len (hf : ∀ x, (f x).length = sz) (l : List α) : (l.flatMap f).length = l.length * sz := by
  induction l with
  | nil => simp
  | cons x l ih => rw [List.flatMap_cons, List.length_append, ih, hf, List.length_cons, Nat.add_mul, Nat.one_mul, Nat.add_comm]
theorem flat_get (hf : ∀ x, (f x).length = sz) : ∀ (l : List α) (j : Nat) (x : α) (i : Nat) (v : Value), l[j]? = some x → (f x)[i]? = some v → (l.flatMap f)[j * sz + i]? = some v := by
  intro l
  induction l with
  | nil => intro j x i v h; cases h
  | cons y l ih =>
    intro j x i v hj hi
    rw [List.flatMap_cons]
    cases j with
    | zero =>
      simp only [List.getElem?_cons_zero, Option.some.injEq] at hj
      subst hj
      have := (List.getElem?_eq_some_iff.1 hi).1
      rw [Nat.zero_mul, Nat.zero_add, List.getElem?_append_left this]
      exact hi
    | succ j =>
      have e : (j + 1) * sz + i = (f y).length + (j * sz + i) := by rw [hf, Nat.add_mul, Nat.one_mul]; omega
      rw [e, List.getElem?_append_right (by omega), Nat.add_sub_cancel_left]
      exact ih j x i v (by simpa using hj) hi
theorem flat_snoc (l : List α) (x : α) : (l ++ [x]).flatMap f = l.flatMap f ++ f x := by simp
variable {w : World} {B : Nat} {A : Option Addr}
/-- an element of a row of structs -/
theorem Sl.el {l : List α} (h : Sl w B sz A l.length (l.flatMap f)) (hf : ∀ x, (f x).length = sz) {j : Nat} {x : α} (hx : l[j]? = some x) :
    ∃ b o, A = some ⟨b, o, none⟩ ∧ b < B ∧ cellsAt w b (o + j * sz) (f x) := by
  have hj := (List.getElem?_eq_some_iff.1 hx).1
  obtain ⟨b, o, hA, hb, hc⟩ := h.2.2 (by omega)
  refine ⟨b, o, hA, hb, fun i v hv => ?_⟩
  rw [Nat.add_assoc]
  exact hc _ v (flat_get hf l j x i v hx hv)
/-- an element of a row of ints -/
theorem Sl.elI {l : List Int} {A : Option Addr} (h : Sl w B 1 A l.length (l.map (Value.int .i64))) {j : Nat} {x : Int} (hx : l[j]? = some x) :
    ∃ b o, A = some ⟨b, o, none⟩ ∧ b < B ∧ w.cell? ⟨b, o + j * 1, none⟩ = some (.int .i64 x) := by
  have hj := (List.getElem?_eq_some_iff.1 hx).1
  obtain ⟨b, o, hA, hb, hc⟩ := h.2.2 (by omega)
  refine ⟨b, o, hA, hb, ?_⟩
  rw [Nat.mul_one]
  exact hc j _ (by simp [hx])
theorem cellsAt.get {b o : Nat} {cs : List Value} (h : cellsAt w b o cs) {i : Nat} {v : Value} (hv : nth? cs i = some v) : w.cell? ⟨b, o + i, none⟩ = some v := by
  rw [nth?_eq] at hv
  exact h i v hv
/-- a part of a block known whole -/
theorem Bk.sub {g : Nat} {t : TypeId} {cs : List Value} (h : Bk w g t cs) (o : Nat) (ds : List Value) (hd : (cs.drop o).take ds.length = ds) : cellsAt w g o ds :=
  h.cells o ds fun j v hv => by
    have hj := (List.getElem?_eq_some_iff.1 hv).1
    rw [← hd, List.getElem?_take, if_pos hj, List.getElem?_drop] at hv
    exact hv
end
end Go.Ev
