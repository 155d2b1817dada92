/- A step calculus over the kit's 'wp': a range over a function, and the iterator that it runs. No statement about the program is in it. -/
import Derived.RangeFuncIn
import Derived.RangeFuncSeq
import Derived.Test.YtolhfimknimliaaEw
namespace Go.Ev
open Go.RowKit

theorem Chg.putObj (w : World) (l : Nat) (o : Obj) : Chg (fun k => k = l) w (w.putObj l o) := ⟨rfl, rfl, rfl, by simp, fun _ _ hk => World.putObj_heap_other hk⟩
section
variable {P : Program}
/-- what an iterator owes: encs: the values that it hands on; H: what is known of them in memory; Z: the blocks that the loop's body must leave; S: what has come at its end -/
def Seq {α : Type} (P : Program) (gf : Nat) (lb : List Value) (encs : α → List Value) (H : List α → α → World → Prop) (Z : Nat → Prop) (S : List α → Prop) (w0 : World) : Prop :=
  ∀ (l : Nat) (J : List α → World → Prop) (W : World), Chg No w0 W →
    (∀ s A B, J s A → Chg No A B → J s B) →
    (∀ pre x W1, J pre W1 → H pre x W1 → W.heap.size ≤ W1.heap.size →
      YieldAt Fence.wide 0 P l (encs x).toArray W1 fun e W' => e = .returned (.bool true) ∧ J (pre ++ [x]) W' ∧ Chg (fun k => ¬ Z k) W1 W') →
    J [] W → Ret P gf (.func (.yield l) #[] #[] :: lb) W fun _ W' => ∃ xs, S xs ∧ J xs W'
def setAll : List (Nat × Value) → Env → Env
  | [], ρ => ρ
  | (t, v) :: l, ρ => setAll l (upd ρ t v)
theorem F_setAll {ds : List Deferred} {n : Nat} : ∀ (l : List (Nat × Value)) (ρ : Env), (l.foldl (fun (t : Array Value) (p : Nat × Value) => t.setIfInBounds p.1 p.2) (F ds n ρ).tmps) = (F ds n (setAll l ρ)).tmps := by
  intro l
  induction l with
  | nil => intro ρ; rfl
  | cons p l ih =>
    intro ρ
    obtain ⟨t, v⟩ := p
    have e : ((F ds n ρ).tmps.setIfInBounds t v) = (F ds n (upd ρ t v)).tmps := by
      have := F_put (ds := ds) n ρ (some t) v
      exact congrArg Act.tmps this
    simp only [List.foldl_cons, setAll]
    rw [e]
    exact ih _
variable {n : Nat} {R : Env → World → Prop} {fr : Fra} {all : Array Oper} {k : List It} {ρ : Env} {dec : List Nat} {w : World}
theorem wide_n {c : Code} {m : Nat} {ro : Option Nat} {Q : Exit → Act → World → Prop} {a : Act} (h : c.wpIn (fen ro) 0 P Q a w) : c.wpIn (fen ro) m P Q a w :=
  fun b k cs hro hb _ => h b k cs hro hb (fun _ h => by cases h)

theorem rangeFunc {α : Type} {g : Operand} {ps : Array Tmp} {assign body : Code} {gf : Nat} {lb : List Value} {encs : α → List Value} {H : List α → α → World → Prop} {Z : Nat → Prop} {S : List α → Prop}
    (hfr : fr = (none, [])) (hg : ev n ρ g = .func (.func gf) #[] lb.toArray) (hok : callable P gf = true) (hseq : Seq P gf lb encs H Z S w) (hZ : ∀ k, Z k → k < w.heap.size) (hps : ∀ x, (encs x).length = ps.size)
    (hH : ∀ pre x A B l, H pre x A → (∃ r, A.heap[l]? = some (.loop r)) → Chg (fun k => k = l) A B → H pre x B)
    (I : List α → World → Prop) (hI : ∀ s A B, I s A → Chg No A B → I s B) (hIl : ∀ s A B, I s A → (∃ r, A.heap[w.heap.size + 1]? = some (.loop r)) → Chg (fun k => k = w.heap.size + 1) A B → I s B) (h0 : I [] w) (as : α → List (Nat × Value))
    (hassign : ∀ l x W, At P n (fun _ _ => False) (some l, []) #[] [] [.code assign, .lp [] (fun ρ' w' => ρ' = setAll (as x) (setAll (ps.toList.zip (encs x)) ρ) ∧ w' = W)] (setAll (ps.toList.zip (encs x)) ρ) [] W)
    (hbody : ∀ l pre x W, I pre W → H pre x W → w.heap.size + 2 ≤ W.heap.size → (∃ r, W.heap[w.heap.size + 1]? = some (.loop r)) → W.heap[w.heap.size]? = some (.deferred (some [])) →
      At P n (fun _ _ => False) (some l, []) #[] [] [.code body, .lp [] (fun _ w' => I (pre ++ [x]) w' ∧ Chg (fun k => k ≠ w.heap.size ∧ k ≠ w.heap.size + 1 ∧ ¬ Z k) W w')] (setAll (as x) (setAll (ps.toList.zip (encs x)) ρ)) [] W)
    (hdone : ∀ xs W, S xs → I xs W → w.heap.size + 2 ≤ W.heap.size → W.heap[w.heap.size]? = some (.deferred (some [])) →
      At P n R (none, [{ target := .collected w.heap.size, args := #[] }]) #[] [] k ρ [] W) :
    At P n R fr all [] (.code (.rangeFunc g ps assign body) :: k) ρ dec w := by
  subst hfr
  show (Code.rangeFunc g ps assign body).wpIn Fence.wide 0 P (Lq P n R none k) (F [] n ρ) w
  refine wpIn_rangeFunc ?_
  intro fn _
  have hround : Fence.wide.round = none := rfl
  rw [hround]
  obtain ⟨rec, hrec⟩ : ∃ rec : LoopState → Option Code → Loop, rec = fun st pe => { state := st, pending := pe, fn, tmps := (F [] n ρ).tmps, params := ps, assign, body, defers := w.heap.size } := ⟨_, rfl⟩
  obtain ⟨W1, hW1⟩ : ∃ W1, (w.alloc (.deferred (some []))).alloc (.loop (rec .ready none)) = W1 := ⟨_, rfl⟩
  have hL1 : W1.heap[w.heap.size + 1]? = some (.loop (rec .ready none)) := by
    rw [← hW1]; have := World.alloc_heap_new (w.alloc (.deferred (some []))) (.loop (rec .ready none)); rwa [World.size_alloc] at this
  have hK1 : W1.heap[w.heap.size]? = some (.deferred (some [])) := by
    rw [← hW1]; exact (Below.heap_alloc _ _ _ (by simp)).trans (World.alloc_heap_new w _)
  have hs1 : W1.heap.size = w.heap.size + 2 := by rw [← hW1]; simp
  have q1 : Chg No w W1 := by rw [← hW1]; exact (Chg.alloc w _).trans (Chg.alloc _ _)
  refine ⟨w.heap.size + 1, [{ target := .collected w.heap.size, args := #[] }], W1, { target := .fn (.func gf) lb.toArray, args := #[.func (.yield (w.heap.size + 1)) #[] #[]] }, W1, gf,
    (.func (.yield (w.heap.size + 1)) #[] #[] :: lb).toArray, W1, ?_, ?_, ?_, ?_, ?_, ?_⟩
  · rw [← hW1, hrec]; exact run_enterLoop_outer _ _ _ _ _
  · simp only [resolve]
    rw [F_eval]
    simp only [hg, Deferred.ofValue]
    simp [ev]
  · intro f' _; trivial
  · have e : #[Value.func (.yield (w.heap.size + 1)) #[] #[]] ++ lb.toArray = (Value.func (.yield (w.heap.size + 1)) #[] #[] :: lb).toArray := by apply Array.ext'; simp
    simp only [invoke]
    rw [e]
    exact run_call hok
  · intro h; cases h
  · refine callsIn_wide.2 (Calls.mono (hseq (w.heap.size + 1)
      (fun pre W => I pre W ∧ w.heap.size + 2 ≤ W.heap.size ∧ W.heap[w.heap.size + 1]? = some (.loop (rec .ready none)) ∧ W.heap[w.heap.size]? = some (.deferred (some [])))
      W1 q1 ?_ ?_ ⟨hI _ _ _ h0 q1, by omega, hL1, hK1⟩) ?_)
    · intro s A B ⟨h1, h2, h3, h4⟩ q
      refine ⟨hI s A B h1 q, Nat.le_trans h2 q.size, ?_, ?_⟩
      · rw [q.block _ (by omega) (fun h => h)]; exact h3
      · rw [q.block _ (by omega) (fun h => h)]; exact h4
    · -- a round
      rintro pre x W ⟨hi, hsz, hl, hk⟩ hx _
      have hy := run_yield (P := P) (args := (encs x).toArray) hl (by rw [hrec]; simp [hps x])
      rw [hrec] at hy
      refine ⟨fn, _, assign, body, hy, roundIn_of_wpIn trivial ?_⟩
      have ez : (ps.zip (encs x).toArray).foldl (fun (tmps : Array Value) (x : Tmp × Value) => tmps.setIfInBounds x.1 x.2) (F [] n ρ).tmps = (F [] n (setAll (ps.toList.zip (encs x)) ρ)).tmps := by
        rw [← F_setAll, ← Array.foldl_toList]
        simp
      have ha := hassign (w.heap.size + 1) x W
      have ha : assign.wpIn (fen (some (w.heap.size + 1))) 0 P (Lq P n (fun _ _ => False) (some (w.heap.size + 1)) [.lp [] (fun ρ' w' => ρ' = setAll (as x) (setAll (ps.toList.zip (encs x)) ρ) ∧ w' = W)]) (F [] n (setAll (ps.toList.zip (encs x)) ρ)) W := ha
      have eF : ({ tmps := (F [] n (setAll (ps.toList.zip (encs x)) ρ)).tmps, defers := [] } : Act) = F [] n (setAll (ps.toList.zip (encs x)) ρ) := rfl
      show assign.wpIn (fen (some (w.heap.size + 1))) 0 P _ { tmps := (ps.zip (encs x).toArray).foldl (fun (tmps : Array Value) (x : Tmp × Value) => tmps.setIfInBounds x.1 x.2) (F [] n ρ).tmps, defers := [] } W
      rw [ez, eF]
      refine wpIn_mono ha ?_
      intro e a' w' h'
      cases e with
      | normal =>
        obtain ⟨ρ', ds', rfl, hds, rfl, rfl⟩ := h'
        subst hds
        refine ⟨_, run_beginRound hl (by rw [hrec]), ?_⟩
        have hlt : w.heap.size + 1 < w'.heap.size := by omega
        have hl2 : (w'.putObj (w.heap.size + 1) (.loop { rec .ready none with state := .busy })).heap[w.heap.size + 1]? = some (.loop { rec .ready none with state := .busy }) := World.putObj_heap_same hlt
        have hk2 : (w'.putObj (w.heap.size + 1) (.loop { rec .ready none with state := .busy })).heap[w.heap.size]? = some (.deferred (some [])) := (World.putObj_heap_other (by omega)).trans hk
        have q2 := Chg.putObj w' (w.heap.size + 1) (.loop { rec .ready none with state := .busy })
        have hsz2 : w.heap.size + 2 ≤ (w'.putObj (w.heap.size + 1) (.loop { rec .ready none with state := .busy })).heap.size := by rw [World.putObj_size]; exact hsz
        generalize w'.putObj (w.heap.size + 1) (.loop { rec .ready none with state := .busy }) = W2 at hl2 hk2 q2 hsz2
        have hb := hbody (w.heap.size + 1) pre x W2 (hIl _ _ _ hi ⟨_, hl⟩ q2) (hH pre x _ _ _ hx ⟨_, hl⟩ q2) hsz2 ⟨_, hl2⟩ hk2
        have hb : body.wpIn (fen (some (w.heap.size + 1))) 0 P (Lq P n (fun _ _ => False) (some (w.heap.size + 1)) [.lp [] (fun _ w3 => I (pre ++ [x]) w3 ∧ Chg (fun k => k ≠ w.heap.size ∧ k ≠ w.heap.size + 1 ∧ ¬ Z k) W2 w3)]) (F [] n (setAll (as x) (setAll (ps.toList.zip (encs x)) ρ))) W2 := hb
        refine wpIn_mono (c := body) hb ?_
        intro e a3 W3 h3
        cases e with
        | normal =>
          obtain ⟨_, _, _, _, hi3, q3⟩ := h3
          have hl3 : W3.heap[w.heap.size + 1]? = some (.loop { rec .ready none with state := .busy }) := by rw [q3.block _ (by omega) (by omega)]; exact hl2
          have hk3 : W3.heap[w.heap.size]? = some (.deferred (some [])) := by rw [q3.block _ (by omega) (by omega)]; exact hk2
          have hsz3 : w.heap.size + 2 ≤ W3.heap.size := Nat.le_trans hsz2 q3.size
          have hr := run_endRound (P := P) none hl3
          have e1 : ({ { rec .ready none with state := .busy } with state := if (none : Option Code).isNone then .ready else .done, pending := none } : Loop) = rec .ready none := by rw [hrec]; rfl
          rw [e1] at hr
          have q4 := Chg.putObj W3 (w.heap.size + 1) (.loop (rec .ready none))
          refine ⟨_, _, hr, rfl, ⟨hIl _ _ _ hi3 ⟨_, hl3⟩ q4, by rw [World.putObj_size]; exact hsz3, World.putObj_heap_same (by omega), (World.putObj_heap_other (by omega)).trans hk3⟩, ?_⟩
          have hzl : ¬ Z (w.heap.size + 1) := fun h => by have := hZ _ h; omega
          exact ((q2.mono fun k _ h => by rw [h]; exact hzl).trans (q3.mono fun k _ h => h.2.2)).trans (q4.mono fun k _ h => by rw [h]; exact hzl)
        | exit id => obtain ⟨_, _, _, h⟩ := h3; exact h.elim
        | goto l => exact h3.elim
        | ret =>
          obtain ⟨ρ3, _, h3⟩ := h3
          have key : ∀ (ds : List Deferred), ¬ Out (fun _ _ => False) ds ρ3 W3 := by
            intro ds h
            cases ds with
            | nil => exact h
            | cons d ds =>
              cases ds with
              | nil => obtain ⟨_, _, _, h⟩ := h; exact h
              | cons d' ds => exact h
          exact (key _ h3).elim
        | panic c => exact h3
        | outgrown => exact h3
      | exit id => obtain ⟨_, _, _, h⟩ := h'; exact h.elim
      | goto l => exact h'
      | ret =>
        obtain ⟨ρ3, _, h3⟩ := h'
        have key : ∀ (ds : List Deferred), ¬ Out (fun _ _ => False) ds ρ3 w' := by
          intro ds h
          cases ds with
          | nil => exact h
          | cons d ds =>
            cases ds with
            | nil => obtain ⟨_, _, _, h⟩ := h; exact h
            | cons d' ds => exact h
        exact (key _ h3).elim
      | panic c => exact h'
      | outgrown => exact h'
    · -- behind the iterator
      rintro e W2 ⟨v, rfl, xs, hS, hi, hsz, hl, hk⟩
      refine ⟨none, _, by have := run_endLoop (P := P) hl (by rw [hrec]; simp); rw [hrec] at this; exact this, ?_⟩
      have q4 := Chg.putObj W2 (w.heap.size + 1) (.loop { rec .ready none with state := .exhausted })
      rw [hrec] at q4
      exact ⟨ρ, _, rfl, hdone xs _ hS (hIl _ _ _ hi ⟨_, hl⟩ q4) (by rw [World.putObj_size]; exact hsz) ((World.putObj_heap_other (by omega)).trans hk)⟩

theorem Bk.loop {w w' : World} {g l : Nat} {t : TypeId} {cs : List Value} (h : Bk w g t cs) (hl : ∃ r, w.heap[l]? = some (.loop r)) (c : Chg (fun k => k = l) w w') : Bk w' g t cs := by
  refine h.keep c ?_
  rintro rfl
  obtain ⟨r, hr⟩ := hl
  unfold Bk at h
  rw [hr] at h
  cases h
theorem own_cells {w : World} {B : Nat} {e : TypeId} {sz n : Nat} {v : Value} {xs : List Value} (h : w.ownsRow B e sz v n xs) {k : Nat} (hk : v.ownBlock = some k) : ∃ cs t, w.heap[k]? = some (.cells cs t (0, 0)) := by
  rcases h.2 with ⟨rfl, _⟩ | ⟨g, cap, cur, rfl, _, hg, _⟩
  · simp [Value.ownBlock] at hk
  · simp only [Value.ownBlock, Option.some.injEq] at hk
    subst hk
    exact ⟨_, _, hg⟩
theorem own_loop {w w' : World} {l : Nat} {B : Nat} {e : TypeId} {sz n : Nat} {v : Value} {xs : List Value} (h : w.ownsRow B e sz v n xs) (hl : ∃ r, w.heap[l]? = some (.loop r)) (c : Chg (fun k => k = l) w w') : w'.ownsRow B e sz v n xs := by
  refine own_keep h c fun k hk e => ?_
  subst e
  obtain ⟨r, hr⟩ := hl
  obtain ⟨cs, t, hc⟩ := own_cells h hk
  rw [hr] at hc
  cases hc
theorem Sl.loop {w w' : World} {B sz n l : Nat} {A : Option Addr} {xs : List Value} (h : Sl w B sz A n xs) (hl : ∃ r, w.heap[l]? = some (.loop r)) (c : Chg (fun k => k = l) w w') : Sl w' B sz A n xs := by
  refine ⟨h.1, Nat.le_trans h.2.1 c.size, fun hn => ?_⟩
  obtain ⟨b, o, hA, hb, hc⟩ := h.2.2 hn
  obtain ⟨r, hr⟩ := hl
  refine ⟨b, o, hA, hb, fun j v hv => ?_⟩
  have h1 := hc j v hv
  have hne : b ≠ l := by
    rintro rfl
    simp [World.cell?, hr] at h1
  exact (c.cell (a := ⟨b, o + j, none⟩) (by have := h.2.1; show b < _; omega) hne).trans h1
theorem oneCell_cells {v : Value} (h1 : v.oneCell' = true) : v.cells = #[v] := by cases v <;> first | rfl | (simp [Value.oneCell'] at h1)
/-- make([]T, n) of one-cell elements, as a row told by a function -/
theorem mk1 {T : Tab} {l : List Oper} {o : Oper} (hT : tabOk P T = true) (hw : wantB n ρ all o = true) {t : TypeId} {x y : Operand} (ho : o.op = .makeSlice t x y) {e es eb : Nat} (ht : Tab.get T t = some (.slc e es eb)) {i : Int} (hx : ev n ρ x = .int .i64 i) (hy : ev n ρ y = .int .i64 i) (m : Nat) (hi : i = (m : Int))
    {z : Value} (hz : zeroOf P e = some z) (h1 : z.oneCell' = true) (h63 : m ≤ maxLen) (hby : eb * m ≤ 281474976710656)
    (h : ∀ g w', w.heap.size = g → w'.heap.size = g + 1 → Chg No w w' → w'.rowIs g e m (fun _ => z) → At P n R fr all l k (updo ρ o.dst (.slice (some ⟨g, 0, none⟩) m m)) dec w') : At P n R fr all (o :: l) k ρ dec w := by
  obtain ⟨hu, inf, z', hinf, hs, hb, hz', hzs, hes⟩ := tab_slc hT ht
  have : z' = z := by
    unfold zeroOf at hz
    rw [hinf, Option.bind_some, hz'] at hz
    exact Option.some.inj hz
  subst this
  subst hi
  subst hb
  have hc := oneCell_cells h1
  have hes1 : es = 1 := by rw [← hzs, hc]; rfl
  have hm63 : m ≤ 9223372036854775807 := by simp only [maxLen] at h63; omega
  have hb' : (inf.bytes : Int) * (m : Int) ≤ 281474976710656 := by
    have h : ((inf.bytes * m : Nat) : Int) ≤ 281474976710656 := by omega
    rwa [Int.natCast_mul] at h
  have hr := run_make (P := P) w t e inf z' hu hinf hz' .i64 .i64 m m (by omega) (by omega) hb' (by omega)
  simp only [Int.toNat_natCast, hs] at hr
  refine op_val (w' := w.alloc (.cells (madeCells z'.cells (m * es)) e)) hw ?_ (h _ _ rfl (by simp) (Chg.alloc w _) ?_)
  · simp [execOp, ho, hx, hy, hr]
  · refine ⟨_, heap_alloc_new w _, by rw [size_madeCells, hes1, Nat.mul_one], fun j hj => ?_⟩
    rw [hc, hes1]
    simp [madeCells, hj, Nat.mod_one]
/-- a store of an array into a block known whole -/
theorem stArr {T : Tab} {l : List Oper} {o : Oper} (hT : tabOk P T = true) (hw : wantB n ρ all o = true) {t : TypeId} {x y : Operand} (ho : o.op = .store t x y) {len es : Nat} {ea : Bool} (ht : Tab.get T t = some (.arr len es ea)) {g i : Nat}
    (hx : ev n ρ x = .pointer (some ⟨g, i, none⟩)) {vs : List Value} (hy : ev n ρ y = .agg vs.toArray) (hm : Nat.beq (lenL vs) (len * es) = true) (h1 : vs.all (·.oneCell') = true)
    {tg : TypeId} {cs : List Value} (hb : Bk w g tg cs) (hi : Nat.ble (i + len * es) (lenL cs) = true)
    (h : ∀ w', Chg (fun k => k = g) w w' → Bk w' g tg (cs.take i ++ vs ++ cs.drop (i + vs.length)) → w'.heap.size = w.heap.size → At P n R fr all l k (updo ρ o.dst undef) dec w') : At P n R fr all (o :: l) k ρ dec w := by
  have := tab_get hT ht
  simp only [tyOk] at this
  split at this
  · rename_i m e hu
    simp only [Bool.and_eq_true] at this
    obtain ⟨_, h5⟩ := this
    cases hinf : P.info? t with
    | none => rw [hinf] at h5; cases h5
    | some inf =>
      rw [hinf] at h5
      have hsz : inf.size = len * es := by simpa using h5
      have hi := Nat.le_of_ble_eq_true hi
      have hm := Nat.eq_of_beq_eq_true hm
      rw [lenL_eq] at hm hi
      have hst := run_storeCells_at P g i tg vs 0 cs.toArray w hb (by simp; omega) (oneCells h1)
      simp only [Nat.add_zero] at hst
      refine op_skip (w' := w.setRow g (cs.take i ++ vs ++ cs.drop (i + vs.length)).toArray) hw ?_ (h _ (Chg.setRow w g _) (setRow_heap w g _ _ tg _ hb) (by simp))
      have e1 : inf.size = vs.length := by omega
      simp only [execOp, ho, hx, hy, Instr.storeAt, Instr.sureAddr, storeVar, Value.cells, Sem.run_bind, Sem.run_pure, Result.andThen_ok, run_sizeOf hinf, e1, List.size_toArray, ne_eq, not_true_eq_false, if_false]
      have e2 : (cs.toArray.toList.take i ++ vs ++ cs.toArray.toList.drop (i + vs.length)) = (cs.take i ++ vs ++ cs.drop (i + vs.length)) := by simp
      rw [e2] at hst
      rw [hst]
      rfl
  · cases this
/-- an array built of one-cell parts -/
theorem bldA {T : Tab} {l : List Oper} {o : Oper} (hT : tabOk P T = true) (hw : wantB n ρ all o = true) {t : TypeId} {ps : Array (Nat × Operand)} (ho : o.op = .build t ps) {len es : Nat} {ea : Bool} (ht : Tab.get T t = some (.arr len es ea))
    {z : Value} (hz : zeroOf P t = some z) {cs : List Value} (hf : Instr.fill (fun i => some (i * es, es)) z.cells (ps.toList.map fun p => (p.1, ev n ρ p.2)) = some cs.toArray)
    (h : At P n R fr all l k (updo ρ o.dst (.agg cs.toArray)) dec w) : At P n R fr all (o :: l) k ρ dec w := by
  have := tab_get hT ht
  simp only [tyOk] at this
  split at this
  · rename_i m e hu
    simp only [Bool.and_eq_true] at this
    obtain ⟨⟨⟨⟨_, h2⟩, _⟩, _⟩, _⟩ := this
    cases hi : P.info? e with
    | none => rw [hi] at h2; cases h2
    | some inf =>
      rw [hi] at h2
      have hs : inf.size = es := by simpa using h2
      unfold zeroOf at hz
      cases hit : P.info? t with
      | none => rw [hit] at hz; cases hz
      | some it =>
        rw [hit, Option.bind_some] at hz
        refine op_val hw ?_ h
        have e3 : (ps.map fun (p : Nat × Operand) => (p.1, ev n ρ p.2)).toList = ps.toList.map fun p => (p.1, ev n ρ p.2) := by simp
        simp only [execOp, ho, Instr.build, Sem.run_bind, zeroValue, typeInfo, run_program, Result.andThen_ok, hit, Sem.run_pure, hz, run_underlying hu, run_sizeOf hi, hs]
        rw [e3, hf]
        rfl
  · cases this
/-- a call of yield -/
theorem yieldC {l : List Oper} {o : Oper} {fo : Operand} {args : Array Operand} {tys : Array TypeId} {lr : Nat} {K : World → Prop}
    (hw : wantB n ρ all o = true) (ho : o.op = .call { callee := .value fo, args := args, argTypes := tys }) (hf : ev n ρ fo = .func (.yield lr) #[] #[])
    (hc : YieldAt Fence.wide 0 P lr (evs n ρ args.toList).toArray w (fun e w' => e = .returned (.bool true) ∧ K w')) (h : ∀ w', K w' → At P n R fr all l k (updo ρ o.dst (.bool true)) dec w') : At P n R fr all (o :: l) k ρ dec w := by
  obtain ⟨fn, tmps, assign, body, hy, hR⟩ := hc
  refine op_step hw ?_
  rw [Oper.semAt_eq fr.1 _ o (by intro c; rw [ho]; simp)]
  have e : (execOp (F fr.2 n ρ).eval o).run P w = .ok (.round lr fn tmps assign body) w := by
    rw [F_eval]
    have e1 : args.map (ev n ρ) = (evs n ρ args.toList).toArray := by apply Array.ext'; simp [← evs_map]
    simp only [execOp, ho, resolve, hf, Deferred.ofValue, e1, Sem.run_bind, Sem.run_pure, Result.andThen_ok, invoke]
    simpa using hy
  rw [e]
  refine ⟨fen_depth, ?_⟩
  show RoundIn Fence.wide 0 P lr fn tmps assign body w _
  refine RoundIn.mono hR ?_
  rintro e w' ⟨rfl, hv⟩
  exact ⟨_, F_put _ _ _ _, (h w' hv).list⟩
end
end Go.Ev
