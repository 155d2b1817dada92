/- A step calculus over the kit's 'wp': a range over a function whose iterator turns blocks of its own. No statement about the program is in it. -/
import Derived.RangeFuncIn
import Derived.RangeFuncSeq
import Derived.Test.YtolhfimknimliaaEx
namespace Go.Ev.Y
open Go.Ev
open Go.RowKit
/-- a set of blocks, and those that are new -/
def Cl (O : Nat → Prop) (A B : World) (k : Nat) : Prop := O k ∨ (A.heap.size ≤ k ∧ k < B.heap.size)
section
variable {P : Program}
/-- what an iterator owes: encs: the values that it hands on; H: what is known of them in memory; Z: the blocks that the loop's body must leave; S: what has come at its end; the iterator has blocks of its own, which it may turn and the body must leave -/
def Seq {α : Type} (P : Program) (gf : Nat) (lb : List Value) (encs : α → List Value) (H : α → World → Prop) (Z : Nat → Prop) (S : List α → Prop) (w0 : World) : Prop :=
  ∀ (l : Nat) (J : List α → (Nat → Prop) → World → Prop) (W : World), Chg No w0 W →
    (∀ s O A B, J s O A → Chg O A B → J s (Cl O A B) B) →
    (∀ pre O x W1, J pre O W1 → H x W1 → W.heap.size ≤ W1.heap.size →
      YieldAt Fence.wide 0 P l (encs x).toArray W1 fun e W' => e = .returned (.bool true) ∧ J (pre ++ [x]) O W' ∧ Chg (fun k => ¬ Z k ∧ ¬ O k) W1 W') →
    J [] (fun _ => False) W → Ret P gf (.func (.yield l) #[] #[] :: lb) W fun _ W' => ∃ xs O, S xs ∧ J xs O W'
variable {n : Nat} {R : Env → World → Prop} {fr : Fra} {all : Array Oper} {k : List It} {ρ : Env} {dec : List Nat} {w : World}
theorem rangeFunc {α : Type} {g : Operand} {ps : Array Tmp} {assign body : Code} {gf : Nat} {lb : List Value} {encs : α → List Value} {H : α → World → Prop} {Z : Nat → Prop} {S : List α → Prop}
    (hfr : fr = (none, [])) (hg : ev n ρ g = .func (.func gf) #[] lb.toArray) (hok : callable P gf = true) (hseq : Seq P gf lb encs H Z S w) (hZ : ∀ k, Z k → k < w.heap.size) (hps : ∀ x, (encs x).length = ps.size)
    (hH : ∀ x A B l, H x A → (∃ r, A.heap[l]? = some (.loop r)) → Chg (fun k => k = l) A B → H x B)
    (I : List α → (Nat → Prop) → World → Prop) (hN : ∀ s O A B, I s O A → Chg No A B → I s O B) (hI : ∀ s O A B, I s O A → Chg O A B → I s (Cl O A B) B) (hIl : ∀ s O A B, I s O A → (∃ r, A.heap[w.heap.size + 1]? = some (.loop r)) → Chg (fun k => k = w.heap.size + 1) A B → I s O B) (h0 : I [] (fun _ => False) w) (as : α → List (Nat × Value))
    (hassign : ∀ l x W, At P n (fun _ _ => False) (some l, []) #[] [] [.code assign, .lp [] (fun ρ' w' => ρ' = setAll (as x) (setAll (ps.toList.zip (encs x)) ρ) ∧ w' = W)] (setAll (ps.toList.zip (encs x)) ρ) [] W)
    (hbody : ∀ l pre O x W, I pre O W → (∀ k, O k → w.heap.size + 2 ≤ k) → H x W → w.heap.size + 2 ≤ W.heap.size → (∃ r, W.heap[w.heap.size + 1]? = some (.loop r)) → W.heap[w.heap.size]? = some (.deferred (some [])) →
      At P n (fun _ _ => False) (some l, []) #[] [] [.code body, .lp [] (fun _ w' => I (pre ++ [x]) O w' ∧ Chg (fun k => k ≠ w.heap.size ∧ k ≠ w.heap.size + 1 ∧ ¬ Z k ∧ ¬ O k) W w')] (setAll (as x) (setAll (ps.toList.zip (encs x)) ρ)) [] W)
    (hdone : ∀ xs O W, S xs → I xs O W → w.heap.size + 2 ≤ W.heap.size → W.heap[w.heap.size]? = some (.deferred (some [])) →
      At P n R (none, [{ target := .collected w.heap.size, args := #[] }]) #[] [] k ρ [] W) :
    At P n R fr all [] (.code (.rangeFunc g ps assign body) :: k) ρ dec w := by
  subst hfr
  show (Code.rangeFunc g ps assign body).wpIn Fence.wide 0 P (Lq P n R none k) (F [] n ρ) w
  refine wpIn_rangeFunc ?_
  intro fn _
  have hround : Fence.wide.round = none := rfl
  rw [hround]
  obtain ⟨rec, hrec⟩ : ∃ rec : LoopState → Option Code → Loop, rec = fun st pe => { state := st, pending := pe, fn, tmps := (F [] n ρ).tmps, params := ps, assign, body, defers := w.heap.size } := ⟨_, rfl⟩
  obtain ⟨W1, hW1⟩ : ∃ W1, (w.alloc (.deferred (some []))).alloc (.loop (rec .ready none)) = W1 := ⟨_, rfl⟩
  have hL1 : W1.heap[w.heap.size + 1]? = some (.loop (rec .ready none)) := by
    rw [← hW1]; have := World.alloc_heap_new (w.alloc (.deferred (some []))) (.loop (rec .ready none)); rwa [World.size_alloc] at this
  have hK1 : W1.heap[w.heap.size]? = some (.deferred (some [])) := by
    rw [← hW1]; exact (Below.heap_alloc _ _ _ (by simp)).trans (World.alloc_heap_new w _)
  have hs1 : W1.heap.size = w.heap.size + 2 := by rw [← hW1]; simp
  have q1 : Chg No w W1 := by rw [← hW1]; exact (Chg.alloc w _).trans (Chg.alloc _ _)
  refine ⟨w.heap.size + 1, [{ target := .collected w.heap.size, args := #[] }], W1, { target := .fn (.func gf) lb.toArray, args := #[.func (.yield (w.heap.size + 1)) #[] #[]] }, W1, gf,
    (.func (.yield (w.heap.size + 1)) #[] #[] :: lb).toArray, W1, ?_, ?_, ?_, ?_, ?_, ?_⟩
  · rw [← hW1, hrec]; exact run_enterLoop_outer _ _ _ _ _
  · simp only [resolve]
    rw [F_eval]
    simp only [hg, Deferred.ofValue]
    simp [ev]
  · intro f' _; trivial
  · have e : #[Value.func (.yield (w.heap.size + 1)) #[] #[]] ++ lb.toArray = (Value.func (.yield (w.heap.size + 1)) #[] #[] :: lb).toArray := by apply Array.ext'; simp
    simp only [invoke]
    rw [e]
    exact run_call hok
  · intro h; cases h
  · refine callsIn_wide.2 (Calls.mono (hseq (w.heap.size + 1)
      (fun pre O W => I pre O W ∧ (∀ k, O k → w.heap.size + 2 ≤ k) ∧ w.heap.size + 2 ≤ W.heap.size ∧ W.heap[w.heap.size + 1]? = some (.loop (rec .ready none)) ∧ W.heap[w.heap.size]? = some (.deferred (some [])))
      W1 q1 ?_ ?_ ⟨hN _ _ _ _ h0 q1, fun _ h => h.elim, by omega, hL1, hK1⟩) ?_)
    · intro s O A B ⟨h1, hO, h2, h3, h4⟩ q
      refine ⟨hI s O A B h1 q, fun k hk => ?_, Nat.le_trans h2 q.size, ?_, ?_⟩
      · rcases hk with hk | hk
        · exact hO k hk
        · omega
      · rw [q.block _ (by omega) (fun h => by have := hO _ h; omega)]; exact h3
      · rw [q.block _ (by omega) (fun h => by have := hO _ h; omega)]; exact h4
    · -- a round
      rintro pre O x W ⟨hi, hO, hsz, hl, hk⟩ hx _
      have hy := run_yield (P := P) (args := (encs x).toArray) hl (by rw [hrec]; simp [hps x])
      rw [hrec] at hy
      refine ⟨fn, _, assign, body, hy, roundIn_of_wpIn trivial ?_⟩
      have ez : (ps.zip (encs x).toArray).foldl (fun (tmps : Array Value) (x : Tmp × Value) => tmps.setIfInBounds x.1 x.2) (F [] n ρ).tmps = (F [] n (setAll (ps.toList.zip (encs x)) ρ)).tmps := by
        rw [← F_setAll, ← Array.foldl_toList]
        simp
      have ha := hassign (w.heap.size + 1) x W
      have ha : assign.wpIn (fen (some (w.heap.size + 1))) 0 P (Lq P n (fun _ _ => False) (some (w.heap.size + 1)) [.lp [] (fun ρ' w' => ρ' = setAll (as x) (setAll (ps.toList.zip (encs x)) ρ) ∧ w' = W)]) (F [] n (setAll (ps.toList.zip (encs x)) ρ)) W := ha
      have eF : ({ tmps := (F [] n (setAll (ps.toList.zip (encs x)) ρ)).tmps, defers := [] } : Act) = F [] n (setAll (ps.toList.zip (encs x)) ρ) := rfl
      show assign.wpIn (fen (some (w.heap.size + 1))) 0 P _ { tmps := (ps.zip (encs x).toArray).foldl (fun (tmps : Array Value) (x : Tmp × Value) => tmps.setIfInBounds x.1 x.2) (F [] n ρ).tmps, defers := [] } W
      rw [ez, eF]
      refine wpIn_mono ha ?_
      intro e a' w' h'
      cases e with
      | normal =>
        obtain ⟨ρ', ds', rfl, hds, rfl, rfl⟩ := h'
        subst hds
        refine ⟨_, run_beginRound hl (by rw [hrec]), ?_⟩
        have hlt : w.heap.size + 1 < w'.heap.size := by omega
        have hl2 : (w'.putObj (w.heap.size + 1) (.loop { rec .ready none with state := .busy })).heap[w.heap.size + 1]? = some (.loop { rec .ready none with state := .busy }) := World.putObj_heap_same hlt
        have hk2 : (w'.putObj (w.heap.size + 1) (.loop { rec .ready none with state := .busy })).heap[w.heap.size]? = some (.deferred (some [])) := (World.putObj_heap_other (by omega)).trans hk
        have q2 := Chg.putObj w' (w.heap.size + 1) (.loop { rec .ready none with state := .busy })
        have hsz2 : w.heap.size + 2 ≤ (w'.putObj (w.heap.size + 1) (.loop { rec .ready none with state := .busy })).heap.size := by rw [World.putObj_size]; exact hsz
        generalize w'.putObj (w.heap.size + 1) (.loop { rec .ready none with state := .busy }) = W2 at hl2 hk2 q2 hsz2
        have hb := hbody (w.heap.size + 1) pre O x W2 (hIl _ _ _ _ hi ⟨_, hl⟩ q2) hO (hH x _ _ _ hx ⟨_, hl⟩ q2) hsz2 ⟨_, hl2⟩ hk2
        have hb : body.wpIn (fen (some (w.heap.size + 1))) 0 P (Lq P n (fun _ _ => False) (some (w.heap.size + 1)) [.lp [] (fun _ w3 => I (pre ++ [x]) O w3 ∧ Chg (fun k => k ≠ w.heap.size ∧ k ≠ w.heap.size + 1 ∧ ¬ Z k ∧ ¬ O k) W2 w3)]) (F [] n (setAll (as x) (setAll (ps.toList.zip (encs x)) ρ))) W2 := hb
        refine wpIn_mono (c := body) hb ?_
        intro e a3 W3 h3
        cases e with
        | normal =>
          obtain ⟨_, _, _, _, hi3, q3⟩ := h3
          have hl3 : W3.heap[w.heap.size + 1]? = some (.loop { rec .ready none with state := .busy }) := by rw [q3.block _ (by omega) (by omega)]; exact hl2
          have hk3 : W3.heap[w.heap.size]? = some (.deferred (some [])) := by rw [q3.block _ (by omega) (by omega)]; exact hk2
          have hsz3 : w.heap.size + 2 ≤ W3.heap.size := Nat.le_trans hsz2 q3.size
          have hr := run_endRound (P := P) none hl3
          have e1 : ({ { rec .ready none with state := .busy } with state := if (none : Option Code).isNone then .ready else .done, pending := none } : Loop) = rec .ready none := by rw [hrec]; rfl
          rw [e1] at hr
          have q4 := Chg.putObj W3 (w.heap.size + 1) (.loop (rec .ready none))
          refine ⟨_, _, hr, rfl, ⟨hIl _ _ _ _ hi3 ⟨_, hl3⟩ q4, hO, by rw [World.putObj_size]; exact hsz3, World.putObj_heap_same (by omega), (World.putObj_heap_other (by omega)).trans hk3⟩, ?_⟩
          have hzl : ¬ Z (w.heap.size + 1) ∧ ¬ O (w.heap.size + 1) := ⟨fun h => by have := hZ _ h; omega, fun h => by have := hO _ h; omega⟩
          exact ((q2.mono fun k _ h => by rw [h]; exact hzl).trans (q3.mono fun k _ h => h.2.2)).trans (q4.mono fun k _ h => by rw [h]; exact hzl)
        | exit id => obtain ⟨_, _, _, h⟩ := h3; exact h.elim
        | goto l => exact h3.elim
        | ret =>
          obtain ⟨ρ3, _, h3⟩ := h3
          have key : ∀ (ds : List Deferred), ¬ Out (fun _ _ => False) ds ρ3 W3 := by
            intro ds h
            cases ds with
            | nil => exact h
            | cons d ds =>
              cases ds with
              | nil => obtain ⟨_, _, _, h⟩ := h; exact h
              | cons d' ds => exact h
          exact (key _ h3).elim
        | panic c => exact h3
        | outgrown => exact h3
      | exit id => obtain ⟨_, _, _, h⟩ := h'; exact h.elim
      | goto l => exact h'
      | ret =>
        obtain ⟨ρ3, _, h3⟩ := h'
        have key : ∀ (ds : List Deferred), ¬ Out (fun _ _ => False) ds ρ3 w' := by
          intro ds h
          cases ds with
          | nil => exact h
          | cons d ds =>
            cases ds with
            | nil => obtain ⟨_, _, _, h⟩ := h; exact h
            | cons d' ds => exact h
        exact (key _ h3).elim
      | panic c => exact h'
      | outgrown => exact h'
    · -- behind the iterator
      rintro e W2 ⟨v, rfl, xs, O, hS, hi, hO, hsz, hl, hk⟩
      refine ⟨none, _, by have := run_endLoop (P := P) hl (by rw [hrec]; simp); rw [hrec] at this; exact this, ?_⟩
      have q4 := Chg.putObj W2 (w.heap.size + 1) (.loop { rec .ready none with state := .exhausted })
      rw [hrec] at q4
      exact ⟨ρ, _, rfl, hdone xs O _ hS (hIl _ _ _ _ hi ⟨_, hl⟩ q4) (by rw [World.putObj_size]; exact hsz) ((World.putObj_heap_other (by omega)).trans hk)⟩

end
end Go.Ev.Y
