/- A step calculus over the kit's 'wp': arrays stored in drawn regions, arrays as results. No statement about the program is in it. -/
import Derived.Test.YteenhfnamjbaiaaEP
namespace Go.Ev
open Go.RowKit
section
variable {P : Program} {T : Tab} {n : Nat} {R : Env → World → Prop} {fr : Fra} {S : World → Prop} {all : Array Oper} {l : List (Oper × Bool)} {k : List It} {ρ : Env} {dec : List Nat} {w : World} {o : Oper}
theorem r_stArr (hT : tabOk P T = true) {t : TypeId} {x y : Operand} (ho : o.op = .store t x y) {len es : Nat} {ea : Bool} (ht : Tab.get T t = some (.arr len es ea)) {g i : Nat}
    (hx : ev n ρ x = .pointer (some ⟨g, i, none⟩)) {vs : List Value} (hy : ev n ρ y = .agg vs.toArray) (hm : Nat.beq (lenL vs) (len * es) = true) (h1 : vs.all (·.oneCell') = true)
    {tg : TypeId} {cs : List Value} (hb : Bk w g tg cs) (hi : Nat.ble (i + len * es) (lenL cs) = true) :
    ∃ w', (execOp (ev n ρ) o).run P w = .ok .skip w' ∧ Chg (fun k => k = g) w w' ∧ Bk w' g tg (cs.take i ++ vs ++ cs.drop (i + vs.length)) ∧ w'.heap.size = w.heap.size := by
  have := tab_get hT ht
  simp only [tyOk] at this
  split at this
  · rename_i m e hu
    simp only [Bool.and_eq_true] at this
    obtain ⟨_, h5⟩ := this
    cases hinf : P.info? t with
    | none => rw [hinf] at h5; cases h5
    | some inf =>
      rw [hinf] at h5
      have hsz : inf.size = len * es := by simpa using h5
      have hi := Nat.le_of_ble_eq_true hi
      have hm := Nat.eq_of_beq_eq_true hm
      rw [lenL_eq] at hm hi
      have hst := run_storeCells_at P g i tg vs 0 cs.toArray w hb (by simp; omega) (oneCells h1)
      simp only [Nat.add_zero] at hst
      refine ⟨w.setRow g (cs.take i ++ vs ++ cs.drop (i + vs.length)).toArray, ?_, Chg.setRow w g _, setRow_heap w g _ _ tg _ hb, by simp⟩
      have e1 : inf.size = vs.length := by omega
      simp only [execOp, ho, hx, hy, Instr.storeAt, Instr.sureAddr, storeVar, Value.cells, Sem.run_bind, Sem.run_pure, Result.andThen_ok, run_sizeOf hinf, e1, List.size_toArray, ne_eq, not_true_eq_false, if_false]
      have e2 : (cs.toArray.toList.take i ++ vs ++ cs.toArray.toList.drop (i + vs.length)) = (cs.take i ++ vs ++ cs.drop (i + vs.length)) := by simp
      rw [e2] at hst
      rw [hst]
      rfl
  · cases this
/-- an array stored, in a drawn region -/
theorem stArrE (hT : tabOk P T = true) (hw : wantB n ρ all o = true) {t : TypeId} {x y : Operand} (ho : o.op = .store t x y) {len es : Nat} {ea : Bool} (ht : Tab.get T t = some (.arr len es ea)) {g i : Nat}
    (hx : ev n ρ x = .pointer (some ⟨g, i, none⟩)) {vs : List Value} (hy : ev n ρ y = .agg vs.toArray) (hm : Nat.beq (lenL vs) (len * es) = true) (h1 : vs.all (·.oneCell') = true)
    {tg : TypeId} {cs : List Value} (hb : Bk w g tg cs) (hi : Nat.ble (i + len * es) (lenL cs) = true)
    (h : ∀ w', Chg (fun k => k = g) w w' → Bk w' g tg (cs.take i ++ vs ++ cs.drop (i + vs.length)) → w'.heap.size = w.heap.size → S w' ∧ AtH P n R fr S all l k (updo ρ o.dst undef) dec w') : AtH P n R fr S all ((o, false) :: l) k ρ dec w := by
  obtain ⟨w', h1, h2, h3, h4⟩ := r_stArr hT ho ht hx hy hm h1 hb hi
  obtain ⟨a, b⟩ := h w' h2 h3 h4
  exact skipE hw h1 a b
theorem resArr (hT : tabOk P T = true) {t : Nat} {ty : TypeId} {b off : Nat} {len es : Nat} {ea : Bool} (ht : Tab.get T ty = some (.arr len es ea)) (hx : ev n ρ (.tmp t) = .pointer (some ⟨b, off, none⟩)) {cs : List Value}
    (hm : Nat.beq (lenL cs) (len * es) = true) (hc : cellsAt w b off cs) : ResV P n ρ w (.cell t ty) (.agg cs.toArray) := by
  obtain ⟨e, hu, _, _, _, inf, hi, hs⟩ := tab_arr hT ht
  have hm := Nat.eq_of_beq_eq_true hm
  rw [lenL_eq] at hm
  have e1 : (loadCells ⟨b, off, none⟩ cs.length).run P w = .ok cs.toArray w := run_loadCells_list w _ cs fun j v hv => by rw [Addr.add_mid]; exact hc j v hv
  have hag : aggB P ty = true := by simp [aggB, hu]
  exact ⟨_, hx, by simp [loadVar, run_isAgg _ _ hu, hag, run_sizeOf hi, hs, ← hm, e1]⟩
end
end Go.Ev
