/- The contract of Change. -/
import Derived.Test.YtocolpbakaibnaaC10
namespace Go.Proofs.Ytocolpbakaibnaa
open Go.Ev Go.Proofs Go.Cnt
attribute [local irreducible] At AtH

/-- does a watch begin at a slot -/
def newB (i : Nat) : Bool := Nat.beq i 0 || Nat.beq (Nat.land i (i - 1)) 0
/-- the slots at which the watches begin that begin before a slot -/
def wl : Nat → List Nat
  | 0 => []
  | i + 1 => wl i ++ (if newB i then [i] else [])
def nW : Nat → Nat
  | 0 => 0
  | i + 1 => nW i + (if newB i then 1 else 0)
theorem wl_len : ∀ i, (wl i).length = nW i := by
  intro i
  induction i with
  | zero => rfl
  | succ i ih => simp only [wl, nW, List.length_append, ih]; split <;> rfl
theorem nW_mono {i j : Nat} (h : i ≤ j) : nW i ≤ nW j := by
  induction h with
  | refl => exact Nat.le_refl _
  | step _ ih => exact Nat.le_trans ih (by simp only [nW]; omega)
def cntB (lo : Nat) : Nat → Nat
  | 0 => if newB lo then 1 else 0
  | k + 1 => cntB lo k + cntB (lo + 2 ^ k) k
theorem nW_cntB : ∀ (k lo : Nat), nW (lo + 2 ^ k) = nW lo + cntB lo k := by
  intro k
  induction k with
  | zero => intro lo; rfl
  | succ k ih =>
    intro lo
    rw [show lo + 2 ^ (k + 1) = (lo + 2 ^ k) + 2 ^ k by rw [Nat.pow_succ]; omega, ih, ih, cntB]
    omega
theorem cntB_12 : Nat.ble (cntB 0 12) 13 = true := by kernel_rfl
theorem wl_le {i : Nat} (h : i ≤ 4000) : (wl i).length ≤ 13 := by
  rw [wl_len]
  have h1 := nW_cntB 12 0
  have h2 := Nat.le_of_ble_eq_true cntB_12
  have h3 := nW_mono (i := i) (j := 0 + 2 ^ 12) (by omega)
  have h4 : nW 0 = 0 := rfl
  omega
theorem wl_mem {i s : Nat} (h : s ∈ wl i) : s < i := by
  induction i with
  | zero => simp [wl] at h
  | succ i ih =>
    simp only [wl, List.mem_append] at h
    rcases h with h | h
    · have := ih h; omega
    · split at h <;> simp at h; omega
theorem and_lem {i : Nat} (h0 : 1 ≤ i) (h1 : i ≤ 4000) : (bitw .and (i : Int) (w64 ((i : Int) - 1)) == 0) = Nat.beq (Nat.land i (i - 1)) 0 := by
  have e1 : w64 ((i : Int) - 1) = ((i - 1 : Nat) : Int) := (w64_id (by omega) (by omega)).trans (by omega)
  rw [e1]
  unfold bitw
  have e2 : ((BitVec.ofInt 64 (i : Int)) &&& (BitVec.ofInt 64 ((i - 1 : Nat) : Int))).toNat = Nat.land i (i - 1) := by
    rw [BitVec.toNat_and, BitVec.ofInt_natCast, BitVec.ofInt_natCast, BitVec.toNat_ofNat, BitVec.toNat_ofNat, Nat.mod_eq_of_lt (by omega), Nat.mod_eq_of_lt (by omega)]
    rfl
  simp only
  rw [e2]
  have hle : Nat.land i (i - 1) ≤ i := Nat.and_le_left
  rw [w64_id (by omega) (by omega)]
  rw [Bool.eq_iff_iff, beq_iff_eq, Nat.beq_eq]
  omega
/-- the level of a watch -/
def wlv (lv : Int) (j : Nat) : Int := lv * 2 ^ (j + 1)
/-- the slots that watch j has seen, after i slots -/
def seen (xs : List Bool) (m i j : Nat) : List Bool := (xs.take i).drop ((wl m).getD j 0)
/-- has watch j no rate left after slot i -/
def dead (D : Nat) (lv : Int) (xs : List Bool) (i j : Nat) : Bool := (keptL D (wlv lv j) (seen xs (i + 1) (i + 1) j)).isEmpty
/-- the change announced at slot i or one of m later ones: after how many slots, by which watch -/
def chgN (D : Nat) (lv : Int) (xs : List Bool) (i : Nat) : Nat → Option (Nat × Nat)
  | 0 => none
  | m + 1 => match firstN (dead D lv xs i) 0 (wl (i + 1)).length with
    | some j => some (i + 1, j)
    | none => chgN D lv xs (i + 1) m
def ptrs (bg : List (Nat × Nat)) : List Value := bg.map fun p => .pointer (some ⟨p.1, 0, none⟩)
/-- the watches in memory, those below j one slot ahead -/
structure Wat (w : World) (lo : Nat) (D : Nat) (lv : Int) (xs : List Bool) (m i j : Nat) (bg : List (Nat × Nat)) : Prop where
  len : bg.length = (wl m).length
  bets : ∀ (k : Nat) (p : Nat × Nat), bg[k]? = some p → Bets w p.1 p.2 D (wlv lv k) (sts D (wlv lv k) (seen xs m (if k < j then i + 1 else i) k))
  low : ∀ (k : Nat) (p : Nat × Nat), bg[k]? = some p → lo ≤ p.1 ∧ lo ≤ p.2
  dis : ∀ (k k' : Nat) (p p' : Nat × Nat), bg[k]? = some p → bg[k']? = some p' → k ≠ k' → p.1 ≠ p'.1 ∧ p.1 ≠ p'.2 ∧ p.2 ≠ p'.1 ∧ p.2 ≠ p'.2
theorem Wat.keep {M : Nat → Prop} {w w' : World} {lo D m i j : Nat} {lv : Int} {xs : List Bool} {bg : List (Nat × Nat)} (h : Wat w lo D lv xs m i j bg) (c : Chg M w w') (hM : ∀ (k : Nat) (p : Nat × Nat), bg[k]? = some p → ¬ M p.1 ∧ ¬ M p.2) : Wat w' lo D lv xs m i j bg :=
  ⟨h.len, fun k p hp => (h.bets k p hp).keep c (hM k p hp).1 (hM k p hp).2, h.low, h.dis⟩
theorem Wat.next {w : World} {lo D m i : Nat} {lv : Int} {xs : List Bool} {bg : List (Nat × Nat)} (h : Wat w lo D lv xs m i bg.length bg) : Wat w lo D lv xs m (i + 1) 0 bg := by
  refine ⟨h.len, fun k p hp => ?_, h.low, h.dis⟩
  have := h.bets k p hp
  have hk : k < bg.length := (List.getElem?_eq_some_iff.1 hp).1
  rw [if_pos hk] at this
  rw [if_neg (by omega)]
  exact this
theorem Wat.old {w : World} {lo D i : Nat} {lv : Int} {xs : List Bool} {bg : List (Nat × Nat)} (h : Wat w lo D lv xs i i 0 bg) (hn : newB i = false) : Wat w lo D lv xs (i + 1) i 0 bg := by
  have e : wl (i + 1) = wl i := by simp [wl, hn]
  refine ⟨by rw [e]; exact h.len, fun k p hp => ?_, h.low, h.dis⟩
  have := h.bets k p hp
  simp only [seen, e] at this ⊢
  exact this
theorem Wat.add {w : World} {lo D i : Nat} {lv : Int} {xs : List Bool} {bg : List (Nat × Nat)} (h : Wat w lo D lv xs i i 0 bg) (hn : newB i = true) {b g : Nat} (H : Bets w b g D (wlv lv bg.length) (fun _ => BS.new)) (hb : lo ≤ b) (hg : lo ≤ g)
    (hd : ∀ (k : Nat) (p : Nat × Nat), bg[k]? = some p → p.1 ≠ b ∧ p.1 ≠ g ∧ p.2 ≠ b ∧ p.2 ≠ g) : Wat w lo D lv xs (i + 1) i 0 (bg ++ [(b, g)]) := by
  have e : wl (i + 1) = wl i ++ [i] := by simp [wl, hn]
  have hl := h.len
  refine ⟨by rw [e]; simp [hl], fun k p hp => ?_, fun k p hp => ?_, fun k k' p p' hp hp' hne => ?_⟩
  · rw [List.getElem?_append] at hp
    split at hp
    · rename_i hk
      have := h.bets k p hp
      have e2 : seen xs (i + 1) i k = seen xs i i k := by
        simp only [seen, e, List.getD_eq_getElem?_getD]
        rw [List.getElem?_append_left (by omega)]
      simp only [Nat.not_lt_zero, if_false] at this ⊢
      rw [e2]
      exact this
    · rename_i hk
      cases hj : k - bg.length with
      | zero =>
        rw [hj] at hp
        simp only [List.getElem?_cons_zero, Option.some.injEq] at hp
        subst hp
        have hk2 : k = bg.length := by omega
        subst hk2
        refine H.congr fun j _ => ?_
        have e3 : seen xs (i + 1) i bg.length = [] := by
          simp only [seen, e, List.getD_eq_getElem?_getD]
          rw [hl, List.getElem?_append_right (Nat.le_refl _)]
          simp
        simp only [Nat.not_lt_zero, if_false]
        rw [e3]
        rfl
      | succ n => rw [hj] at hp; simp at hp
  · rw [List.getElem?_append] at hp
    split at hp
    · exact h.low k p hp
    · cases hj : k - bg.length with
      | zero =>
        rw [hj] at hp
        simp only [List.getElem?_cons_zero, Option.some.injEq] at hp
        subst hp
        exact ⟨hb, hg⟩
      | succ n => rw [hj] at hp; simp at hp
  · rw [List.getElem?_append] at hp hp'
    split at hp
    · split at hp'
      · exact h.dis k k' p p' hp hp' hne
      · cases hj : k' - bg.length with
        | zero =>
          rw [hj] at hp'
          simp only [List.getElem?_cons_zero, Option.some.injEq] at hp'
          subst hp'
          exact hd k p hp
        | succ n => rw [hj] at hp'; simp at hp'
    · cases hj : k - bg.length with
      | zero =>
        rw [hj] at hp
        simp only [List.getElem?_cons_zero, Option.some.injEq] at hp
        subst hp
        split at hp'
        · obtain ⟨d1, d2, d3, d4⟩ := hd k' p' hp'
          exact ⟨d1.symm, d3.symm, d2.symm, d4.symm⟩
        · cases hj' : k' - bg.length with
          | zero => omega
          | succ n => rw [hj'] at hp'; simp at hp'
      | succ n => rw [hj] at hp; simp at hp
theorem seen_snoc {xs : List Bool} {m i j : Nat} (hi : i < xs.length) (hm : m ≤ i + 1) (hj : j < (wl m).length) : seen xs m (i + 1) j = seen xs m i j ++ [xs[i]] := by
  unfold seen
  have hs : (wl m).getD j 0 ≤ i := by
    have := wl_mem (List.getElem_mem hj)
    rw [List.getD_eq_getElem?_getD, List.getElem?_eq_getElem hj]
    simp only [Option.getD_some]
    omega
  rw [List.take_succ_eq_append_getElem hi, List.drop_append_of_le_length (by rw [List.length_take]; omega)]
theorem Wat.stepped {w w' : World} {lo D m i j : Nat} {lv : Int} {xs : List Bool} {bg : List (Nat × Nat)} {p : Nat × Nat} (h : Wat w lo D lv xs m i j bg) (hp : bg[j]? = some p) (c : Chg (fun x => x = p.1 ∨ x = p.2) w w') (hi : i < xs.length) (hm : m ≤ i + 1)
    (H : Bets w' p.1 p.2 D (wlv lv j) (fun k => bstep D (wlv lv j) k (sts D (wlv lv j) (seen xs m i j) k) xs[i])) : Wat w' lo D lv xs m i (j + 1) bg := by
  have hjl : j < (wl m).length := by rw [← h.len]; exact (List.getElem?_eq_some_iff.1 hp).1
  refine ⟨h.len, fun k q hq => ?_, h.low, h.dis⟩
  by_cases e : k = j
  · subst e
    rw [hp] at hq
    cases hq
    refine H.congr fun x _ => ?_
    rw [if_pos (by omega), seen_snoc hi hm hjl]
    simp only [sts, bst, brun, List.foldl_append]
    rfl
  · obtain ⟨d1, d2, d3, d4⟩ := h.dis k j q p hq hp e
    have := (h.bets k q hq).keep c (by rintro (h | h) <;> contradiction) (by rintro (h | h) <;> contradiction)
    have e2 : (if k < j + 1 then i + 1 else i) = (if k < j then i + 1 else i) := by
      by_cases h : k < j
      · rw [if_pos h, if_pos (by omega)]
      · rw [if_neg h, if_neg (by omega)]
    rw [e2]
    exact this
end Go.Proofs.Ytocolpbakaibnaa
