/- Plain specification and laws of rates behind rock (layer 5). No walk in it. -/
namespace Go.Top
/-- a row of a table: a key, and a span -/
structure Rw where
  k : Int
  lo : Int
  hi : Int
deriving DecidableEq
def SpOk (s : Int × Int) (l h : Int) : Prop := l ≤ s.1 ∧ s.1 ≤ s.2 ∧ s.2 ≤ h
/-- neighbours in a table: keys rise, spans go up (or down) -/
def Nb (up : Bool) (a b : Rw) : Prop := a.k < b.k ∧ (if up then a.lo ≤ b.lo ∧ a.hi ≤ b.hi else b.lo ≤ a.lo ∧ b.hi ≤ a.hi)
instance (up : Bool) (a b : Rw) : Decidable (Nb up a b) := by unfold Nb; infer_instance
def Mono (f u m : Int) (up : Bool) (l : List Rw) : Prop := (∀ r ∈ l, (f ≤ r.k ∧ r.k ≤ u) ∧ 0 ≤ r.lo ∧ r.lo ≤ r.hi ∧ r.hi ≤ m) ∧ (∀ i, ∀ a ∈ l[i]?, ∀ b ∈ l[i + 1]?, Nb up a b) ∧ 1 ≤ l.length ∧ l.length ≤ 40
theorem Nb.trans {up : Bool} {a b c : Rw} (h : Nb up a b) (h' : Nb up b c) : Nb up a c := by
  unfold Nb at *
  cases up <;> simp at * <;> omega
theorem mono_lt {f u m : Int} {up : Bool} {l : List Rw} (h : Mono f u m up l) : ∀ (d i : Nat) (a b : Rw), l[i]? = some a → l[i + (d + 1)]? = some b → Nb up a b := by
  intro d
  induction d with
  | zero => exact fun i a b ha hb => h.2.1 i a ha b hb
  | succ d ih =>
    intro i a b ha hb
    obtain ⟨hi, _⟩ := List.getElem?_eq_some_iff.1 hb
    have hc : l[i + (d + 1)]? = some l[i + (d + 1)] := List.getElem?_eq_getElem (by omega)
    exact (ih i a _ ha hc).trans (h.2.1 (i + (d + 1)) _ hc b hb)
theorem mono_nb {f u m : Int} {up : Bool} {l : List Rw} (h : Mono f u m up l) {i j : Nat} {a b : Rw} (ha : l[i]? = some a) (hb : l[j]? = some b) (hij : i < j) : Nb up a b := by
  obtain ⟨d, rfl⟩ : ∃ d, j = i + (d + 1) := ⟨j - i - 1, by omega⟩
  exact mono_lt h d i a b ha hb
/-- the first row of which something is true -/
def fst (p : Rw → Bool) (l : List Rw) : Nat := l.findIdx p
/-- the thresholds of an opacity; -1: no energy is enough -/
def thr (t : List Rw) (o : Int) : Int × Int :=
  if o = 0 then (1, 1) else
  ((if fst (fun r => decide (o ≤ r.hi)) t = 0 then 1 else ((t[fst (fun r => decide (o ≤ r.hi)) t - 1]?).map (·.k + 1)).getD 1),
   ((t[fst (fun r => decide (o ≤ r.lo)) t]?).map (·.k)).getD (-1))
/-- the rates above thresholds -/
def abv (l : List Rw) (t : Int × Int) : Int × Int :=
  ((if t.2 = -1 then 0 else ((l[fst (fun r => decide (t.2 ≤ r.k)) l]?).map (·.lo)).getD 0),
   (if fst (fun r => decide (t.1 < r.k)) l = 0 then ((l[0]?).map (·.hi)).getD 0 else ((l[fst (fun r => decide (t.1 < r.k)) l - 1]?).map (·.hi)).getD 0))
def expd (l t : List Rw) (o : Int) : Int × Int := abv l (thr t o)
theorem fst_le (p : Rw → Bool) (l : List Rw) : fst p l ≤ l.length := List.findIdx_le_length
theorem fst_no {p : Rw → Bool} {l : List Rw} {j : Nat} {r : Rw} (h : j < fst p l) (hr : l[j]? = some r) : p r = false := by
  obtain ⟨hj, rfl⟩ := List.getElem?_eq_some_iff.1 hr
  have := List.not_of_lt_findIdx h
  simpa using this
theorem fst_yes {p : Rw → Bool} {l : List Rw} {r : Rw} (hr : l[fst p l]? = some r) : p r = true := by
  obtain ⟨hj, rfl⟩ := List.getElem?_eq_some_iff.1 hr
  exact List.findIdx_getElem (w := hj)
theorem fst_mono {p q : Rw → Bool} {l : List Rw} (h : ∀ r ∈ l, p r = true → q r = true) : fst q l ≤ fst p l := by
  rcases Nat.lt_or_ge (fst p l) (fst q l) with hlt | hle
  · have hp : fst p l < l.length := Nat.lt_of_lt_of_le hlt (fst_le q l)
    have e := List.getElem?_eq_getElem hp
    have h1 := fst_yes e
    have h2 := fst_no hlt e
    rw [h _ (List.mem_of_getElem? e) h1] at h2
    cases h2
  · exact hle
/-- thresholds that are not greater -/
def Le2 (a b : Int × Int) : Prop := a.1 ≤ b.1 ∧ (b.2 = -1 ∨ (a.2 ≠ -1 ∧ a.2 ≤ b.2))
theorem nb_k {up : Bool} {a b : Rw} (h : Nb up a b) : a.k < b.k := h.1
theorem mono_k {f u m : Int} {up : Bool} {l : List Rw} (h : Mono f u m up l) {i j : Nat} {a b : Rw} (ha : l[i]? = some a) (hb : l[j]? = some b) (hij : i ≤ j) : a.k ≤ b.k := by
  rcases Nat.lt_or_ge i j with h1 | h1
  · exact Int.le_of_lt (mono_nb h ha hb h1).1
  · obtain rfl : i = j := by omega
    rw [ha] at hb; cases hb; exact Int.le_refl _
theorem down_sp {f u m : Int} {l : List Rw} (h : Mono f u m false l) {i j : Nat} {a b : Rw} (ha : l[i]? = some a) (hb : l[j]? = some b) (hij : i ≤ j) : b.lo ≤ a.lo ∧ b.hi ≤ a.hi := by
  rcases Nat.lt_or_ge i j with h1 | h1
  · exact (mono_nb h ha hb h1).2
  · obtain rfl : i = j := by omega
    rw [ha] at hb; cases hb; exact ⟨Int.le_refl _, Int.le_refl _⟩
theorem up_sp {f u m : Int} {l : List Rw} (h : Mono f u m true l) {i j : Nat} {a b : Rw} (ha : l[i]? = some a) (hb : l[j]? = some b) (hij : i ≤ j) : a.lo ≤ b.lo ∧ a.hi ≤ b.hi := by
  rcases Nat.lt_or_ge i j with h1 | h1
  · exact (mono_nb h ha hb h1).2
  · obtain rfl : i = j := by omega
    rw [ha] at hb; cases hb; exact ⟨Int.le_refl _, Int.le_refl _⟩
theorem get_of {l : List Rw} {i : Nat} (h : i < l.length) : ∃ r, l[i]? = some r := ⟨_, List.getElem?_eq_getElem h⟩
/-- what the thresholds of an opacity are -/
theorem thr_spec {m : Int} {t : List Rw} (h : Mono 1 1000000 m true t) {o : Int} (_ho : 0 ≤ o) : 1 ≤ (thr t o).1 ∧ (thr t o).1 ≤ 1000001 ∧ ((thr t o).2 = -1 ∨ ((thr t o).1 ≤ (thr t o).2 ∧ (thr t o).2 ≤ 1000000)) := by
  unfold thr
  by_cases h0 : o = 0
  · rw [if_pos h0]; exact ⟨by decide, by decide, .inr ⟨by decide, by decide⟩⟩
  · rw [if_neg h0]
    have l1 := fst_le (fun r => decide (o ≤ r.hi)) t
    have l2 := fst_le (fun r => decide (o ≤ r.lo)) t
    have hno : ∀ j r, j < fst (fun r => decide (o ≤ r.hi)) t → t[j]? = some r → r.hi < o := fun j r h hr => by have := fst_no h hr; simp at this; exact this
    have hyes : ∀ r, t[fst (fun r => decide (o ≤ r.lo)) t]? = some r → o ≤ r.lo := fun r hr => by have := fst_yes hr; simpa using this
    generalize fst (fun r => decide (o ≤ r.hi)) t = i at *
    generalize fst (fun r => decide (o ≤ r.lo)) t = j at *
    show 1 ≤ (if i = 0 then 1 else _) ∧ (if i = 0 then 1 else _) ≤ _ ∧ _
    have hj : t[j]? = none ∨ ∃ r, t[j]? = some r := by cases t[j]? <;> simp
    have e1 : ∀ r, t[j]? = some r → ((t[j]?).map (·.k)).getD (-1) = r.k := fun r hr => by rw [hr]; rfl
    have hk : ∀ (q : Nat) (r : Rw), t[q]? = some r → 1 ≤ r.k ∧ r.k ≤ 1000000 ∧ r.lo ≤ r.hi := fun q r hr => by have := h.1 r (List.mem_of_getElem? hr); omega
    by_cases hi : i = 0
    · rw [if_pos hi]
      refine ⟨by decide, by decide, ?_⟩
      rcases hj with hj | ⟨r, hr⟩
      · rw [hj]; exact .inl rfl
      · rw [e1 r hr]
        have := hk j r hr
        exact .inr ⟨by omega, by omega⟩
    · rw [if_neg hi]
      obtain ⟨a, ha⟩ := get_of (l := t) (i := i - 1) (by omega)
      have ea : ((t[i - 1]?).map (·.k + 1)).getD 1 = a.k + 1 := by rw [ha]; rfl
      rw [ea]
      have k1 := hk _ a ha
      refine ⟨by omega, by omega, ?_⟩
      rcases hj with hj | ⟨r, hr⟩
      · rw [hj]; exact .inl rfl
      · rw [e1 r hr]
        have k2 := hk j r hr
        have a1 := hno (i - 1) a (by omega) ha
        have a2 := hyes r hr
        have : i - 1 < j := by
          rcases Nat.lt_or_ge (i - 1) j with h1 | h1
          · exact h1
          · have := (up_sp h hr ha h1).1
            omega
        have := (mono_nb h ha hr this).1
        exact .inr ⟨by omega, by omega⟩
theorem thr_le {m : Int} {t : List Rw} (h : Mono 1 1000000 m true t) {o o' : Int} (ho : 0 ≤ o') (hle : o' ≤ o) : Le2 (thr t o') (thr t o) := by
  by_cases h0 : o' = 0
  · have := thr_spec h (o := o) (by omega)
    have e : thr t o' = (1, 1) := by unfold thr; rw [if_pos h0]
    rw [e]
    exact ⟨this.1, by rcases this.2.2 with h | h; · exact .inl h
                      · exact .inr ⟨by decide, by show 1 ≤ (thr t o).2; omega⟩⟩
  · unfold thr
    rw [if_neg h0, if_neg (show ¬ o = 0 by omega)]
    have f1 : fst (fun r => decide (o' ≤ r.hi)) t ≤ fst (fun r => decide (o ≤ r.hi)) t := fst_mono fun r _ hr => by simp at hr ⊢; omega
    have f2 : fst (fun r => decide (o' ≤ r.lo)) t ≤ fst (fun r => decide (o ≤ r.lo)) t := fst_mono fun r _ hr => by simp at hr ⊢; omega
    have l1 := fst_le (fun r => decide (o ≤ r.hi)) t
    generalize fst (fun r => decide (o ≤ r.hi)) t = i at *
    generalize fst (fun r => decide (o ≤ r.lo)) t = j at *
    generalize fst (fun r => decide (o' ≤ r.hi)) t = i' at *
    generalize fst (fun r => decide (o' ≤ r.lo)) t = j' at *
    have hk : ∀ (q : Nat) (r : Rw), t[q]? = some r → 1 ≤ r.k := fun q r hr => (h.1 r (List.mem_of_getElem? hr)).1.1
    refine ⟨?_, ?_⟩
    · show (if i' = 0 then 1 else ((t[i' - 1]?).map (·.k + 1)).getD 1) ≤ (if i = 0 then 1 else ((t[i - 1]?).map (·.k + 1)).getD 1)
      by_cases hi : i = 0
      · rw [if_pos hi, if_pos (by omega)]; exact Int.le_refl _
      · rw [if_neg hi]
        obtain ⟨a, ha⟩ := get_of (l := t) (i := i - 1) (by omega)
        have ea : ((t[i - 1]?).map (·.k + 1)).getD 1 = a.k + 1 := by rw [ha]; rfl
        rw [ea]
        have := hk _ a ha
        by_cases hi' : i' = 0
        · rw [if_pos hi']; omega
        · rw [if_neg hi']
          obtain ⟨c, hc⟩ := get_of (l := t) (i := i' - 1) (by omega)
          have ec : ((t[i' - 1]?).map (·.k + 1)).getD 1 = c.k + 1 := by rw [hc]; rfl
          rw [ec]
          have := mono_k h hc ha (by omega)
          omega
    · show ((t[j]?).map (·.k)).getD (-1) = -1 ∨ (((t[j']?).map (·.k)).getD (-1) ≠ -1 ∧ ((t[j']?).map (·.k)).getD (-1) ≤ ((t[j]?).map (·.k)).getD (-1))
      cases hj : t[j]? with
      | none => exact .inl rfl
      | some r =>
        obtain ⟨hjl, _⟩ := List.getElem?_eq_some_iff.1 hj
        obtain ⟨c, hc⟩ := get_of (l := t) (i := j') (by omega)
        have := mono_k h hc hj f2
        have := hk _ c hc
        rw [hc]
        exact .inr ⟨by show c.k ≠ -1; omega, by show c.k ≤ r.k; omega⟩
theorem abv_le {m : Int} {l : List Rw} (h : Mono 1 1000000 m false l) {a b : Int × Int} (hab : Le2 a b) : (abv l b).1 ≤ (abv l a).1 ∧ (abv l b).2 ≤ (abv l a).2 := by
  have h0 : ∀ (q : Nat) (r : Rw), l[q]? = some r → 0 ≤ r.lo ∧ r.lo ≤ r.hi := fun q r hr => by have := h.1 r (List.mem_of_getElem? hr); omega
  unfold abv
  refine ⟨?_, ?_⟩
  · show (if b.2 = -1 then 0 else _) ≤ (if a.2 = -1 then 0 else _)
    have f2 : a.2 ≤ b.2 → fst (fun r => decide (a.2 ≤ r.k)) l ≤ fst (fun r => decide (b.2 ≤ r.k)) l := fun hle => fst_mono fun r _ hr => by simp at hr ⊢; omega
    generalize fst (fun r => decide (a.2 ≤ r.k)) l = i at *
    generalize fst (fun r => decide (b.2 ≤ r.k)) l = j at *
    have nn : ∀ q : Nat, 0 ≤ ((l[q]?).map (fun r : Rw => r.lo)).getD 0 := fun q => by
      cases hq : l[q]? with
      | none => exact Int.le_refl _
      | some r => exact (h0 q r hq).1
    by_cases hb : b.2 = -1
    · rw [if_pos hb]
      split
      · exact Int.le_refl _
      · exact nn _
    · rw [if_neg hb]
      rcases hab.2 with h1 | ⟨h1, h2⟩
      · exact absurd h1 hb
      · rw [if_neg h1]
        have f2 := f2 h2
        cases hj : l[j]? with
        | none => exact nn _
        | some r =>
          obtain ⟨hjl, _⟩ := List.getElem?_eq_some_iff.1 hj
          obtain ⟨c, hc⟩ := get_of (l := l) (i := i) (by omega)
          rw [hc]
          exact (down_sp h hc hj f2).1
  · show (if _ = 0 then _ else _) ≤ (if _ = 0 then _ else _)
    have f1 : fst (fun r => decide (a.1 < r.k)) l ≤ fst (fun r => decide (b.1 < r.k)) l := fst_mono fun r _ hr => by have := hab.1; simp at hr ⊢; omega
    have l1 := fst_le (fun r => decide (b.1 < r.k)) l
    have hl := h.2.2.1
    generalize fst (fun r => decide (a.1 < r.k)) l = i at *
    generalize fst (fun r => decide (b.1 < r.k)) l = j at *
    obtain ⟨z, hz⟩ := get_of (l := l) (i := 0) (by omega)
    by_cases hj : j = 0
    · rw [if_pos hj, if_pos (by omega)]; exact Int.le_refl _
    · rw [if_neg hj]
      obtain ⟨c, hc⟩ := get_of (l := l) (i := j - 1) (by omega)
      rw [hc]
      by_cases hi : i = 0
      · rw [if_pos hi, hz]
        exact (down_sp h hz hc (by omega)).2
      · rw [if_neg hi]
        obtain ⟨d, hd⟩ := get_of (l := l) (i := i - 1) (by omega)
        rw [hd]
        exact (down_sp h hd hc (by omega)).2
theorem abv_ok {m : Int} {l : List Rw} (h : Mono 1 1000000 m false l) (h1 : ∀ r, l[0]? = some r → r.k = 1) {t : Int × Int} (ht : 1 ≤ t.1) (ht' : t.2 = -1 ∨ t.1 ≤ t.2) : 0 ≤ (abv l t).1 ∧ (abv l t).1 ≤ (abv l t).2 ∧ (abv l t).2 ≤ m := by
  have h0 : ∀ (q : Nat) (r : Rw), l[q]? = some r → 0 ≤ r.lo ∧ r.lo ≤ r.hi ∧ r.hi ≤ m := fun q r hr => by have := h.1 r (List.mem_of_getElem? hr); omega
  have hl := h.2.2.1
  obtain ⟨z, hz⟩ := get_of (l := l) (i := 0) (by omega)
  have hi : ∃ d, (d = 0 ∨ ∃ r, l[d]? = some r ∧ r.k ≤ t.1) ∧ (∀ r, l[d + 1]? = some r → t.1 < r.k) ∧ ∃ c, l[d]? = some c ∧ (abv l t).2 = c.hi := by
    unfold abv
    show ∃ d, _ ∧ _ ∧ ∃ c, _ ∧ (if _ = 0 then _ else _) = _
    have l1 := fst_le (fun r => decide (t.1 < r.k)) l
    have hno : ∀ j r, j < fst (fun r => decide (t.1 < r.k)) l → l[j]? = some r → r.k ≤ t.1 := fun j r h hr => by have := fst_no h hr; simp at this; exact this
    have hyes : ∀ r, l[fst (fun r => decide (t.1 < r.k)) l]? = some r → t.1 < r.k := fun r hr => by have := fst_yes hr; simpa using this
    generalize fst (fun r => decide (t.1 < r.k)) l = i at *
    by_cases hi : i = 0
    · subst hi
      have := hyes z hz
      have := h1 z hz
      omega
    · obtain ⟨c, hc⟩ := get_of (l := l) (i := i - 1) (by omega)
      rw [if_neg hi, hc]
      refine ⟨i - 1, .inr ⟨c, hc, hno _ c (by omega) hc⟩, fun r hr => hyes r (by rw [show i = i - 1 + 1 by omega]; exact hr), c, hc, rfl⟩
  obtain ⟨d, hd1, hd2, c, hc, hc2⟩ := hi
  have k1 := h0 d c hc
  rw [hc2]
  unfold abv
  show 0 ≤ (if t.2 = -1 then 0 else _) ∧ (if t.2 = -1 then 0 else _) ≤ _ ∧ _
  by_cases hn : t.2 = -1
  · rw [if_pos hn]; exact ⟨Int.le_refl _, by omega, k1.2.2⟩
  · rw [if_neg hn]
    have hyes : ∀ r, l[fst (fun r => decide (t.2 ≤ r.k)) l]? = some r → t.2 ≤ r.k := fun r hr => by have := fst_yes hr; simpa using this
    generalize fst (fun r => decide (t.2 ≤ r.k)) l = j at *
    cases hj : l[j]? with
    | none => exact ⟨Int.le_refl _, by show 0 ≤ c.hi; omega, k1.2.2⟩
    | some r =>
      have k2 := h0 j r hj
      have := hyes r hj
      refine ⟨k2.1, ?_, k1.2.2⟩
      show r.lo ≤ c.hi
      have hdj : d ≤ j := by
        rcases Nat.lt_or_ge j d with hlt | hge
        · exfalso
          have := (mono_nb h hj hc hlt).1
          rcases hd1 with hd | ⟨r', hr', hk'⟩
          · omega
          · rw [hc] at hr'; cases hr'
            rcases ht' with h | h
            · exact hn h
            · omega
        · exact hge
      have := (down_sp h hc hj hdj).1
      omega
theorem expd_ok {m m' : Int} {l t : List Rw} (hl : Mono 1 1000000 m false l) (h1 : ∀ r, l[0]? = some r → r.k = 1) (ht : Mono 1 1000000 m' true t) {o : Int} (ho : 0 ≤ o) : 0 ≤ (expd l t o).1 ∧ (expd l t o).1 ≤ (expd l t o).2 ∧ (expd l t o).2 ≤ m := by
  have hs := thr_spec ht ho
  exact abv_ok hl h1 hs.1 (by rcases hs.2.2 with h | h; · exact .inl h
                              · exact .inr h.1)
theorem expd_le {m m' : Int} {l t : List Rw} (hl : Mono 1 1000000 m false l) (ht : Mono 1 1000000 m' true t) {o o' : Int} (ho : 0 ≤ o') (hle : o' ≤ o) : (expd l t o).1 ≤ (expd l t o').1 ∧ (expd l t o).2 ≤ (expd l t o').2 := abv_le hl (thr_le ht ho hle)
end Go.Top
