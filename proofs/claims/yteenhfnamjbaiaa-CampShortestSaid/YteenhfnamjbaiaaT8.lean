/- The plain law of tours: the slack of an order; a tour whose ways are shorter. -/
import Derived.Test.YteenhfnamjbaiaaT7
namespace Go.Proofs.Yteenhfnamjbaiaa
open Go.Camp (Cl wayT stopT TrOk begT okT leaveT endT begs)
/-- an order that is possible from some time on is possible from each time up to its slack, and from no other one -/
theorem slack_iff (t : Go.Camp.Tr) : ∀ (k : List Nat) (p : Nat) (x y : Int), k ≠ [] → (endT t k p y).isSome = true → ((endT t k p x).isSome = true ↔ x + wayT t p (k.getD 0 0 + 1) ≤ latT t k) := by
 intro k
 induction k with
 | nil => intro p x y h; exact absurd rfl h
 | cons i k ih =>
  intro p x y _ hy
  simp only [endT] at hy ⊢
  cases hoy : okT t p i y with
  | false => rw [hoy] at hy; simp at hy
  | true =>
   rw [hoy] at hy
   simp only [if_true] at hy
   unfold okT begT at hoy
   simp only [decide_eq_true_eq] at hoy
   have hox : okT t p i x = true ↔ x + wayT t p (i + 1) ≤ (stopT t i).due := by
    unfold okT begT
    simp only [decide_eq_true_eq]
    omega
   cases k with
   | nil =>
    simp only [latT, List.getD_cons_zero]
    rw [← hox]
    cases okT t p i x <;> simp [endT]
   | cons j l =>
    have i1 := ih (i + 1) (leaveT t p i x) (leaveT t p i y) (by simp) hy
    have i2 := (ih (i + 1) (leaveT t p i y) (leaveT t p i y) (by simp) hy).1 hy
    simp only [List.getD_cons_zero] at i1 i2 ⊢
    simp only [latT]
    have lx : leaveT t p i x = max (stopT t i).opn (x + wayT t p (i + 1)) + (stopT t i).work := rfl
    have ly : leaveT t p i y = max (stopT t i).opn (y + wayT t p (i + 1)) + (stopT t i).work := rfl
    cases hb : okT t p i x with
    | true =>
     have := hox.1 hb
     simp only [if_true]
     rw [i1]
     omega
    | false =>
     have : ¬ x + wayT t p (i + 1) ≤ (stopT t i).due := fun h => by rw [hox.2 h] at hb; cases hb
     simp
     omega
theorem slack_bd {m : Tm} (h : TrOk (trP m)) {k : List Nat} (hk : ∀ i ∈ k, i < m.S.l.length) (hk0 : k ≠ []) {e : Int} (he : endT (trP m) k 0 0 = some e) :
  0 ≤ latT (trP m) k - wayT (trP m) 0 (k.getD 0 0 + 1) ∧ latT (trP m) k - wayT (trP m) 0 (k.getD 0 0 + 1) ≤ 1000000 := by
 have h1 := (slack_iff (trP m) k 0 0 0 hk0 (by rw [he]; rfl)).1 (by rw [he]; rfl)
 have h2 := (lat_bd h k hk).2
 have h3 := (posT_of h).w 0 (k.getD 0 0 + 1)
 omega
/-- the same tour, with ways that are shorter -/
def shortT (t : Go.Camp.Tr) (h : Int) : Go.Camp.Tr := ⟨t.ways.map fun r => r.map fun a => a - min h a, t.stops⟩
theorem short_way {t : Go.Camp.Tr} (ht : TrOk t) {h : Int} (h0 : 0 ≤ h) (p q : Nat) : 0 ≤ wayT (shortT t h) p q ∧ wayT (shortT t h) p q ≤ wayT t p q := by
 unfold wayT shortT
 simp only [List.getElem?_map]
 cases hp : t.ways[p]? with
 | none => simp
 | some l =>
  simp only [Option.map_some, Option.bind_some, List.getElem?_map]
  cases hq : l[q]? with
  | none => simp
  | some x =>
   have := ((ht.r l (List.mem_of_getElem? hp)).2 x (List.mem_of_getElem? hq)).1
   simp
   omega
theorem short_ok {t : Go.Camp.Tr} (ht : TrOk t) {h : Int} (h0 : 0 ≤ h) : TrOk (shortT t h) := by
 refine ⟨ht.n1, ht.n8, by simpa [shortT] using ht.w, fun l hl => ?_, ht.s⟩
 obtain ⟨r, hr, rfl⟩ := List.mem_map.1 hl
 obtain ⟨r1, r2⟩ := ht.r r hr
 refine ⟨by simpa [shortT] using r1, fun x hx => ?_⟩
 obtain ⟨a, ha, rfl⟩ := List.mem_map.1 hx
 have := r2 a ha
 omega
theorem end_less {t u : Go.Camp.Tr} (hs : ∀ i, stopT u i = stopT t i) (hw : ∀ p q, wayT u p q ≤ wayT t p q) : ∀ (k : List Nat) (p : Nat) (x y e : Int), x ≤ y → endT t k p y = some e → ∃ e', endT u k p x = some e' ∧ e' ≤ e := by
 intro k
 induction k with
 | nil =>
  intro p x y e hxy he
  simp only [endT, Option.some.injEq] at he ⊢
  have := hw p 0
  exact ⟨_, rfl, by omega⟩
 | cons i k ih =>
  intro p x y e hxy he
  simp only [endT] at he ⊢
  have h1 := hs i
  have h2 := hw p (i + 1)
  have hb : begT u p i x ≤ begT t p i y := by unfold begT; rw [h1]; omega
  cases hy : okT t p i y with
  | false => rw [hy] at he; simp at he
  | true =>
   rw [hy] at he
   simp only [if_true] at he
   have hx : okT u p i x = true := by
    unfold okT at hy ⊢
    simp only [decide_eq_true_eq] at hy ⊢
    rw [h1]
    omega
   rw [hx]
   simp only [if_true]
   refine ih _ _ _ e ?_ he
   unfold leaveT
   rw [h1]
   omega
/-- with shorter ways, the best order ends no later -/
theorem short_best {t : Go.Camp.Tr} (ht : TrOk t) {h : Int} (h0 : 0 ≤ h) (hl : 0 ≤ (roundP t).least) : 0 ≤ (roundP (shortT t h)).least ∧ (roundP (shortT t h)).least ≤ (roundP t).least := by
 obtain ⟨h1, h2⟩ := (round_best ht).2 hl
 obtain ⟨e', h3, h4⟩ := end_less (t := t) (u := shortT t h) (fun i => rfl) (fun p q => (short_way ht h0 p q).2) _ 0 0 0 _ (Int.le_refl 0) h2
 have := (round_best (short_ok ht h0)).1 _ e' h1 h3
 omega
end Go.Proofs.Yteenhfnamjbaiaa
