/- The plain law of choices: the best one of all. -/
import Derived.Test.YteenhfnamjbaiaaV2
namespace Go.Proofs.Yteenhfnamjbaiaa
open Go.Camp (Cp CpOk ChOk Site SiteOk Sites costP siteAt SlOk)
theorem mem_upTo {f : Nat → List (List Int)} {a : Nat} {x : List Int} : ∀ k, x ∈ upTo f a k ↔ ∃ j, j < k ∧ x ∈ f (a + j) := by
 intro k
 induction k with
 | zero => simp [upTo]
 | succ k ih =>
  simp only [upTo, List.mem_append, ih]
  constructor
  ·rintro (⟨j, hj, h⟩ | h)
   ·exact ⟨j, by omega, h⟩
   ·exact ⟨k, by omega, h⟩
  ·rintro ⟨j, hj, h⟩
   rcases Nat.lt_or_ge j k with h' | h'
   ·exact .inl ⟨j, h', h⟩
   ·obtain rfl : j = k := by omega
    exact .inr h
/-- numbers that go up, from a on and less than n -/
def Asc (n : Nat) : Nat → List Int → Prop
 | _, [] => True
 | a, i :: t => ∃ k : Nat, i = (k : Int) ∧ a ≤ k ∧ k < n ∧ Asc n (k + 1) t
theorem mem_moreL (c : Cp) : ∀ (f a : Nat) (now l : List Int), l ∈ moreL c f a now ↔ ∃ t, l = now ++ t ∧ 1 ≤ t.length ∧ t.length ≤ f ∧ Asc c.sites.length a t ∧ costP c l ≤ c.budget := by
 intro f
 induction f with
 | zero =>
  intro a now l
  simp only [moreL, List.not_mem_nil, false_iff]
  rintro ⟨t, _, h1, h2, _⟩
  omega
 | succ f ih =>
  intro a now l
  simp only [moreL, mem_upTo, itemP, List.mem_append, ih]
  constructor
  ·rintro ⟨j, hj, h | ⟨t, rfl, h1, h2, h3, h4⟩⟩
   ·split at h
    ·rename_i hb
     simp only [List.mem_singleton] at h
     subst h
     exact ⟨[((a + j : Nat) : Int)], rfl, by simp, by simp, ⟨a + j, rfl, by omega, by omega, trivial⟩, hb⟩
    ·simp at h
   ·exact ⟨((a + j : Nat) : Int) :: t, by simp, by simp, by simp; omega, ⟨a + j, rfl, by omega, by omega, h3⟩, h4⟩
  ·rintro ⟨t, rfl, h1, h2, h3, h4⟩
   cases t with
   | nil => simp at h1
   | cons i t =>
    obtain ⟨k, rfl, k1, k2, k3⟩ := h3
    refine ⟨k - a, by omega, ?_⟩
    rw [show a + (k - a) = k by omega]
    cases t with
    | nil => rw [if_pos h4]; exact .inl (by simp)
    | cons i' t => exact .inr ⟨i' :: t, by simp, by simp, by simp at h2 ⊢; omega, k3, h4⟩
theorem asc_iff (n : Nat) : ∀ (l : List Int) (a : Nat), Asc n a l ↔ (∀ i ∈ l, (a : Int) ≤ i ∧ i < n) ∧ ∀ i : Nat, ∀ x ∈ l[i]?, ∀ y ∈ l[i + 1]?, x < y := by
 intro l
 induction l with
 | nil => intro a; simp [Asc]
 | cons i t ih =>
  intro a
  simp only [Asc, ih]
  constructor
  ·rintro ⟨k, rfl, h1, h2, h3, h4⟩
   refine ⟨fun x hx => ?_, fun j => ?_⟩
   ·rcases List.mem_cons.1 hx with rfl | hx
    ·omega
    ·have := h3 x hx; omega
   ·cases j with
    | zero =>
     intro x hx y hy
     simp at hx hy
     subst hx
     have := h3 y (List.mem_of_getElem? hy)
     omega
    | succ j => simpa using h4 j
  ·rintro ⟨h1, h2⟩
   obtain ⟨b1, b2⟩ := h1 i (by simp)
   refine ⟨i.toNat, by omega, by omega, by omega, fun x hx => ?_, fun j => by simpa using h2 (j + 1)⟩
   refine ⟨?_, (h1 x (by simp [hx])).2⟩
   have key : ∀ (j : Nat) (x : Int), t[j]? = some x → i < x := by
    intro j
    induction j with
    | zero => intro x hx; exact h2 0 i (by simp) x (by simpa using hx)
    | succ j ihj =>
     intro x hx
     have hj : j < t.length := by have := (List.getElem?_eq_some_iff.1 hx).1; omega
     have e1 := ihj t[j] (List.getElem?_eq_getElem hj)
     have e2 := h2 (j + 1) t[j] (by simp [List.getElem?_eq_getElem hj]) x (by simpa using hx)
     omega
   obtain ⟨j, hj⟩ := List.getElem?_of_mem hx
   have := key j x hj
   omega
/-- the search comes to just the choices -/
theorem mem_all {c : Cp} {l : List Int} : l ∈ moreL c 3 0 [] ↔ ChOk c l := by
 rw [mem_moreL]
 constructor
 ·rintro ⟨t, e, h1, h2, h3, h4⟩
  rw [List.nil_append] at e
  subst e
  obtain ⟨h5, h6⟩ := (asc_iff _ _ _).1 h3
  exact ⟨fun i hi => by have := h5 i hi; omega, h6, h1, h2, h4⟩
 ·intro h
  exact ⟨l, rfl, h.n0, h.n1, (asc_iff _ _ _).2 ⟨fun i hi => by have := h.s i hi; omega, h.up⟩, h.b⟩
theorem bestOf_top (c : Cp) (s : Nat) (L : List (List Int)) : (bestOf c s L = none → L = []) ∧ ∀ b, bestOf c s L = some b → b ∈ L ∧ ∀ x ∈ L, valP c s x ≤ valP c s b ∧ (valP c s x = valP c s b → costP c b ≤ costP c x) := by
 have key : ∀ R : List (List Int), (bestOf c s R.reverse = none → R.reverse = []) ∧ ∀ b, bestOf c s R.reverse = some b → b ∈ R.reverse ∧ ∀ x ∈ R.reverse, valP c s x ≤ valP c s b ∧ (valP c s x = valP c s b → costP c b ≤ costP c x) := by
  intro R
  induction R with
  | nil => exact ⟨fun _ => rfl, fun b h => (by simp [bestOf] at h)⟩
  | cons l R ih =>
   simp only [List.reverse_cons, bestOf_snoc]
   obtain ⟨ih1, ih2⟩ := ih
   generalize bestOf c s R.reverse = B at *
   generalize R.reverse = M at *
   cases B with
   | none =>
    obtain rfl := ih1 rfl
    simp only [stepB]
    exact ⟨fun h => (by cases h), fun b hb => (by cases hb; simp)⟩
   | some d =>
    obtain ⟨h1, h2⟩ := ih2 d rfl
    simp only [stepB]
    split
    ·rename_i hw
     refine ⟨fun h => (by cases h), fun b hb => ?_⟩
     cases hb
     refine ⟨by simp, fun x hx => ?_⟩
     rcases List.mem_append.1 hx with hx | hx
     ·have := h2 x hx; omega
     ·simp at hx; subst hx; omega
    ·rename_i hw
     refine ⟨fun h => (by cases h), fun b hb => ?_⟩
     cases hb
     refine ⟨by simp [h1], fun x hx => ?_⟩
     rcases List.mem_append.1 hx with hx | hx
     ·exact h2 x hx
     ·simp at hx; subst hx; omega
 have := key L.reverse
 rwa [List.reverse_reverse] at this
theorem odds_od {c : Cp} (hc : CpOk c) {s : Nat} (hs : SlOk c s) (e : Bool) {l : List Int} (hl : LsOk c l) : OdOk (oddsP c s e l) := by
 obtain ⟨h1, h2, h3, h4⟩ := odds_bd hc hs e hl
 have := hs.w
 exact ⟨h1, h2, h3, by omega⟩
theorem ediv_pow {P : Int} (hP : 1 ≤ P) {i j : Nat} (h : i ≤ j) : P ^ j / P ^ i = P ^ (j - i) := by
 have e : P ^ j = P ^ (j - i) * P ^ i := by rw [← Int.pow_add]; congr 1; omega
 rw [e]
 exact Int.mul_ediv_cancel _ (by have := pow_pos' hP i; omega)
theorem val_pow {c : Cp} (hc : CpOk c) (s : Nat) {l : List Int} (hl : l.length ≤ 3) : valP c s l = (oddsP c s false l).1 * (c.parts ^ s) ^ (3 - l.length) := by
 have hp := hc.p0
 unfold valP
 congr 1
 show c.parts ^ (3 * s) / (c.parts ^ s) ^ l.length = _
 rw [show c.parts ^ (3 * s) = (c.parts ^ s) ^ 3 by rw [← Int.pow_mul]; congr 1; omega]
 exact ediv_pow (pow_pos' (by omega) s) hl
theorem mul_lt_iff {a b k : Int} (hk : 1 ≤ k) : a * k < b * k ↔ a < b := Int.mul_lt_mul_right (by omega)
/-- odds are held against each other as parts of the same weight -/
theorem less_val {c : Cp} (hc : CpOk c) {s : Nat} {a b : List Int} (ha : LsOk c a) (hb : LsOk c b) : lessP (oddsP c s false a) (oddsP c s false b) = decide (valP c s a < valP c s b) := by
 have hp := hc.p0
 have hP : 1 ≤ c.parts ^ s := pow_pos' (by omega) s
 obtain ⟨_, a1, a2⟩ := ha
 obtain ⟨_, b1, b2⟩ := hb
 rw [val_pow hc s a2, val_pow hc s b2]
 unfold lessP
 show (if (c.parts ^ s) ^ a.length < (c.parts ^ s) ^ b.length then decide ((oddsP c s false a).1 * ((c.parts ^ s) ^ b.length / (c.parts ^ s) ^ a.length) < (oddsP c s false b).1) else decide ((oddsP c s false a).1 < (oddsP c s false b).1 * ((c.parts ^ s) ^ a.length / (c.parts ^ s) ^ b.length))) = _
 generalize (oddsP c s false a).1 = x
 generalize (oddsP c s false b).1 = y
 generalize c.parts ^ s = P at *
 split
 ·rename_i h
  have hab : a.length ≤ b.length := Nat.le_of_not_lt fun h' => by have := pow_mono' hP (Nat.le_of_lt h'); omega
  rw [ediv_pow hP hab]
  congr 1
  rw [← mul_lt_iff (pow_pos' hP (3 - b.length)), Int.mul_assoc, ← Int.pow_add, show b.length - a.length + (3 - b.length) = 3 - a.length by omega]
 ·rename_i h
  rcases Nat.lt_or_ge a.length b.length with h' | h'
  ·have h1 := pow_mono' hP (Nat.le_of_lt h')
   have h2 : P = 1 := by
    have e1 : P ^ b.length = P ^ a.length * P ^ (b.length - a.length) := by rw [← Int.pow_add]; congr 1; omega
    have e2 := pow_mono' hP (show 1 ≤ b.length - a.length by omega)
    have e3 := pow_pos' hP a.length
    rw [Int.pow_one] at e2
    have e4 : P ^ a.length * P ≤ P ^ a.length * P ^ (b.length - a.length) := Int.mul_le_mul_of_nonneg_left e2 (by omega)
    have e5 : P ^ a.length * P ≤ P ^ a.length * 1 := by omega
    have e6 := Int.le_of_mul_le_mul_left e5 (by omega)
    omega
   subst h2
   have e1 : ∀ n : Nat, (1 : Int) ^ n = 1 := fun n => by
    induction n with
    | zero => rfl
    | succ n ih => rw [Int.pow_succ, ih]; rfl
   rw [e1, e1, e1, e1]
   simp
  ·rw [ediv_pow hP h']
   congr 1
   rw [← mul_lt_iff (a := x) (pow_pos' hP (3 - a.length)), Int.mul_assoc, ← Int.pow_add, show a.length - b.length + (3 - a.length) = 3 - b.length by omega]
theorem ls_ch {c : Cp} {l : List Int} (h : ChOk c l) : LsOk c l := ⟨h.s, h.n0, h.n1⟩
/-- the same campaign, with another budget -/
def richC (c : Cp) (b : Int) : Cp := ⟨c.parts, c.level, b, c.sites⟩
theorem rich_ok {c : Cp} (hc : CpOk c) {b : Int} (b0 : 0 ≤ b) (b1 : b ≤ 8000000) : CpOk (richC c b) := ⟨hc.p0, hc.p1, hc.v0, hc.v1, b0, b1, hc.n0, hc.n1, hc.s⟩
theorem rich_ch {c : Cp} {b : Int} (h : c.budget ≤ b) {l : List Int} (hl : ChOk c l) : ChOk (richC c b) l := ⟨hl.s, hl.up, hl.n0, hl.n1, by have e : costP (richC c b) l = costP c l := rfl; have := hl.b; show costP (richC c b) l ≤ b; omega⟩
end Go.Proofs.Yteenhfnamjbaiaa
