/- Plain: gates, kinks, the least kink of the paths through gates. -/
import GoSem.Claims
namespace Go.Bend
structure Ga where
  z : Int
  lo : Int
  hi : Int
structure GaOk (g : Ga) : Prop where
  z0 : 0 ≤ g.z
  z1 : g.z ≤ 100000
  l0 : -1000000 ≤ g.lo
  lh : g.lo ≤ g.hi
  h1 : g.hi ≤ 1000000
/-- a list of gates as bends want it -/
structure BeOk (l : List Ga) : Prop where
  ok : ∀ g ∈ l, GaOk g ∧ g.hi - g.lo ≤ 60
  up : ∀ i : Nat, ∀ a ∈ l[i]?, ∀ b ∈ l[i + 1]?, a.z < b.z
  n0 : 2 ≤ l.length
  n1 : l.length ≤ 8
def InG (g : Ga) (x : Int) : Prop := g.lo ≤ x ∧ x ≤ g.hi
/-- how far off a straight line -/
def turnA (z0 z1 z2 x0 x1 x2 : Int) : Int := (x2 - x1) * (z1 - z0) - (x1 - x0) * (z2 - z1)
def turnP (z0 z1 z2 x0 x1 x2 : Int) : Int := (1000 * max (turnA z0 z1 z2 x0 x1 x2) (-turnA z0 z1 z2 x0 x1 x2) + (z1 - z0) * (z2 - z1) - 1) / ((z1 - z0) * (z2 - z1))
theorem mul_abs {a b A B : Int} (a0 : -A ≤ a) (a1 : a ≤ A) (b0 : 0 ≤ b) (b1 : b ≤ B) (hA : 0 ≤ A) : -(A * B) ≤ a * b ∧ a * b ≤ A * B := by
  have h1 : a * b ≤ A * b := Int.mul_le_mul_of_nonneg_right a1 b0
  have h2 : -A * b ≤ a * b := Int.mul_le_mul_of_nonneg_right a0 b0
  have h3 : A * b ≤ A * B := Int.mul_le_mul_of_nonneg_left b1 hA
  rw [Int.neg_mul] at h2
  omega
theorem turn_bd {z0 z1 z2 x0 x1 x2 : Int} (a0 : 0 ≤ z0) (a1 : z0 < z1) (a2 : z1 < z2) (a3 : z2 ≤ 100000) (b0 : -1000000 ≤ x0 ∧ x0 ≤ 1000000) (b1 : -1000000 ≤ x1 ∧ x1 ≤ 1000000) (b2 : -1000000 ≤ x2 ∧ x2 ≤ 1000000) :
    (-200000000000 ≤ (x2 - x1) * (z1 - z0) ∧ (x2 - x1) * (z1 - z0) ≤ 200000000000) ∧ (-200000000000 ≤ (x1 - x0) * (z2 - z1) ∧ (x1 - x0) * (z2 - z1) ≤ 200000000000) ∧ (1 ≤ (z1 - z0) * (z2 - z1) ∧ (z1 - z0) * (z2 - z1) ≤ 10000000000) := by
  have h1 := mul_abs (a := x2 - x1) (b := z1 - z0) (A := 2000000) (B := 100000) (by omega) (by omega) (by omega) (by omega) (by omega)
  have h2 := mul_abs (a := x1 - x0) (b := z2 - z1) (A := 2000000) (B := 100000) (by omega) (by omega) (by omega) (by omega) (by omega)
  have h3 := mul_abs (a := z1 - z0) (b := z2 - z1) (A := 100000) (B := 100000) (by omega) (by omega) (by omega) (by omega) (by omega)
  have h4 : 0 < (z1 - z0) * (z2 - z1) := Int.mul_pos (by omega) (by omega)
  omega
theorem turn_nn {z0 z1 z2 x0 x1 x2 : Int} (a1 : z0 < z1) (a2 : z1 < z2) : 0 ≤ turnP z0 z1 z2 x0 x1 x2 := by
  have h4 : 0 < (z1 - z0) * (z2 - z1) := Int.mul_pos (by omega) (by omega)
  exact Int.ediv_nonneg (by omega) (by omega)
theorem turn_le {z0 z1 z2 x0 x1 x2 : Int} (a0 : 0 ≤ z0) (a1 : z0 < z1) (a2 : z1 < z2) (a3 : z2 ≤ 100000) (b0 : -1000000 ≤ x0 ∧ x0 ≤ 1000000) (b1 : -1000000 ≤ x1 ∧ x1 ≤ 1000000) (b2 : -1000000 ≤ x2 ∧ x2 ≤ 1000000) : turnP z0 z1 z2 x0 x1 x2 ≤ 1000000000000000 := by
  obtain ⟨h1, h2, h3⟩ := turn_bd a0 a1 a2 a3 b0 b1 b2
  have h4 : turnP z0 z1 z2 x0 x1 x2 ≤ 1000 * max (turnA z0 z1 z2 x0 x1 x2) (-turnA z0 z1 z2 x0 x1 x2) + (z1 - z0) * (z2 - z1) - 1 := Int.ediv_le_self _ (by omega)
  unfold turnA at h4
  omega
/-- the least of some numbers, -1 if there are none -/
def mn (f : Int → Int) (lo : Int) : Nat → Int
  | 0 => -1
  | k + 1 => if mn f lo k < 0 ∨ f (lo + k) < mn f lo k then f (lo + k) else mn f lo k
theorem mn_spec {f : Int → Int} {lo : Int} (hf : ∀ x, 0 ≤ f x) : ∀ k : Nat, 1 ≤ k → (∃ j : Nat, j < k ∧ mn f lo k = f (lo + j)) ∧ ∀ j : Nat, j < k → mn f lo k ≤ f (lo + j) := by
  intro k
  induction k with
  | zero => intro h; omega
  | succ k ih =>
    intro _
    rcases Nat.eq_zero_or_pos k with rfl | h0
    · refine ⟨⟨0, by omega, ?_⟩, fun j hj => ?_⟩
      · simp [mn]
      · obtain rfl : j = 0 := by omega
        simp [mn]
    · obtain ⟨⟨j0, h1, h2⟩, h3⟩ := ih h0
      have hb : ¬ mn f lo k < 0 := by rw [h2]; have := hf (lo + j0); omega
      rw [mn]
      by_cases hc : f (lo + k) < mn f lo k
      · rw [if_pos (.inr hc)]
        refine ⟨⟨k, by omega, rfl⟩, fun j hj => ?_⟩
        rcases Nat.lt_or_ge j k with h | h
        · have := h3 j h; omega
        · obtain rfl : j = k := by omega
          exact Int.le_refl _
      · rw [if_neg (by omega)]
        refine ⟨⟨j0, by omega, h2⟩, fun j hj => ?_⟩
        rcases Nat.lt_or_ge j k with h | h
        · exact h3 j h
        · obtain rfl : j = k := by omega
          omega
/-- the least kink of a path on through gates, from a place in the first to one in the second -/
def minK : List Ga → Int → Int → Int
  | g0 :: g1 :: g2 :: r, a, b => mn (fun c => max (turnP g0.z g1.z g2.z a b c) (max 0 (minK (g1 :: g2 :: r) b c))) g2.lo (g2.hi - g2.lo + 1).toNat
  | _, _, _ => 0
theorem minK_cons (g0 g1 g2 : Ga) (r : List Ga) (a b : Int) : minK (g0 :: g1 :: g2 :: r) a b = mn (fun c => max (turnP g0.z g1.z g2.z a b c) (max 0 (minK (g1 :: g2 :: r) b c))) g2.lo (g2.hi - g2.lo + 1).toNat := rfl
/-- gates in order -/
def Asc : List Ga → Prop
  | g0 :: g1 :: r => g0.z < g1.z ∧ Asc (g1 :: r)
  | _ => True
theorem asc_of : ∀ l : List Ga, (∀ i : Nat, ∀ a ∈ l[i]?, ∀ b ∈ l[i + 1]?, a.z < b.z) → Asc l := by
  intro l
  induction l with
  | nil => intro _; trivial
  | cons a l ih =>
    intro h
    cases l with
    | nil => trivial
    | cons b l => exact ⟨h 0 a rfl b rfl, ih fun i x hx y hy => h (i + 1) x (by simpa using hx) y (by simpa using hy)⟩
theorem asc_drop : ∀ (l : List Ga) (i : Nat), Asc l → Asc (l.drop i) := by
  intro l
  induction l with
  | nil => intro i _; simp [Asc]
  | cons a l ih =>
    intro i h
    cases i with
    | zero => exact h
    | succ i =>
      cases l with
      | nil => simp [Asc]
      | cons b l => exact ih i h.2
theorem minK_spec {g0 g1 g2 : Ga} {r : List Ga} (hA : Asc (g0 :: g1 :: g2 :: r)) (h : g2.lo ≤ g2.hi) (a b : Int) :
    (∃ c, InG g2 c ∧ minK (g0 :: g1 :: g2 :: r) a b = max (turnP g0.z g1.z g2.z a b c) (max 0 (minK (g1 :: g2 :: r) b c))) ∧ ∀ c, InG g2 c → minK (g0 :: g1 :: g2 :: r) a b ≤ max (turnP g0.z g1.z g2.z a b c) (max 0 (minK (g1 :: g2 :: r) b c)) := by
  have hn := fun c => turn_nn (x0 := a) (x1 := b) (x2 := c) hA.1 hA.2.1
  obtain ⟨⟨j, h1, h2⟩, h3⟩ := mn_spec (f := fun c => max (turnP g0.z g1.z g2.z a b c) (max 0 (minK (g1 :: g2 :: r) b c))) (lo := g2.lo) (fun c => by have := hn c; omega) (g2.hi - g2.lo + 1).toNat (by omega)
  refine ⟨⟨g2.lo + j, ⟨by omega, by omega⟩, h2⟩, fun c hc => ?_⟩
  have := h3 (c - g2.lo).toNat (by have := hc.1; have := hc.2; omega)
  rw [show g2.lo + ((c - g2.lo).toNat : Int) = c by have := hc.1; omega] at this
  exact this
theorem minK_nn : ∀ (l : List Ga), Asc l → (∀ g ∈ l, g.lo ≤ g.hi) → ∀ a b, 0 ≤ minK l a b := by
  intro l hA hl a b
  match l with
  | [] => exact Int.le_refl _
  | [_] => exact Int.le_refl _
  | [_, _] => exact Int.le_refl _
  | g0 :: g1 :: g2 :: r =>
    obtain ⟨⟨c, _, h⟩, _⟩ := minK_spec hA (hl g2 (by simp)) a b
    have := turn_nn (x0 := a) (x1 := b) (x2 := c) hA.1 hA.2.1
    omega
/-- the kink at a gate of a path -/
def kinkAt (l : List Ga) (xs : List Int) (j : Nat) : Int :=
  match l[j]?, l[j + 1]?, l[j + 2]?, xs[j]?, xs[j + 1]?, xs[j + 2]? with
  | some g0, some g1, some g2, some a, some b, some c => turnP g0.z g1.z g2.z a b c
  | _, _, _, _, _, _ => 0
theorem minK_le {M : Int} (hM : 0 ≤ M) : ∀ (l : List Ga) (xs : List Int) (x0 x1 : Int), Asc l → (∀ g ∈ l, g.lo ≤ g.hi) → xs.length = l.length → (∀ (i : Nat) g x, l[i]? = some g → xs[i]? = some x → InG g x) → xs[0]? = some x0 → xs[1]? = some x1 → (∀ j, kinkAt l xs j ≤ M) → minK l x0 x1 ≤ M := by
  intro l
  induction l with
  | nil => intro xs x0 x1 _ _ _ _ _ _ _; exact hM
  | cons g0 l ih =>
    intro xs x0 x1 hA hl hn hin h0 h1 hk
    match l, ih, hA, hl, hn, hin, hk with
    | [], _, _, _, _, _, _ => exact hM
    | [_], _, _, _, _, _, _ => exact hM
    | g1 :: g2 :: r, ih, hA, hl, hn, hin, hk =>
      match xs, hn, hin, h0, h1, hk with
      | a :: b :: c :: xs, hn, hin, h0, h1, hk =>
        simp only [List.getElem?_cons_zero, Option.some.injEq] at h0
        subst h0
        simp only [List.getElem?_cons_succ, List.getElem?_cons_zero, Option.some.injEq] at h1
        subst h1
        have i1 := ih (b :: c :: xs) b c hA.2 (fun g hg => hl g (List.mem_cons_of_mem _ hg)) (by simpa using hn) (fun i g x hg hx => hin (i + 1) g x hg hx) rfl rfl fun j => hk (j + 1)
        have i2 := hk 0
        have i3 := (minK_spec hA (hl g2 (by simp)) a b).2 c (hin 2 g2 c rfl rfl)
        have i4 : kinkAt (g0 :: g1 :: g2 :: r) (a :: b :: c :: xs) 0 = turnP g0.z g1.z g2.z a b c := rfl
        omega
      | [], hn, _, _, _, _ => simp at hn
      | [_], hn, _, _, _, _ => simp at hn
      | [_, _], hn, _, _, _, _ => simp at hn
/-- what the maps hold -/
def gI (l : List Ga) (i : Nat) : Int × Int → Option Int := fun p =>
  match l[i]?, l[i + 1]? with
  | some g0, some g1 => if g0.lo ≤ p.1 ∧ p.1 ≤ g0.hi ∧ g1.lo ≤ p.2 ∧ p.2 ≤ g1.hi then some (minK (l.drop i) p.1 p.2) else none
  | _, _ => none
end Go.Bend
