/- Surveys of a ground, plainly. No program in sight. -/
import Derived.Test.YtkkjfjeniaiaiaaS1
namespace Go.Rock
structure Su where
  (col lo hi : Int)
def farI (nx a b : Int) : Int := absI (a % nx - b % nx) + absI (a / nx - b / nx)
def SuOk (v : Vo) (s : Su) : Prop := (0 ≤ s.col ∧ s.col ≤ v.nx * v.ny - 1) ∧ 0 ≤ s.lo ∧ s.lo ≤ s.hi ∧ s.hi ≤ v.nz * v.sz
instance (v : Vo) (s : Su) : Decidable (SuOk v s) := by unfold SuOk; infer_instance
def LdOk (v : Vo) (st : Int) (l : List Su) : Prop := (∀ s ∈ l, SuOk v s) ∧ 0 ≤ st ∧ st ≤ 1000000
instance (v : Vo) (st : Int) (l : List Su) : Decidable (LdOk v st l) := by unfold LdOk; infer_instance
def lowS (v : Vo) (st : Int) (s : Su) (c : Int) : Int := s.lo - st * farI v.nx s.col c
def highS (v : Vo) (st : Int) (s : Su) (c : Int) : Int := s.hi + st * farI v.nx s.col c
theorem absI_nonneg (a : Int) : 0 ≤ absI a := by unfold absI; split <;> omega
theorem absI_neg (a : Int) : absI (-a) = absI a := by unfold absI; split <;> split <;> omega
theorem farI_comm (nx a b : Int) : farI nx a b = farI nx b a := by
  unfold farI
  rw [← absI_neg (a % nx - b % nx), ← absI_neg (a / nx - b / nx), Int.neg_sub, Int.neg_sub]
theorem farI_nonneg (nx a b : Int) : 0 ≤ farI nx a b := Int.add_nonneg (absI_nonneg _) (absI_nonneg _)
theorem farI_le {v : Vo} {a b : Int} (hv : VoOk v) (ha : 0 ≤ a) (ha' : a < v.nx * v.ny) (hb : 0 ≤ b) (hb' : b < v.nx * v.ny) : farI v.nx a b ≤ 24 := by
  unfold VoOk at hv
  have h1 := Int.emod_nonneg a (by omega : v.nx ≠ 0)
  have h2 := Int.emod_lt_of_pos a (by omega : 0 < v.nx)
  have h3 := Int.emod_nonneg b (by omega : v.nx ≠ 0)
  have h4 := Int.emod_lt_of_pos b (by omega : 0 < v.nx)
  have h5 := Int.ediv_nonneg ha (by omega : 0 ≤ v.nx)
  have h6 := Int.ediv_nonneg hb (by omega : 0 ≤ v.nx)
  have h7 : a / v.nx < v.ny := Int.ediv_lt_of_lt_mul (by omega) (by rw [Int.mul_comm]; exact ha')
  have h8 : b / v.nx < v.ny := Int.ediv_lt_of_lt_mul (by omega) (by rw [Int.mul_comm]; exact hb')
  unfold farI absI
  split <;> split <;> omega
/-- the first index from i on, of n, at which p holds -/
def fstI (p : Nat → Bool) : Nat → Nat → Option Nat
  | 0, _ => none
  | n + 1, i => if p i then some i else fstI p n (i + 1)
def fst2 (p : Nat → Nat → Bool) (m : Nat) : Nat → Nat → Option (Nat × Nat)
  | 0, _ => none
  | n + 1, i => match fstI (p i) m 0 with
    | some k => some (i, k)
    | none => fst2 p m n (i + 1)
theorem fstI_some {p : Nat → Bool} : ∀ {n i k : Nat}, fstI p n i = some k → i ≤ k ∧ k < i + n ∧ p k = true := by
  intro n
  induction n with
  | zero => intro i k h; cases h
  | succ n ih =>
    intro i k h
    rw [fstI] at h
    split at h
    · rename_i hp
      cases h
      exact ⟨by omega, by omega, hp⟩
    · obtain ⟨h1, h2, h3⟩ := ih h
      exact ⟨by omega, by omega, h3⟩
theorem fstI_none {p : Nat → Bool} : ∀ {n i : Nat}, fstI p n i = none → ∀ k, i ≤ k → k < i + n → p k = false := by
  intro n
  induction n with
  | zero => intro i _ k h1 h2; omega
  | succ n ih =>
    intro i h k h1 h2
    rw [fstI] at h
    split at h
    · cases h
    · rename_i hp
      by_cases e : k = i
      · subst e; simpa using hp
      · exact ih h k (by omega) (by omega)
theorem fst2_some {p : Nat → Nat → Bool} {m : Nat} : ∀ {n i a b : Nat}, fst2 p m n i = some (a, b) → i ≤ a ∧ a < i + n ∧ b < m ∧ p a b = true := by
  intro n
  induction n with
  | zero => intro i a b h; cases h
  | succ n ih =>
    intro i a b h
    rw [fst2] at h
    split at h
    · rename_i k hk
      cases h
      obtain ⟨_, h2, h3⟩ := fstI_some hk
      exact ⟨by omega, by omega, by omega, h3⟩
    · obtain ⟨h1, h2, h3⟩ := ih h
      exact ⟨by omega, by omega, h3⟩
theorem fst2_none {p : Nat → Nat → Bool} {m : Nat} : ∀ {n i : Nat}, fst2 p m n i = none → ∀ a b, i ≤ a → a < i + n → b < m → p a b = false := by
  intro n
  induction n with
  | zero => intro i _ a b h1 h2; omega
  | succ n ih =>
    intro i h a b h1 h2 h3
    rw [fst2] at h
    split at h
    · cases h
    · rename_i hk
      by_cases e : a = i
      · subst e; exact fstI_none hk b (by omega) (by omega)
      · exact ih h a b (by omega) (by omega) h3
def su0 : Su := ⟨0, 0, 0⟩
/-- do two surveys clash? -/
def clP (v : Vo) (st : Int) (l : List Su) (i k : Nat) : Bool := decide (highS v st (l.getD k su0) (l.getD i su0).col < (l.getD i su0).lo)
def clsh (v : Vo) (st : Int) (l : List Su) : Option (Nat × Nat) := fst2 (clP v st l) l.length l.length 0
def lstC (v : Vo) (st : Int) (l : List Su) (c : Int) : Int := l.foldl (fun h s => max h (lowS v st s c)) 0
def mstC (v : Vo) (st : Int) (l : List Su) (c : Int) : Int := l.foldl (fun h s => min h (highS v st s c)) (v.nz * v.sz)
def lst (v : Vo) (st : Int) (l : List Su) : List Int := (List.range (v.nx * v.ny).toNat).map fun (c : Nat) => lstC v st l (c : Int)
def mst (v : Vo) (st : Int) (l : List Su) : List Int := (List.range (v.nx * v.ny).toNat).map fun (c : Nat) => mstC v st l (c : Int)
def wrE (v : Vo) (st : Int) (l : List Su) : Int := if 50 < l.length then 3 else if VoOk v ∧ LdOk v st l then 0 else 2
end Go.Rock
