/- Plain laws: the theorem of watches. -/
import Derived.Test.YtocolpbakaibnaaP5
namespace Go.Proofs.Ytocolpbakaibnaa
open Go.Cnt Go.Ev
theorem chgN_some {D : Nat} {lv : Int} {xs : List Bool} : ∀ {m i : Nat} {r : Nat × Nat}, chgN D lv xs i m = some r → ∃ i', i ≤ i' ∧ i' < i + m ∧ ∃ j, j < (wl (i' + 1)).length ∧ dead D lv xs i' j = true := by
  intro m
  induction m with
  | zero => intro i r h; cases h
  | succ m ih =>
    intro i r h
    rw [chgN] at h
    split at h
    · rename_i j hj
      obtain ⟨_, h2, h3, _⟩ := firstN_some _ _ hj
      exact ⟨i, Nat.le_refl _, by omega, j, by omega, h3⟩
    · obtain ⟨i', h1, h2, h3⟩ := ih h
      exact ⟨i', by omega, by omega, h3⟩
theorem empty_out {D : Nat} {lv : Int} {xs : List Bool} (h : (keptL D lv xs).isEmpty = true) (k : Nat) (hk : k ≤ D) : (bst D lv k xs).out = true := by
  cases ho : (bst D lv k xs).out with
  | true => rfl
  | false =>
    have h1 : kp (sts D lv xs) k = true := by show (!(bst D lv k xs).out) = true; rw [ho]; rfl
    obtain ⟨s, hs, _⟩ := spansTo_has (n := D + 1) (show k < D + 1 by omega) h1
    have : keptL D lv xs = [] := by simpa using h
    rw [keptL] at this
    rw [this] at hs
    cases hs
theorem drop_fair {D lv k : Int} (hk0 : 0 ≤ k) (hk1 : k ≤ D) (s : Nat) (x : List Bool) : k * (bst D lv k ((x ++ [true]).drop s)).c + (D - k) * (bst D lv k ((x ++ [false]).drop s)).c ≤ D * (bst D lv k (x.drop s)).c := by
  rcases Nat.lt_or_ge x.length s with h | h
  · rw [List.drop_eq_nil_of_le (by simp; omega), List.drop_eq_nil_of_le (by simp; omega), List.drop_eq_nil_of_le (by omega), ← Int.add_mul, show k + (D - k) = D by omega]
    exact Int.le_refl _
  · rw [List.drop_append_of_le_length h, List.drop_append_of_le_length h]
    exact bst_fair hk0 hk1 _
theorem sure_drop {D lv k : Int} (hk0 : 0 ≤ k) (hk1 : k ≤ D) (s n : Nat) : lv * tot n (fun x => if (bst D lv k (x.drop s)).out then wtI D k x else 0) ≤ D ^ n := by
  have h1 := tot_fair hk0 hk1 (F := fun x => (bst D lv k (x.drop s)).c) n fun x _ => drop_fair hk0 hk1 s x
  have h2 : tot n (fun x => (lv * 1048576) * (if (bst D lv k (x.drop s)).out then wtI D k x else 0)) ≤ tot n (fun x => wtI D k x * (bst D lv k (x.drop s)).c) := by
    refine tot_le fun x _ => ?_
    have hw := (wtI_bd hk0 hk1 x).1
    have hc := (bst_ok (D := D) (lv := lv) (k := k) (by omega) hk0 hk1 (x.drop s)).1
    by_cases ho : (bst D lv k (x.drop s)).out = true
    · rw [if_pos ho, Int.mul_comm]
      exact Int.mul_le_mul_of_nonneg_left (bst_level _ ho) hw
    · rw [if_neg ho, Int.mul_zero]
      exact Int.mul_nonneg hw hc
  rw [tot_mul] at h2
  have h3 : (bst D lv k (([] : List Bool).drop s)).c = 1048576 := by rw [List.drop_nil]; rfl
  simp only [h3] at h1
  have h4 : lv * 1048576 * tot n (fun x => if (bst D lv k (x.drop s)).out then wtI D k x else 0) = (lv * tot n (fun x => if (bst D lv k (x.drop s)).out then wtI D k x else 0)) * 1048576 := by
    rw [Int.mul_assoc, Int.mul_assoc, Int.mul_comm 1048576]
  omega
def st8 (j : Nat) : Nat := [0, 1, 2, 4].getD j 0
theorem wl8 : ∀ i, i < 8 → ∀ j, j < (wl (i + 1)).length → j < 4 ∧ (wl (i + 1)).getD j 0 = st8 j := by decide
theorem steady_ev {D : Nat} {lv : Int} {xs : List Bool} {r : Nat × Nat} (hn : xs.length ≤ 8) (h : chgN D lv xs 0 xs.length = some r) (k : Nat) (hk : k ≤ D) : ∃ j, j < 4 ∧ (bst D (wlv lv j) k (xs.drop (st8 j))).out = true := by
  obtain ⟨i, _, hi, j, hj, hd⟩ := chgN_some h
  obtain ⟨h4, hst⟩ := wl8 i (by omega) j hj
  refine ⟨j, h4, ?_⟩
  have h1 := empty_out hd k hk
  unfold seen at h1
  rw [hst] at h1
  have e : xs.drop (st8 j) = (xs.take (i + 1)).drop (st8 j) ++ (xs.drop (i + 1)).drop (st8 j - (xs.take (i + 1)).length) := by
    rw [← List.drop_append, List.take_append_drop]
  rw [e, out_more _ _ h1]
  exact h1
theorem steady {D : Nat} {lv : Int} (hl : 0 ≤ lv) (k : Nat) (hk : k ≤ D) (n : Nat) (hn : n ≤ 8) : lv * tot n (fun x => if (chgN D lv x 0 x.length).isSome then wtI D k x else 0) ≤ (D : Int) ^ n := by
  have S := fun j => sure_drop (D := (D : Int)) (lv := wlv lv j) (k := k) (by omega) (by omega) (st8 j) n
  have h1 : tot n (fun x => if (chgN D lv x 0 x.length).isSome then wtI D k x else 0) ≤
      tot n (fun x => (((if (bst D (wlv lv 0) k (x.drop (st8 0))).out then wtI D k x else 0) + (if (bst D (wlv lv 1) k (x.drop (st8 1))).out then wtI D k x else 0)) + (if (bst D (wlv lv 2) k (x.drop (st8 2))).out then wtI D k x else 0)) + (if (bst D (wlv lv 3) k (x.drop (st8 3))).out then wtI D k x else 0)) := by
    refine tot_le fun x hx => ?_
    have hw := (wtI_bd (D := (D : Int)) (k := k) (by omega) (by omega) x).1
    have nn : ∀ b : Bool, 0 ≤ (if b then wtI D k x else 0) := fun b => by cases b <;> simp [hw]
    have n0 := nn (bst D (wlv lv 0) k (x.drop (st8 0))).out
    have n1 := nn (bst D (wlv lv 1) k (x.drop (st8 1))).out
    have n2 := nn (bst D (wlv lv 2) k (x.drop (st8 2))).out
    have n3 := nn (bst D (wlv lv 3) k (x.drop (st8 3))).out
    cases hc : chgN D lv x 0 x.length with
    | none => simp only [Option.isSome_none, Bool.false_eq_true, if_false]; omega
    | some r =>
      obtain ⟨j, hj, ho⟩ := steady_ev (by omega) hc k hk
      simp only [Option.isSome_some, if_true]
      have : j = 0 ∨ j = 1 ∨ j = 2 ∨ j = 3 := by omega
      rcases this with rfl | rfl | rfl | rfl
      · rw [ho] at n0 ⊢; simp only [if_true] at n0 ⊢; omega
      · rw [ho] at n1 ⊢; simp only [if_true] at n1 ⊢; omega
      · rw [ho] at n2 ⊢; simp only [if_true] at n2 ⊢; omega
      · rw [ho] at n3 ⊢; simp only [if_true] at n3 ⊢; omega
  rw [tot_add, tot_add, tot_add] at h1
  have s0 := S 0
  have s1 := S 1
  have s2 := S 2
  have s3 := S 3
  have hX : 0 ≤ (D : Int) ^ n := Int.pow_nonneg (by omega)
  generalize tot n (fun x => if (bst D (wlv lv 0) k (x.drop (st8 0))).out then wtI D k x else 0) = a at *
  generalize tot n (fun x => if (bst D (wlv lv 1) k (x.drop (st8 1))).out then wtI D k x else 0) = b at *
  generalize tot n (fun x => if (bst D (wlv lv 2) k (x.drop (st8 2))).out then wtI D k x else 0) = c at *
  generalize tot n (fun x => if (bst D (wlv lv 3) k (x.drop (st8 3))).out then wtI D k x else 0) = e at *
  have h2 := Int.mul_le_mul_of_nonneg_left h1 hl
  rw [Int.mul_add, Int.mul_add, Int.mul_add] at h2
  have w : ∀ (j : Nat) (p : Int) (y : Int), (2 : Int) ^ (j + 1) = p → wlv lv j * y = p * (lv * y) := fun j p y hp => by
    unfold wlv
    rw [hp, Int.mul_comm lv p, Int.mul_assoc]
  rw [w 0 2 a rfl] at s0
  rw [w 1 4 b rfl] at s1
  rw [w 2 8 c rfl] at s2
  rw [w 3 16 e rfl] at s3
  omega
end Go.Proofs.Ytocolpbakaibnaa
