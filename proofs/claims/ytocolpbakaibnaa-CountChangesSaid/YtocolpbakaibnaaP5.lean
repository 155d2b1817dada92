/- Plain laws: sums over all outcomes, and the theorem of confidence. -/
import Derived.Test.YtocolpbakaibnaaP1
import Derived.Test.YtocolpbakaibnaaP4
namespace Go.Proofs.Ytocolpbakaibnaa
open Go.Cnt Go.Ev
def sumN (g : Nat → Int) : Nat → Int
  | 0 => 0
  | m + 1 => sumN g m + g m
theorem sumN_congr {g h : Nat → Int} : ∀ {m : Nat}, (∀ b, b < m → g b = h b) → sumN g m = sumN h m := by
  intro m
  induction m with
  | zero => intro _; rfl
  | succ m ih => intro e; rw [sumN, sumN, ih fun b hb => e b (by omega), e m (by omega)]
theorem sumN_le {g h : Nat → Int} : ∀ {m : Nat}, (∀ b, b < m → g b ≤ h b) → sumN g m ≤ sumN h m := by
  intro m
  induction m with
  | zero => intro _; exact Int.le_refl _
  | succ m ih =>
    intro e
    have h1 := ih fun b hb => e b (by omega)
    have h2 := e m (by omega)
    rw [sumN, sumN]
    omega
theorem sumN_mul (c : Int) (g : Nat → Int) : ∀ m, sumN (fun b => c * g b) m = c * sumN g m := by
  intro m
  induction m with
  | zero => simp [sumN]
  | succ m ih => rw [sumN, sumN, ih, Int.mul_add]
theorem sumN_add (g h : Nat → Int) : ∀ m, sumN (fun b => g b + h b) m = sumN g m + sumN h m := by
  intro m
  induction m with
  | zero => simp [sumN]
  | succ m ih => rw [sumN, sumN, sumN, ih]; omega
theorem sumN_split (g : Nat → Int) (a : Nat) : ∀ b, sumN g (a + b) = sumN g a + sumN (fun i => g (a + i)) b := by
  intro b
  induction b with
  | zero => simp [sumN]
  | succ b ih => rw [← Nat.add_assoc, sumN, sumN, ih]; omega
/-- the sum over all outcomes of n slots -/
def tot (n : Nat) (f : List Bool → Int) : Int := sumN (fun b => f (outN n b)) (2 ^ n)
theorem outN_low {n b : Nat} (h : b < 2 ^ n) : outN (n + 1) b = outN n b ++ [false] := by
  rw [outN_succ, Nat.testBit_lt_two_pow h]
theorem outN_high {n b : Nat} (h : b < 2 ^ n) : outN (n + 1) (2 ^ n + b) = outN n b ++ [true] := by
  rw [outN_succ, Nat.testBit_two_pow_add_eq, Nat.testBit_lt_two_pow h]
  congr 1
  unfold outN
  refine List.map_congr_left fun j hj => ?_
  rw [Nat.testBit_two_pow_add_gt (List.mem_range.1 hj)]
theorem tot_succ (n : Nat) (f : List Bool → Int) : tot (n + 1) f = tot n (fun x => f (x ++ [false]) + f (x ++ [true])) := by
  unfold tot
  rw [show 2 ^ (n + 1) = 2 ^ n + 2 ^ n by rw [Nat.pow_succ]; omega, sumN_split, sumN_add]
  congr 1
  · exact sumN_congr fun b hb => by rw [outN_low hb]
  · exact sumN_congr fun b hb => by rw [outN_high hb]
theorem tot_le {n : Nat} {f g : List Bool → Int} (h : ∀ x, x.length = n → f x ≤ g x) : tot n f ≤ tot n g := sumN_le fun b _ => h _ (outN_len n b)
theorem tot_congr {n : Nat} {f g : List Bool → Int} (h : ∀ x, x.length = n → f x = g x) : tot n f = tot n g := sumN_congr fun b _ => h _ (outN_len n b)
theorem tot_mul (n : Nat) (c : Int) (f : List Bool → Int) : tot n (fun x => c * f x) = c * tot n f := sumN_mul c _ _
theorem tot_add (n : Nat) (f g : List Bool → Int) : tot n (fun x => f x + g x) = tot n f + tot n g := sumN_add _ _ _
/-- the weight of an outcome -/
def wtI (D k : Int) (xs : List Bool) : Int := xs.foldl (fun n x => n * (if x then k else D - k)) 1
theorem wtI_app (D k : Int) (xs : List Bool) (x : Bool) : wtI D k (xs ++ [x]) = wtI D k xs * (if x then k else D - k) := by
  unfold wtI
  rw [List.foldl_append]
  rfl
theorem wtI_bd {D k : Int} (hk0 : 0 ≤ k) (hk1 : k ≤ D) (xs : List Bool) : 0 ≤ wtI D k xs ∧ wtI D k xs ≤ D ^ xs.length := by
  induction xs using snoc_ind with
  | h0 => simp [wtI]
  | h1 xs x ih =>
    rw [wtI_app]
    have h0 : 0 ≤ (if x then k else D - k) ∧ (if x then k else D - k) ≤ D := by cases x <;> simp <;> omega
    have := mul_bd ih.1 h0.1 ih.2 h0.2
    rw [List.length_append, List.length_cons, List.length_nil, Int.pow_succ]
    exact this
theorem pow_mono {D : Int} (hD : 1 ≤ D) {a b : Nat} (h : a ≤ b) : D ^ a ≤ D ^ b := by
  induction b with
  | zero => rw [show a = 0 by omega]; exact Int.le_refl _
  | succ b ih =>
    by_cases e : a = b + 1
    · rw [e]; exact Int.le_refl _
    · have h1 := ih (by omega)
      have h2 : 0 ≤ D ^ b := Int.pow_nonneg (by omega)
      have h3 : D ^ b * 1 ≤ D ^ b * D := Int.mul_le_mul_of_nonneg_left hD h2
      rw [Int.pow_succ]
      omega
theorem pow_40 {d n : Nat} (hd : d ≤ 40) (hn : n ≤ 9) : (d : Int) ^ n ≤ 262144000000000 := by
  have h1 : d ^ n ≤ 40 ^ 9 := Nat.le_trans (Nat.pow_le_pow_left hd n) (Nat.pow_le_pow_right (by omega) hn)
  have h2 : ((d ^ n : Nat) : Int) = (d : Int) ^ n := by simp
  omega
theorem wtw_app (D k : Int) (xs : List Bool) (x : Bool) : wtw D k (xs ++ [x]) = w64 (wtw D k xs * (if x then k else w64 (D - k))) := by
  unfold wtw
  rw [List.foldl_append]
  rfl
/-- the machine reckons the weight without a wrap -/
theorem wtw_eq {D k : Int} (hk0 : 0 ≤ k) (hk1 : k ≤ D) (hD : 1 ≤ D) (xs : List Bool) : D ^ xs.length ≤ 4611686018427387904 → wtw D k xs = wtI D k xs := by
  induction xs using snoc_ind with
  | h0 => intro _; rfl
  | h1 xs x ih =>
    intro h
    have hlen : (xs ++ [x]).length = xs.length + 1 := by simp
    rw [hlen] at h
    have h1 := pow_mono hD (show 1 ≤ xs.length + 1 by omega)
    rw [Int.pow_one] at h1
    have h2 := pow_mono hD (show xs.length ≤ xs.length + 1 by omega)
    have hb := wtI_bd hk0 hk1 (xs ++ [x])
    rw [hlen] at hb
    rw [wtw_app, ih (by omega)]
    have e : w64 (D - k) = D - k := w64_id (by omega) (by omega)
    rw [e, ← wtI_app]
    exact w64_id (by omega) (by omega)
theorem sumN_nonneg {g : Nat → Int} (h : ∀ b, 0 ≤ g b) : ∀ m, 0 ≤ sumN g m := by
  intro m
  induction m with
  | zero => exact Int.le_refl _
  | succ m ih => have := h m; rw [sumN]; omega
theorem sumN_mono {g : Nat → Int} (h : ∀ b, 0 ≤ g b) {a : Nat} : ∀ {b : Nat}, a ≤ b → sumN g a ≤ sumN g b := by
  intro b
  induction b with
  | zero => intro e; rw [show a = 0 by omega]; exact Int.le_refl _
  | succ b ih =>
    intro e
    by_cases h1 : a = b + 1
    · rw [h1]; exact Int.le_refl _
    · have h2 := ih (by omega)
      have h3 := h b
      rw [sumN]
      omega
theorem tot_nonneg {n : Nat} {f : List Bool → Int} (h : ∀ x, 0 ≤ f x) : 0 ≤ tot n f := sumN_nonneg (fun _ => h _) _
/-- the weights and a bet that is fair, or worse: what the bets come to, over all outcomes -/
theorem tot_fair {D k : Int} (hk0 : 0 ≤ k) (hk1 : k ≤ D) {F : List Bool → Int} : ∀ (n : Nat), (∀ x, x.length < n → k * F (x ++ [true]) + (D - k) * F (x ++ [false]) ≤ D * F x) →
    tot n (fun x => wtI D k x * F x) ≤ D ^ n * F [] := by
  intro n
  induction n with
  | zero => intro _; simp [tot, sumN, outN, wtI]
  | succ n ih =>
    intro h
    rw [tot_succ]
    have h1 : tot n (fun x => wtI D k (x ++ [false]) * F (x ++ [false]) + wtI D k (x ++ [true]) * F (x ++ [true])) ≤ tot n (fun x => D * (wtI D k x * F x)) := by
      refine tot_le fun x hx => ?_
      rw [wtI_app, wtI_app]
      simp only [Bool.false_eq_true, if_false, if_true]
      have h2 := h x (by omega)
      have h3 := Int.mul_le_mul_of_nonneg_left h2 (wtI_bd hk0 hk1 x).1
      rw [Int.mul_add] at h3
      have e1 : wtI D k x * (D - k) * F (x ++ [false]) = wtI D k x * ((D - k) * F (x ++ [false])) := Int.mul_assoc _ _ _
      have e2 : wtI D k x * k * F (x ++ [true]) = wtI D k x * (k * F (x ++ [true])) := Int.mul_assoc _ _ _
      have e3 : D * (wtI D k x * F x) = wtI D k x * (D * F x) := by rw [← Int.mul_assoc, ← Int.mul_assoc, Int.mul_comm D]
      omega
    rw [tot_mul] at h1
    have h4 := ih fun x hx => h x (by omega)
    have h5 := Int.mul_le_mul_of_nonneg_left h4 (show 0 ≤ D by omega)
    have e4 : D ^ (n + 1) * F [] = D * (D ^ n * F []) := by rw [Int.pow_succ, Int.mul_comm (D ^ n) D, Int.mul_assoc]
    omega
/-- the weights of all outcomes -/
theorem tot_wt {D k : Int} : ∀ (n : Nat), tot n (fun x => wtI D k x) = D ^ n := by
  intro n
  induction n with
  | zero => simp [tot, sumN, outN, wtI]
  | succ n ih =>
    rw [tot_succ]
    have : tot n (fun x => wtI D k (x ++ [false]) + wtI D k (x ++ [true])) = tot n (fun x => D * wtI D k x) := by
      refine tot_congr fun x _ => ?_
      rw [wtI_app, wtI_app]
      simp only [Bool.false_eq_true, if_false, if_true]
      rw [← Int.mul_add, show D - k + k = D by omega, Int.mul_comm]
    rw [this, tot_mul, ih, Int.pow_succ, Int.mul_comm]
theorem fair_all {c n h D k : Int} (hc : 0 ≤ c) (hn : 0 ≤ n) (hk0 : 0 ≤ k) (hk1 : k ≤ D) : k * hitC c n h D k + (D - k) * missC c n h D k ≤ D * c := by
  by_cases h0 : k = 0
  · subst h0
    have : missC c n h D 0 = c := by unfold missC; rw [if_pos rfl]
    rw [this]
    simp
  · by_cases h1 : k = D
    · subst h1
      have : hitC c n h k k = c := by unfold hitC; rw [if_neg h0, if_pos rfl]
      rw [this]
      simp
    · exact fair hc hn (by omega) (by omega)
/-- the bet of the program, stopped where it excludes, is fair, or worse -/
theorem bst_fair {D lv k : Int} (hk0 : 0 ≤ k) (hk1 : k ≤ D) (x : List Bool) : k * (bst D lv k (x ++ [true])).c + (D - k) * (bst D lv k (x ++ [false])).c ≤ D * (bst D lv k x).c := by
  rw [bst_app, bst_app]
  have hok := bst_ok (D := D) (lv := lv) (k := k) (by omega) hk0 hk1 x
  generalize bst D lv k x = s at *
  cases ho : s.out with
  | true =>
    have e : ∀ b, bstep D lv k s b = s := fun b => by rw [bstep, if_pos ho]
    rw [e, e, ← Int.add_mul, show k + (D - k) = D by omega]
    exact Int.le_refl _
  | false =>
    have e : ∀ b, (bstep D lv k s b).c = nextC s.c s.n s.h D k b := fun b => by
      unfold bstep
      rw [if_neg (by rw [ho]; simp)]
      split <;> rfl
    rw [e, e]
    exact fair_all hok.1 (by have := hok.2.2.1; have := hok.2.2.2.1; omega) hk0 hk1
/-- where it excludes, it has the level -/
theorem bst_level {D lv k : Int} (x : List Bool) (h : (bst D lv k x).out = true) : lv * 1048576 ≤ (bst D lv k x).c := by
  induction x using snoc_ind with
  | h0 => cases h
  | h1 x b ih =>
    rw [bst_app] at h ⊢
    cases ho : (bst D lv k x).out with
    | true =>
      rw [bstep, if_pos ho]
      exact ih ho
    | false =>
      by_cases hc : lv * 1048576 ≤ (bnext D k (bst D lv k x) b).c
      · rw [bstep_yes ho hc]; exact hc
      · rw [bstep_no ho hc] at h
        have : (bnext D k (bst D lv k x) b).out = (bst D lv k x).out := rfl
        rw [this, ho] at h
        cases h
/-- the theorem of confidence -/
theorem sure {D lv k : Int} (hk0 : 0 ≤ k) (hk1 : k ≤ D) (n : Nat) : lv * tot n (fun x => if (bst D lv k x).out then wtI D k x else 0) ≤ D ^ n := by
  have h1 := tot_fair hk0 hk1 (F := fun x => (bst D lv k x).c) n fun x _ => bst_fair hk0 hk1 x
  have h2 : tot n (fun x => (lv * 1048576) * (if (bst D lv k x).out then wtI D k x else 0)) ≤ tot n (fun x => wtI D k x * (bst D lv k x).c) := by
    refine tot_le fun x _ => ?_
    have hw := (wtI_bd hk0 hk1 x).1
    have hc := (bst_ok (D := D) (lv := lv) (k := k) (by omega) hk0 hk1 x).1
    by_cases ho : (bst D lv k x).out = true
    · rw [if_pos ho, Int.mul_comm]
      exact Int.mul_le_mul_of_nonneg_left (bst_level x ho) hw
    · rw [if_neg ho, Int.mul_zero]
      exact Int.mul_nonneg hw hc
  rw [tot_mul] at h2
  have h3 : (bst D lv k []).c = 1048576 := rfl
  simp only [h3] at h1
  have h4 : lv * 1048576 * tot n (fun x => if (bst D lv k x).out then wtI D k x else 0) = (lv * tot n (fun x => if (bst D lv k x).out then wtI D k x else 0)) * 1048576 := by
    rw [Int.mul_assoc, Int.mul_assoc, Int.mul_comm 1048576]
  omega
end Go.Proofs.Ytocolpbakaibnaa
