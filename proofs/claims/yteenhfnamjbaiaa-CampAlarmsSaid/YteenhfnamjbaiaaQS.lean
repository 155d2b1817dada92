/- From another seat: sums, powers. -/
import Derived.Test.YteenhfnamjbaiaaQC
import Derived.Test.YteenhfnamjbaiaaE1
namespace Go.Proofs.Yteenhfnamjbaiaa.Q
open Go.Cnt Go.Ev
theorem snoc_ind {P : List Bool → Prop} (h0 : P []) (h1 : ∀ xs x, P xs → P (xs ++ [x])) (xs : List Bool) : P xs := by
 have : ∀ ys : List Bool, P ys.reverse := by
  intro ys
  induction ys with
  | nil => exact h0
  | cons y ys ih => rw [List.reverse_cons]; exact h1 _ _ ih
 have := this xs.reverse
 rwa [List.reverse_reverse] at this
def sumN (g : Nat → Int) : Nat → Int
 | 0 => 0
 | m + 1 => sumN g m + g m
theorem sumN_congr {g h : Nat → Int} : ∀ {m : Nat}, (∀ b, b < m → g b = h b) → sumN g m = sumN h m := by
 intro m
 induction m with
 | zero => intro _; rfl
 | succ m ih => intro e; rw [sumN, sumN, ih fun b hb => e b (by omega), e m (by omega)]
theorem sumN_le {g h : Nat → Int} : ∀ {m : Nat}, (∀ b, b < m → g b ≤ h b) → sumN g m ≤ sumN h m := by
 intro m
 induction m with
 | zero => intro _; exact Int.le_refl _
 | succ m ih =>
  intro e
  have h1 := ih fun b hb => e b (by omega)
  have h2 := e m (by omega)
  rw [sumN, sumN]
  omega
theorem sumN_mul (c : Int) (g : Nat → Int) : ∀ m, sumN (fun b => c * g b) m = c * sumN g m := by
 intro m
 induction m with
 | zero => simp [sumN]
 | succ m ih => rw [sumN, sumN, ih, Int.mul_add]
theorem sumN_add (g h : Nat → Int) : ∀ m, sumN (fun b => g b + h b) m = sumN g m + sumN h m := by
 intro m
 induction m with
 | zero => simp [sumN]
 | succ m ih => rw [sumN, sumN, sumN, ih]; omega
theorem sumN_split (g : Nat → Int) (a : Nat) : ∀ b, sumN g (a + b) = sumN g a + sumN (fun i => g (a + i)) b := by
 intro b
 induction b with
 | zero => simp [sumN]
 | succ b ih => rw [← Nat.add_assoc, sumN, sumN, ih]; omega
/-- the sum over all outcomes of n slots -/
def tot (n : Nat) (f : List Bool → Int) : Int := sumN (fun b => f (outN n b)) (2 ^ n)
theorem outN_low {n b : Nat} (h : b < 2 ^ n) : outN (n + 1) b = outN n b ++ [false] := by
 rw [outN_succ, Nat.testBit_lt_two_pow h]
theorem outN_high {n b : Nat} (h : b < 2 ^ n) : outN (n + 1) (2 ^ n + b) = outN n b ++ [true] := by
 rw [outN_succ, Nat.testBit_two_pow_add_eq, Nat.testBit_lt_two_pow h]
 congr 1
 unfold outN
 refine List.map_congr_left fun j hj => ?_
 rw [Nat.testBit_two_pow_add_gt (List.mem_range.1 hj)]
theorem tot_succ (n : Nat) (f : List Bool → Int) : tot (n + 1) f = tot n (fun x => f (x ++ [false]) + f (x ++ [true])) := by
 unfold tot
 rw [show 2 ^ (n + 1) = 2 ^ n + 2 ^ n by rw [Nat.pow_succ]; omega, sumN_split, sumN_add]
 congr 1
 ·exact sumN_congr fun b hb => by rw [outN_low hb]
 ·exact sumN_congr fun b hb => by rw [outN_high hb]
theorem tot_le {n : Nat} {f g : List Bool → Int} (h : ∀ x, x.length = n → f x ≤ g x) : tot n f ≤ tot n g := sumN_le fun b _ => h _ (outN_len n b)
theorem tot_congr {n : Nat} {f g : List Bool → Int} (h : ∀ x, x.length = n → f x = g x) : tot n f = tot n g := sumN_congr fun b _ => h _ (outN_len n b)
theorem tot_mul (n : Nat) (c : Int) (f : List Bool → Int) : tot n (fun x => c * f x) = c * tot n f := sumN_mul c _ _
theorem tot_add (n : Nat) (f g : List Bool → Int) : tot n (fun x => f x + g x) = tot n f + tot n g := sumN_add _ _ _
/-- the weight of an outcome -/
def wtI (D k : Int) (xs : List Bool) : Int := xs.foldl (fun n x => n * (if x then k else D - k)) 1
theorem wtI_app (D k : Int) (xs : List Bool) (x : Bool) : wtI D k (xs ++ [x]) = wtI D k xs * (if x then k else D - k) := by
 unfold wtI
 rw [List.foldl_append]
 rfl
theorem wtI_bd {D k : Int} (hk0 : 0 ≤ k) (hk1 : k ≤ D) (xs : List Bool) : 0 ≤ wtI D k xs ∧ wtI D k xs ≤ D ^ xs.length := by
 induction xs using snoc_ind with
 | h0 => simp [wtI]
 | h1 xs x ih =>
  rw [wtI_app]
  have h0 : 0 ≤ (if x then k else D - k) ∧ (if x then k else D - k) ≤ D := by cases x <;> simp <;> omega
  have := mul_bd ih.1 h0.1 ih.2 h0.2
  rw [List.length_append, List.length_cons, List.length_nil, Int.pow_succ]
  exact this
theorem pow_mono {D : Int} (hD : 1 ≤ D) {a b : Nat} (h : a ≤ b) : D ^ a ≤ D ^ b := by
 induction b with
 | zero => rw [show a = 0 by omega]; exact Int.le_refl _
 | succ b ih =>
  by_cases e : a = b + 1
  ·rw [e]; exact Int.le_refl _
  ·have h1 := ih (by omega)
   have h2 : 0 ≤ D ^ b := Int.pow_nonneg (by omega)
   have h3 : D ^ b * 1 ≤ D ^ b * D := Int.mul_le_mul_of_nonneg_left hD h2
   rw [Int.pow_succ]
   omega
theorem pow_40 {d n : Nat} (hd : d ≤ 40) (hn : n ≤ 9) : (d : Int) ^ n ≤ 262144000000000 := by
 have h1 : d ^ n ≤ 40 ^ 9 := Nat.le_trans (Nat.pow_le_pow_left hd n) (Nat.pow_le_pow_right (by omega) hn)
 have h2 : ((d ^ n : Nat) : Int) = (d : Int) ^ n := by simp
 omega
theorem wtw_app (D k : Int) (xs : List Bool) (x : Bool) : wtw D k (xs ++ [x]) = w64 (wtw D k xs * (if x then k else w64 (D - k))) := by
 unfold wtw
 rw [List.foldl_append]
 rfl
/-- the machine reckons the weight without a wrap -/
theorem wtw_eq {D k : Int} (hk0 : 0 ≤ k) (hk1 : k ≤ D) (hD : 1 ≤ D) (xs : List Bool) : D ^ xs.length ≤ 4611686018427387904 → wtw D k xs = wtI D k xs := by
 induction xs using snoc_ind with
 | h0 => intro _; rfl
 | h1 xs x ih =>
  intro h
  have hlen : (xs ++ [x]).length = xs.length + 1 := by simp
  rw [hlen] at h
  have h1 := pow_mono hD (show 1 ≤ xs.length + 1 by omega)
  rw [Int.pow_one] at h1
  have h2 := pow_mono hD (show xs.length ≤ xs.length + 1 by omega)
  have hb := wtI_bd hk0 hk1 (xs ++ [x])
  rw [hlen] at hb
  rw [wtw_app, ih (by omega)]
  have e : w64 (D - k) = D - k := w64_id (by omega) (by omega)
  rw [e, ← wtI_app]
  exact w64_id (by omega) (by omega)
theorem sumN_nonneg {g : Nat → Int} (h : ∀ b, 0 ≤ g b) : ∀ m, 0 ≤ sumN g m := by
 intro m
 induction m with
 | zero => exact Int.le_refl _
 | succ m ih => have := h m; rw [sumN]; omega
theorem sumN_mono {g : Nat → Int} (h : ∀ b, 0 ≤ g b) {a : Nat} : ∀ {b : Nat}, a ≤ b → sumN g a ≤ sumN g b := by
 intro b
 induction b with
 | zero => intro e; rw [show a = 0 by omega]; exact Int.le_refl _
 | succ b ih =>
  intro e
  by_cases h1 : a = b + 1
  ·rw [h1]; exact Int.le_refl _
  ·have h2 := ih (by omega)
   have h3 := h b
   rw [sumN]
   omega
theorem tot_nonneg {n : Nat} {f : List Bool → Int} (h : ∀ x, 0 ≤ f x) : 0 ≤ tot n f := sumN_nonneg (fun _ => h _) _
/-- the weights and a bet that is fair, or worse: what the bets come to, over all outcomes -/
theorem tot_fair {D k : Int} (hk0 : 0 ≤ k) (hk1 : k ≤ D) {F : List Bool → Int} : ∀ (n : Nat), (∀ x, x.length < n → k * F (x ++ [true]) + (D - k) * F (x ++ [false]) ≤ D * F x) →
  tot n (fun x => wtI D k x * F x) ≤ D ^ n * F [] := by
 intro n
 induction n with
 | zero => intro _; simp [tot, sumN, outN, wtI]
 | succ n ih =>
  intro h
  rw [tot_succ]
  have h1 : tot n (fun x => wtI D k (x ++ [false]) * F (x ++ [false]) + wtI D k (x ++ [true]) * F (x ++ [true])) ≤ tot n (fun x => D * (wtI D k x * F x)) := by
   refine tot_le fun x hx => ?_
   rw [wtI_app, wtI_app]
   simp only [Bool.false_eq_true, if_false, if_true]
   have h2 := h x (by omega)
   have h3 := Int.mul_le_mul_of_nonneg_left h2 (wtI_bd hk0 hk1 x).1
   rw [Int.mul_add] at h3
   have e1 : wtI D k x * (D - k) * F (x ++ [false]) = wtI D k x * ((D - k) * F (x ++ [false])) := Int.mul_assoc _ _ _
   have e2 : wtI D k x * k * F (x ++ [true]) = wtI D k x * (k * F (x ++ [true])) := Int.mul_assoc _ _ _
   have e3 : D * (wtI D k x * F x) = wtI D k x * (D * F x) := by rw [← Int.mul_assoc, ← Int.mul_assoc, Int.mul_comm D]
   omega
  rw [tot_mul] at h1
  have h4 := ih fun x hx => h x (by omega)
  have h5 := Int.mul_le_mul_of_nonneg_left h4 (show 0 ≤ D by omega)
  have e4 : D ^ (n + 1) * F [] = D * (D ^ n * F []) := by rw [Int.pow_succ, Int.mul_comm (D ^ n) D, Int.mul_assoc]
  omega
/-- the weights of all outcomes -/
theorem tot_wt {D k : Int} : ∀ (n : Nat), tot n (fun x => wtI D k x) = D ^ n := by
 intro n
 induction n with
 | zero => simp [tot, sumN, outN, wtI]
 | succ n ih =>
  rw [tot_succ]
  have : tot n (fun x => wtI D k (x ++ [false]) + wtI D k (x ++ [true])) = tot n (fun x => D * wtI D k x) := by
   refine tot_congr fun x _ => ?_
   rw [wtI_app, wtI_app]
   simp only [Bool.false_eq_true, if_false, if_true]
   rw [← Int.mul_add, show D - k + k = D by omega, Int.mul_comm]
  rw [this, tot_mul, ih, Int.pow_succ, Int.mul_comm]
theorem sumW {g : Nat → Int} {N : Nat} {X : Int} (hX : X ≤ 4611686018427387904) (hg0 : ∀ b, 0 ≤ g b) (hs : sumN g N ≤ X) {b : Nat} (hb : b < N) : w64 (sumN g b + g b) = sumN g (b + 1) := by
 have h1 := sumN_mono hg0 (show b + 1 ≤ N by omega)
 have h2 := sumN_nonneg hg0 (b + 1)
 show w64 (sumN g (b + 1)) = sumN g (b + 1)
 exact w64_id (by omega) (by omega)
end Go.Proofs.Yteenhfnamjbaiaa.Q
namespace Go.Proofs.Yteenhfnamjbaiaa.Q
open Go.Cnt Go.Ev
/-- the weight of an outcome, where its verdict is v -/
def wv (d : Nat) (lv k : Int) (lo hi : Nat) (v : Int) (x : List Bool) : Int := if (decS (sts d lv x) d lo hi).1 = v then wtI d k x else 0
theorem wv_nonneg {d : Nat} {lv k : Int} {lo hi : Nat} {v : Int} (hk0 : 0 ≤ k) (hk1 : k ≤ d) (x : List Bool) : 0 ≤ wv d lv k lo hi v x := by
 unfold wv
 split
 ·exact (wtI_bd hk0 hk1 x).1
 ·exact Int.le_refl _
theorem wv_le {d : Nat} {lv k : Int} {lo hi : Nat} {v : Int} (hk0 : 0 ≤ k) (hk1 : k ≤ d) (x : List Bool) : wv d lv k lo hi v x ≤ wtI d k x := by
 have := (wtI_bd hk0 hk1 x).1
 unfold wv
 split <;> omega
theorem wv_sum {d : Nat} {lv k : Int} {lo hi : Nat} {v : Int} (hk0 : 0 ≤ k) (hk1 : k ≤ d) (n : Nat) {m : Nat} (hm : m ≤ 2 ^ n) : 0 ≤ sumN (fun b => wv d lv k lo hi v (outN n b)) m ∧ sumN (fun b => wv d lv k lo hi v (outN n b)) m ≤ (d : Int) ^ n := by
 refine ⟨sumN_nonneg (fun b => wv_nonneg hk0 hk1 _) m, ?_⟩
 refine Int.le_trans (sumN_mono (fun b => wv_nonneg hk0 hk1 _) hm) ?_
 rw [← tot_wt (D := (d : Int)) (k := k) n]
 exact sumN_le fun b _ => wv_le hk0 hk1 _
theorem powS_sum {d : Nat} {lv k : Int} {lo hi : Nat} {v : Int} (hk0 : 0 ≤ k) (hk1 : k ≤ d) (hD : 1 ≤ d) (n : Nat) (hb : (d : Int) ^ n ≤ 4611686018427387904) : ∀ m, m ≤ 2 ^ n → powS d lv k lo hi v (outsN n m) = sumN (fun b => wv d lv k lo hi v (outN n b)) m := by
 intro m
 induction m with
 | zero => intro _; rfl
 | succ m ih =>
  intro hm
  have hw := wtI_bd (D := (d : Int)) (k := k) hk0 hk1 (outN n m)
  have hs := wv_sum (lv := lv) (lo := lo) (hi := hi) (v := v) hk0 hk1 n (show m ≤ 2 ^ n by omega)
  rw [outsN_succ, powS_snoc, ih (by omega), ← sumW hb (fun b => wv_nonneg hk0 hk1 _) (wv_sum hk0 hk1 n (Nat.le_refl _)).2 (show m < 2 ^ n by omega), wtw_eq hk0 hk1 (by omega) (outN n m) (by rw [outN_len]; exact hb)]
  by_cases hv : (decS (sts d lv (outN n m)) d lo hi).1 = v
  ·have e : wv d lv k lo hi v (outN n m) = wtI d k (outN n m) := by unfold wv; rw [if_pos hv]
   rw [e]
   by_cases h0 : 0 < wtI d k (outN n m)
   ·rw [if_pos ⟨h0, hv⟩]
   ·rw [if_neg (fun h => h0 h.1), show wtI d k (outN n m) = 0 by omega, Int.add_zero, w64_id (by omega) (by omega)]
  ·have e : wv d lv k lo hi v (outN n m) = 0 := by unfold wv; rw [if_neg hv]
   rw [e, if_neg (fun h => hv h.2), Int.add_zero, w64_id (by omega) (by omega)]
theorem wv_all {d : Nat} {lv k : Int} {lo hi : Nat} (n : Nat) : sumN (fun b => wv d lv k lo hi 1 (outN n b)) (2 ^ n) + sumN (fun b => wv d lv k lo hi 2 (outN n b)) (2 ^ n) + sumN (fun b => wv d lv k lo hi 3 (outN n b)) (2 ^ n) = (d : Int) ^ n := by
 rw [← tot_wt (D := (d : Int)) (k := k) n, ← sumN_add, ← sumN_add]
 refine sumN_congr fun b _ => ?_
 unfold wv
 rcases decS_cases (sts d lv (outN n b)) d lo hi with h | h | h <;> rw [h] <;> simp
end Go.Proofs.Yteenhfnamjbaiaa.Q
