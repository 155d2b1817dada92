/- Plain laws: the theorem of power. -/
import Derived.Test.YtocolpbakaibnaaP8
namespace Go.Proofs.Ytocolpbakaibnaa
open Go.Cnt Go.Ev
/-- the weight of an outcome, where its verdict is v -/
def wv (d : Nat) (lv k : Int) (lo hi : Nat) (v : Int) (x : List Bool) : Int := if (decS (sts d lv x) d lo hi).1 = v then wtI d k x else 0
theorem wv_nonneg {d : Nat} {lv k : Int} {lo hi : Nat} {v : Int} (hk0 : 0 ≤ k) (hk1 : k ≤ d) (x : List Bool) : 0 ≤ wv d lv k lo hi v x := by
  unfold wv
  split
  · exact (wtI_bd hk0 hk1 x).1
  · exact Int.le_refl _
theorem wv_le {d : Nat} {lv k : Int} {lo hi : Nat} {v : Int} (hk0 : 0 ≤ k) (hk1 : k ≤ d) (x : List Bool) : wv d lv k lo hi v x ≤ wtI d k x := by
  have := (wtI_bd hk0 hk1 x).1
  unfold wv
  split <;> omega
theorem wv_sum {d : Nat} {lv k : Int} {lo hi : Nat} {v : Int} (hk0 : 0 ≤ k) (hk1 : k ≤ d) (n : Nat) {m : Nat} (hm : m ≤ 2 ^ n) : 0 ≤ sumN (fun b => wv d lv k lo hi v (outN n b)) m ∧ sumN (fun b => wv d lv k lo hi v (outN n b)) m ≤ (d : Int) ^ n := by
  refine ⟨sumN_nonneg (fun b => wv_nonneg hk0 hk1 _) m, ?_⟩
  refine Int.le_trans (sumN_mono (fun b => wv_nonneg hk0 hk1 _) hm) ?_
  rw [← tot_wt (D := (d : Int)) (k := k) n]
  exact sumN_le fun b _ => wv_le hk0 hk1 _
theorem powS_sum {d : Nat} {lv k : Int} {lo hi : Nat} {v : Int} (hk0 : 0 ≤ k) (hk1 : k ≤ d) (hD : 1 ≤ d) (n : Nat) (hb : (d : Int) ^ n ≤ 4611686018427387904) : ∀ m, m ≤ 2 ^ n → powS d lv k lo hi v (outsN n m) = sumN (fun b => wv d lv k lo hi v (outN n b)) m := by
  intro m
  induction m with
  | zero => intro _; rfl
  | succ m ih =>
    intro hm
    have hw := wtI_bd (D := (d : Int)) (k := k) hk0 hk1 (outN n m)
    have hs := wv_sum (lv := lv) (lo := lo) (hi := hi) (v := v) hk0 hk1 n (show m ≤ 2 ^ n by omega)
    rw [outsN_succ, powS_snoc, ih (by omega), ← sumW hb (fun b => wv_nonneg hk0 hk1 _) (wv_sum hk0 hk1 n (Nat.le_refl _)).2 (show m < 2 ^ n by omega), wtw_eq hk0 hk1 (by omega) (outN n m) (by rw [outN_len]; exact hb)]
    by_cases hv : (decS (sts d lv (outN n m)) d lo hi).1 = v
    · have e : wv d lv k lo hi v (outN n m) = wtI d k (outN n m) := by unfold wv; rw [if_pos hv]
      rw [e]
      by_cases h0 : 0 < wtI d k (outN n m)
      · rw [if_pos ⟨h0, hv⟩]
      · rw [if_neg (fun h => h0 h.1), show wtI d k (outN n m) = 0 by omega, Int.add_zero, w64_id (by omega) (by omega)]
    · have e : wv d lv k lo hi v (outN n m) = 0 := by unfold wv; rw [if_neg hv]
      rw [e, if_neg (fun h => hv h.2), Int.add_zero, w64_id (by omega) (by omega)]
theorem wv_all {d : Nat} {lv k : Int} {lo hi : Nat} (n : Nat) : sumN (fun b => wv d lv k lo hi 1 (outN n b)) (2 ^ n) + sumN (fun b => wv d lv k lo hi 2 (outN n b)) (2 ^ n) + sumN (fun b => wv d lv k lo hi 3 (outN n b)) (2 ^ n) = (d : Int) ^ n := by
  rw [← tot_wt (D := (d : Int)) (k := k) n, ← sumN_add, ← sumN_add]
  refine sumN_congr fun b _ => ?_
  unfold wv
  rcases decS_cases (sts d lv (outN n b)) d lo hi with h | h | h <;> rw [h] <;> simp
end Go.Proofs.Ytocolpbakaibnaa
