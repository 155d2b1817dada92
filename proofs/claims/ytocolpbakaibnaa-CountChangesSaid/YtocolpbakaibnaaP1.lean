/- Plain laws of the bet: it is fair, or worse. -/
import Derived.Test.YtocolpbakaibnaaSpec
namespace Go.Cnt
theorem mul_ediv_le {k X m : Int} (hk : 0 < k) (hm : 0 < m) : k * (X / (m * k)) ≤ X / m := by
  have h1 : X / (m * k) = X / m / k := by rw [Int.ediv_ediv_of_nonneg (by omega)]
  rw [h1, Int.mul_comm]
  exact Int.ediv_mul_le _ (by omega)
theorem add_ediv_le {a b m : Int} (hm : 0 < m) : a / m + b / m ≤ (a + b) / m := by
  rw [Int.le_ediv_iff_mul_le hm, Int.add_mul]
  have h1 := Int.ediv_mul_le a (b := m) (by omega)
  have h2 := Int.ediv_mul_le b (b := m) (by omega)
  omega
/-- the bet is fair, or worse -/
theorem fair {c n h D k : Int} (_hc : 0 ≤ c) (hn : 0 ≤ n) (hk0 : 0 < k) (hk1 : k < D) : k * hitC c n h D k + (D - k) * missC c n h D k ≤ D * c := by
  have a1 : hitC c n h D k ≤ c * (h + 1) * D / ((n + 2) * k) := by
    unfold hitC
    rw [if_neg (by omega), if_neg (by omega)]
    omega
  have a2 : missC c n h D k ≤ c * (n - h + 1) * D / ((n + 2) * (D - k)) := by
    unfold missC
    rw [if_neg (by omega), if_neg (by omega)]
    omega
  have b1 : k * hitC c n h D k ≤ c * (h + 1) * D / (n + 2) := Int.le_trans (Int.mul_le_mul_of_nonneg_left a1 (by omega)) (mul_ediv_le hk0 (by omega))
  have b2 : (D - k) * missC c n h D k ≤ c * (n - h + 1) * D / (n + 2) := Int.le_trans (Int.mul_le_mul_of_nonneg_left a2 (by omega)) (mul_ediv_le (by omega) (by omega))
  have b3 := add_ediv_le (a := c * (h + 1) * D) (b := c * (n - h + 1) * D) (m := n + 2) (by omega)
  have e : c * (h + 1) * D + c * (n - h + 1) * D = D * c * (n + 2) := by
    rw [← Int.add_mul, ← Int.mul_add, show h + 1 + (n - h + 1) = n + 2 by omega, Int.mul_comm (c * (n + 2)) D, Int.mul_assoc]
  rw [e, Int.mul_ediv_cancel _ (by omega)] at b3
  omega
end Go.Cnt
