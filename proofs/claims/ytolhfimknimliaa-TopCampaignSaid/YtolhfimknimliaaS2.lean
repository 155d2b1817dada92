/- Plain laws: the theorem of chambers. -/
import Derived.Test.YtolhfimknimliaaS1
import Derived.Test.YtolhfimknimliaaQP
namespace Go.Proofs.Ytolhfimknimliaa.Q
open Go.Cnt Go.Ev
/-- the weights of all outcomes with a verdict, with some rate -/
def wrongW (D : Nat) (lv : Int) (lo hi : Nat) (v k : Int) (n : Nat) : Nat → Int := fun b => if (decS (sts D lv (outN n b)) D lo hi).1 = v then wtI D k (outN n b) else 0
theorem chamber {D : Nat} {lv : Int} (hl : 2 ≤ lv) {lo hi : Nat} (n : Nat) (k : Nat) (hk : k ≤ D) (v : Int) (hv : (v = 3 ∧ k ≤ lo) ∨ (v = 2 ∧ hi ≤ k)) :
    lv * sumN (wrongW D lv lo hi v k n) (2 ^ n) ≤ (D : Int) ^ n := by
  refine Int.le_trans ?_ (sure (D := (D : Int)) (lv := lv) (k := (k : Int)) (by omega) (by omega) n)
  refine Int.mul_le_mul_of_nonneg_left ?_ (by omega)
  refine sumN_le fun b _ => ?_
  unfold wrongW
  show (if _ then _ else _) ≤ (if _ then _ else _)
  have hw := (wtI_bd (D := (D : Int)) (k := (k : Int)) (by omega) (by omega) (outN n b)).1
  split
  · rename_i h
    have : (bst (D : Int) lv (k : Int) (outN n b)).out = true := by
      rcases hv with ⟨rfl, h1⟩ | ⟨rfl, h1⟩
      · exact dec_above h k h1
      · exact dec_below h k h1 hk
    rw [if_pos this]
    exact Int.le_refl _
  · split
    · exact hw
    · exact Int.le_refl _
end Go.Proofs.Ytolhfimknimliaa.Q
