/- Plain laws: a greater level keeps what a lesser one keeps; hits and other slots exchanged, each rate k is kept as Parts - k was. -/
import Derived.Test.YtocolpbakaibnaaK2
namespace Go.Proofs.Ytocolpbakaibnaa
open Go.Cnt
theorem firstN_all {p : Nat → Bool} : ∀ (m n : Nat), (∀ j, n ≤ j → j < n + m → p j = false) → firstN p n m = none := by
  intro m
  induction m with
  | zero => intro n _; rfl
  | succ m ih =>
    intro n h
    rw [firstN, if_neg (by rw [h n (Nat.le_refl _) (by omega)]; simp)]
    exact ih (n + 1) fun j h1 h2 => h j (by omega) (by omega)
theorem kp_ex {D : Nat} {lv : Int} (hl : 2 ≤ lv) (xs : List Bool) (k : Nat) : kp (sts D lv xs) k = (exN D lv k xs).isNone := by rw [kp_rkp hl]; rfl
theorem kp_greater {D : Nat} {lv gr : Int} (hl : 2 ≤ lv) (hg : lv ≤ gr) (xs : List Bool) (k : Nat) (h : kp (sts D lv xs) k = true) : kp (sts D gr xs) k = true := by
  rw [kp_ex hl] at h
  rw [kp_ex (by omega)]
  have h1 : exN (D : Int) lv k xs = none := by simpa using h
  have h2 := firstN_none _ _ h1
  have h3 : exN (D : Int) gr k xs = none := firstN_all _ _ fun j a b => by
    have := h2 j a b
    simp only [decide_eq_false_iff_not] at this ⊢
    omega
  rw [h3]; rfl
theorem hit_miss {c n h D k : Int} (hD : D ≠ 0) : hitC c n h D k = missC c n (n - h) D (D - k) := by
  unfold hitC missC
  by_cases h0 : k = 0
  · subst h0
    rw [if_pos rfl, if_neg (by omega), if_pos (by omega)]
  · rw [if_neg h0]
    by_cases h1 : k = D
    · rw [if_pos h1, if_pos (by omega)]
    · rw [if_neg h1, if_neg (by omega), if_neg (by omega), show n - (n - h) + 1 = h + 1 by omega, show D - (D - k) = k by omega]
theorem miss_hit {c n h D k : Int} (hD : D ≠ 0) : missC c n h D k = hitC c n (n - h) D (D - k) := by
  rw [hit_miss hD, show n - (n - h) = h by omega, show D - (D - k) = k by omega]
theorem cst_turn {D k : Int} (hD : D ≠ 0) (xs : List Bool) : (cst D (D - k) (xs.map (!·))).c = (cst D k xs).c ∧ (cst D (D - k) (xs.map (!·))).h = (cst D k xs).n - (cst D k xs).h ∧ (cst D (D - k) (xs.map (!·))).n = (cst D k xs).n := by
  induction xs using snoc_ind with
  | h0 => simp [cst, BS.new]
  | h1 xs x ih =>
    obtain ⟨h1, h2, h3⟩ := ih
    rw [List.map_append, List.map_cons, List.map_nil, cst_app, cst_app]
    generalize cst D (D - k) (xs.map (!·)) = s at *
    generalize cst D k xs = t at *
    refine ⟨?_, ?_, ?_⟩
    · show nextC s.c s.n s.h D (D - k) (!x) = nextC t.c t.n t.h D k x
      rw [h1, h2, h3]
      cases x
      · show hitC t.c t.n (t.n - t.h) D (D - k) = missC t.c t.n t.h D k
        exact (miss_hit hD).symm
      · show missC t.c t.n (t.n - t.h) D (D - k) = hitC t.c t.n t.h D k
        exact (hit_miss hD).symm
    · show s.h + b2i (!x) = t.n + 1 - (t.h + b2i x)
      rw [h2]
      cases x <;> simp [b2i] <;> omega
    · show s.n + 1 = t.n + 1
      rw [h3]
theorem ex_turn {D lv k : Int} (hD : D ≠ 0) (xs : List Bool) : exN D lv (D - k) (xs.map (!·)) = exN D lv k xs := by
  unfold exN
  rw [List.length_map]
  refine firstN_congr _ _ fun i _ _ => ?_
  rw [← List.map_take, (cst_turn hD (xs.take i)).1]
theorem kp_turn {D : Nat} {lv : Int} (hl : 2 ≤ lv) (hD : D ≠ 0) (xs : List Bool) (k : Nat) (hk : k ≤ D) : kp (sts D lv (xs.map (!·))) (D - k) = kp (sts D lv xs) k := by
  rw [kp_ex hl, kp_ex hl, show ((D - k : Nat) : Int) = (D : Int) - k by omega, ex_turn (by omega)]
theorem has_keptL {D : Nat} {lv : Int} {xs : List Bool} {k : Nat} (hk : k ≤ D) : hasL (keptL D lv xs) k = kp (sts D lv xs) k := by
  cases h : kp (sts D lv xs) k with
  | true => exact hasL_iff.2 ⟨k, rfl, by omega, h⟩
  | false =>
    cases h2 : hasL (keptL D lv xs) k with
    | false => rfl
    | true =>
      obtain ⟨j, e, _, h3⟩ := hasL_iff.1 h2
      have : k = j := by omega
      subst this
      rw [h] at h3
      cases h3
end Go.Proofs.Ytocolpbakaibnaa
