/- The plain law of hits: a site tells a chamber never more often than it has a hit; a choice never more often than some of its sites has one. -/
import Derived.Test.YtolhfimknimliaaKM
namespace Go.Proofs.Ytolhfimknimliaa.K
open Go.Camp (Cp CpOk ChOk Site SiteOk Sites costP siteAt siteAt_ok SlOk)
theorem no_hit {D : Int} (hD : 1 ≤ D) (lv : Int) (x : List Bool) : Q.hitsL x = 0 → (Go.Cnt.bst D lv 0 x).c ≤ 1048576 := by
  refine Q.snoc_ind (P := fun x => Q.hitsL x = 0 → (Go.Cnt.bst D lv 0 x).c ≤ 1048576) (fun _ => Int.le_refl _) (fun x b ih h => ?_) x
  rw [Q.hitsL_app] at h
  cases b with
  | true => simp at h
  | false =>
    have hx : Q.hitsL x = 0 := by simpa using h
    have h1 := Q.bst_fair (D := D) (lv := lv) (k := 0) (Int.le_refl _) (by omega) x
    rw [Int.zero_mul, Int.zero_add, Int.sub_zero] at h1
    have h2 := Int.le_of_mul_le_mul_left h1 (by omega)
    have h3 := ih hx
    omega
theorem abv_hit {c : Cp} (hc : CpOk c) (s : Nat) {i : Int} (i0 : 0 ≤ i) (i1 : i < c.sites.length) {lv : Int} (hlv : 2 ≤ lv) (e : Bool) : abvP c s (i, lv, e) ≤ Q.tailT c.parts (rateP (siteAt c i) e) s 1 := by
  have hx := (siteAt_ok hc i0 i1).2
  have hrb := rate_bd hx e
  have hp := hc.p0
  have x3 := hx.l0
  have e1 : ((c.parts.toNat : Nat) : Int) = c.parts := by omega
  show Q.tot s (fun b => Q.wv c.parts.toNat lv (rateP (siteAt c i) e) (siteAt c i).lo.toNat (siteAt c i).hi.toNat 3 b) ≤ _
  unfold Q.tailT
  refine Q.tot_le fun x _ => ?_
  unfold Q.wv
  rw [e1]
  by_cases hd : (Q.decS (Q.sts c.parts.toNat lv x) c.parts.toNat (siteAt c i).lo.toNat (siteAt c i).hi.toNat).1 = 3
  · rw [if_pos hd]
    have h2 := Q.dec_above hd 0 (Nat.zero_le _)
    have h3 : lv * 1048576 ≤ (Go.Cnt.bst (c.parts.toNat : Int) lv ((0 : Nat) : Int) x).c := Q.bst_level x h2
    have h4 : (1 : Int) ≤ (Q.hitsL x : Int) := by
      rcases Nat.eq_zero_or_pos (Q.hitsL x) with h0 | h0
      · have := no_hit (D := (c.parts.toNat : Int)) (by omega) lv x h0
        have h5 : (Go.Cnt.bst (c.parts.toNat : Int) lv ((0 : Nat) : Int) x).c ≤ 1048576 := this
        omega
      · omega
    rw [if_pos h4]
    exact Int.le_refl _
  · rw [if_neg hd]
    split
    · exact (Q.wtI_bd hrb.1 hrb.2 x).1
    · exact Int.le_refl _
theorem tail_all (D k : Int) (n : Nat) : Q.tailT D k n 0 = D ^ n := by
  rw [← Q.tot_wt (D := D) (k := k) n]
  unfold Q.tailT
  refine Q.tot_congr fun x _ => ?_
  rw [if_pos (by omega)]
theorem tail_bd {D k : Int} (hk0 : 0 ≤ k) (hk1 : k ≤ D) (n : Nat) : 0 ≤ Q.tailT D k n 1 ∧ Q.tailT D k n 1 ≤ D ^ n := by
  refine ⟨?_, ?_⟩
  · unfold Q.tailT
    refine Q.tot_nonneg fun x => ?_
    split
    · exact (Q.wtI_bd hk0 hk1 x).1
    · exact Int.le_refl _
  · rw [← tail_all D k n]
    exact Q.tailT_less hk0 hk1 n 1
/-- no site of a list has a hit -/
def noneP (c : Cp) (s : Nat) (l : List Int) : Int := l.foldl (fun a i => a * (c.parts ^ s - Q.tailT c.parts (siteAt c i).tru s 1)) 1
theorem none_le {P : Int} (a n : Int → Int) : ∀ l : List Int, (∀ i ∈ l, 0 ≤ a i ∧ a i ≤ n i ∧ n i ≤ P) →
    0 ≤ l.foldl (fun x i => x * (P - n i)) 1 ∧ l.foldl (fun x i => x * (P - n i)) 1 ≤ l.foldl (fun x i => x * (P - a i)) 1 := by
  have key : ∀ l : List Int, (∀ i ∈ l.reverse, 0 ≤ a i ∧ a i ≤ n i ∧ n i ≤ P) →
      0 ≤ l.reverse.foldl (fun x i => x * (P - n i)) 1 ∧ l.reverse.foldl (fun x i => x * (P - n i)) 1 ≤ l.reverse.foldl (fun x i => x * (P - a i)) 1 := by
    intro l
    induction l with
    | nil => intro _; simp
    | cons i l ih =>
      intro h
      rw [List.reverse_cons] at h ⊢
      obtain ⟨i1, i2⟩ := ih fun j hj => h j (List.mem_append_left _ hj)
      obtain ⟨a0, a1, a2⟩ := h i (by simp)
      rw [List.foldl_append, List.foldl_append]
      simp only [List.foldl_cons, List.foldl_nil]
      generalize l.reverse.foldl (fun x i => x * (P - n i)) 1 = S at *
      generalize l.reverse.foldl (fun x i => x * (P - a i)) 1 = T at *
      have h1 : S * (P - n i) ≤ T * (P - n i) := Int.mul_le_mul_of_nonneg_right i2 (by omega)
      have h2 : T * (P - n i) ≤ T * (P - a i) := Int.mul_le_mul_of_nonneg_left (by omega) (by omega)
      exact ⟨Int.mul_nonneg i1 (by omega), by omega⟩
  intro l
  have := key l.reverse
  rw [List.reverse_reverse] at this
  exact this
theorem all_le (P : Int) (n : Int → Int) : ∀ l : List Int, (∀ i ∈ l, 0 ≤ n i ∧ n i ≤ P) → 0 ≤ P → l.foldl (fun x i => x * (P - n i)) 1 ≤ P ^ l.length := by
  intro l h hP
  have := (none_le (P := P) (fun _ => 0) n l fun i hi => ⟨Int.le_refl _, h i hi⟩).2
  have e : ∀ (l : List Int) (x : Int), l.foldl (fun x _ => x * (P - 0)) x = x * P ^ l.length := by
    intro l
    induction l with
    | nil => intro x; simp
    | cons i l ih => intro x; rw [List.foldl_cons, ih, List.length_cons, Int.pow_succ, Int.sub_zero, Int.mul_assoc, Int.mul_comm P]
  rw [e l 1, Int.one_mul] at this
  exact this
theorem odds_hit {c : Cp} (hc : CpOk c) (s : Nat) {l : List Int} (hl : LsOk c l) : (oddsP c s false l).1 ≤ (c.parts ^ s) ^ l.length - noneP c s l ∧ 0 ≤ noneP c s l ∧ noneP c s l ≤ (c.parts ^ s) ^ l.length := by
  obtain ⟨hs, n1, n3⟩ := hl
  have hv := hc.v0
  have hp := hc.p0
  have hP1 := pow_pos' (D := c.parts) (by omega) s
  have hlv : 2 ≤ c.level * (l.length : Int) := by
    have : c.level * 1 ≤ c.level * (l.length : Int) := Int.mul_le_mul_of_nonneg_left (by omega) (by omega)
    omega
  have hb : ∀ i ∈ l, 0 ≤ abvP c s (i, c.level * (l.length : Int), false) ∧ abvP c s (i, c.level * (l.length : Int), false) ≤ Q.tailT c.parts (siteAt c i).tru s 1 ∧ Q.tailT c.parts (siteAt c i).tru s 1 ≤ c.parts ^ s := fun i hi => by
    obtain ⟨i0, i1⟩ := hs i hi
    have hx := (siteAt_ok hc i0 i1).2
    exact ⟨(abvP_bd hc s i0 i1 _ _).1, abv_hit hc s i0 i1 hlv false, (tail_bd hx.t0 hx.t1 s).2⟩
  obtain ⟨h1, h2⟩ := none_le (P := c.parts ^ s) (fun i => abvP c s (i, c.level * (l.length : Int), false)) (fun i => Q.tailT c.parts (siteAt c i).tru s 1) l hb
  refine ⟨?_, h1, all_le _ _ l (fun i hi => ⟨by have := hb i hi; omega, (hb i hi).2.2⟩) (by omega)⟩
  show (c.parts ^ s) ^ l.length - silP c s (c.level * l.length) false l ≤ _
  have : noneP c s l ≤ silP c s (c.level * (l.length : Int)) false l := h2
  omega
end Go.Proofs.Ytolhfimknimliaa.K
