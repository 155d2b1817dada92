/- The plain law of alarms: without a chamber, a choice tells one with odds of at most 1 / level; one slot more never makes the power less. -/
import Derived.Test.YteenhfnamjbaiaaV3
import Derived.Test.YteenhfnamjbaiaaQP
namespace Go.Proofs.Yteenhfnamjbaiaa
open Go.Camp (Cp CpOk ChOk Site SiteOk Sites costP siteAt siteAt_ok SlOk)
theorem abv_alarm {c : Cp} (hc : CpOk c) (s : Nat) {i : Int} (i0 : 0 ≤ i) (i1 : i < c.sites.length) {lv : Int} (hlv : 0 ≤ lv) (e : Bool) (hr : rateP (siteAt c i) e ≤ (siteAt c i).lo) : lv * abvP c s (i, lv, e) ≤ c.parts ^ s := by
 have hx := (siteAt_ok hc i0 i1).2
 have hrb := rate_bd hx e
 have hp := hc.p0
 have e1 : ((c.parts.toNat : Nat) : Int) = c.parts := by omega
 have e2 : (((rateP (siteAt c i) e).toNat : Nat) : Int) = rateP (siteAt c i) e := by omega
 have hsure := Q.sure (D := (c.parts.toNat : Int)) (lv := lv) (k := ((rateP (siteAt c i) e).toNat : Int)) (by omega) (by omega) s
 rw [e1] at hsure
 refine Int.le_trans (Int.mul_le_mul_of_nonneg_left ?_ hlv) hsure
 show Q.tot s (fun b => Q.wv c.parts.toNat lv (rateP (siteAt c i) e) (siteAt c i).lo.toNat (siteAt c i).hi.toNat 3 b) ≤ _
 refine Q.tot_le fun x _ => ?_
 unfold Q.wv
 rw [e1, e2]
 by_cases hd : (Q.decS (Q.sts c.parts.toNat lv x) c.parts.toNat (siteAt c i).lo.toNat (siteAt c i).hi.toNat).1 = 3
 ·rw [if_pos hd]
  have := Q.dec_above hd (rateP (siteAt c i) e).toNat (by omega)
  have h2 : (Go.Cnt.bst c.parts lv (rateP (siteAt c i) e) x).out = true := by
   rw [← e1, ← e2]
   exact this
  rw [if_pos h2]
  exact Int.le_refl _
 ·rw [if_neg hd]
  split
  ·exact (Q.wtI_bd hrb.1 hrb.2 x).1
  ·exact Int.le_refl _
theorem abv_more {c : Cp} (hc : CpOk c) (s : Nat) {i : Int} (i0 : 0 ≤ i) (i1 : i < c.sites.length) {lv : Int} (hlv : 2 ≤ lv) (e : Bool) : c.parts * abvP c s (i, lv, e) ≤ abvP c (s + 1) (i, lv, e) := by
 have hx := (siteAt_ok hc i0 i1).2
 have hrb := rate_bd hx e
 have hp := hc.p0
 have x3 := hx.l0; have x4 := hx.lh; have x5 := hx.h1
 have e1 : ((c.parts.toNat : Nat) : Int) = c.parts := by omega
 show c.parts * Q.tot s (fun b => Q.wv c.parts.toNat lv (rateP (siteAt c i) e) (siteAt c i).lo.toNat (siteAt c i).hi.toNat 3 b) ≤ Q.tot (s + 1) (fun b => Q.wv c.parts.toNat lv (rateP (siteAt c i) e) (siteAt c i).lo.toNat (siteAt c i).hi.toNat 3 b)
 rw [Q.tot_succ, ← Q.tot_mul]
 refine Q.tot_le fun x _ => ?_
 have hn := fun b : Bool => Q.wv_nonneg (d := c.parts.toNat) (lv := lv) (k := rateP (siteAt c i) e) (lo := (siteAt c i).lo.toNat) (hi := (siteAt c i).hi.toNat) (v := 3) hrb.1 (by omega) (x ++ [b])
 have h0 := hn false
 have h1 := hn true
 by_cases hd : (Q.decS (Q.sts c.parts.toNat lv x) c.parts.toNat (siteAt c i).lo.toNat (siteAt c i).hi.toNat).1 = 3
 ·have st := fun b : Bool => Q.dec_stays hlv x [b] (lo := (siteAt c i).lo.toNat) (hi := (siteAt c i).hi.toNat) (D := c.parts.toNat) (by omega) (by omega) (by omega)
  unfold Q.wv
  rw [st false, st true, if_pos hd, if_pos hd, if_pos hd, Q.wtI_app, Q.wtI_app, e1]
  simp only [Bool.false_eq_true, if_false, if_true]
  rw [← Int.mul_add, Int.sub_add_cancel, Int.mul_comm]
  exact Int.le_refl _
 ·have : Q.wv c.parts.toNat lv (rateP (siteAt c i) e) (siteAt c i).lo.toNat (siteAt c i).hi.toNat 3 x = 0 := by unfold Q.wv; rw [if_neg hd]
  rw [this]
  omega
/-- all are silent: a bound for lists of sites -/
theorem sil_union {P lv : Int} (hP : 0 ≤ P) (a : Int → Int) : ∀ l : List Int, (∀ i ∈ l, 0 ≤ a i ∧ a i ≤ P ∧ lv * a i ≤ P) →
  (0 ≤ l.foldl (fun x i => x * (P - a i)) 1 ∧ l.foldl (fun x i => x * (P - a i)) 1 ≤ P ^ l.length) ∧ lv * (P ^ l.length - l.foldl (fun x i => x * (P - a i)) 1) ≤ l.length * P ^ l.length := by
 have key : ∀ l : List Int, (∀ i ∈ l.reverse, 0 ≤ a i ∧ a i ≤ P ∧ lv * a i ≤ P) →
  (0 ≤ l.reverse.foldl (fun x i => x * (P - a i)) 1 ∧ l.reverse.foldl (fun x i => x * (P - a i)) 1 ≤ P ^ l.reverse.length) ∧ lv * (P ^ l.reverse.length - l.reverse.foldl (fun x i => x * (P - a i)) 1) ≤ l.reverse.length * P ^ l.reverse.length := by
  intro l
  induction l with
  | nil => intro _; simp
  | cons i l ih =>
   intro h
   rw [List.reverse_cons] at h ⊢
   obtain ⟨⟨i1, i2⟩, i3⟩ := ih fun j hj => h j (List.mem_append_left _ hj)
   obtain ⟨a0, a1, a2⟩ := h i (by simp)
   rw [List.foldl_append, List.length_append]
   simp only [List.foldl_cons, List.foldl_nil, List.length_cons, List.length_nil, Nat.zero_add]
   generalize l.reverse.foldl (fun x i => x * (P - a i)) 1 = S at *
   generalize l.reverse.length = j at *
   have hPj : P ^ (j + 1) = P ^ j * P := Int.pow_succ _ _
   have hSP : S * P ≤ P ^ j * P := Int.mul_le_mul_of_nonneg_right i2 hP
   have hSA : S * (P - a i) ≤ S * P := Int.mul_le_mul_of_nonneg_left (by omega) i1
   have hS0 : 0 ≤ S * (P - a i) := Int.mul_nonneg i1 (by omega)
   refine ⟨⟨hS0, by omega⟩, ?_⟩
   have e1 : lv * (P ^ (j + 1) - S * (P - a i)) = lv * (P ^ j - S) * P + S * (lv * a i) := by
    rw [hPj]
    simp only [Int.mul_sub, Int.sub_mul]
    have h1 : lv * (P ^ j * P) = lv * P ^ j * P := (Int.mul_assoc _ _ _).symm
    have h2 : lv * (S * P) = lv * S * P := (Int.mul_assoc _ _ _).symm
    have h3 : lv * (S * a i) = S * (lv * a i) := Int.mul_left_comm _ _ _
    omega
   have e2 : lv * (P ^ j - S) * P ≤ (j : Int) * P ^ j * P := Int.mul_le_mul_of_nonneg_right i3 hP
   have e3 : S * (lv * a i) ≤ S * P := Int.mul_le_mul_of_nonneg_left a2 i1
   have e4 : (((j + 1 : Nat) : Nat) : Int) * P ^ (j + 1) = (j : Int) * P ^ j * P + P ^ j * P := by
    rw [hPj, Int.natCast_add, Int.add_mul, Int.mul_assoc]
    simp
   rw [e1, e4]
   omega
 intro l
 have := key l.reverse
 rw [List.reverse_reverse] at this
 exact this
theorem sil_more {P D : Int} (hD : 0 ≤ D) (a b : Int → Int) : ∀ l : List Int, (∀ i ∈ l, 0 ≤ a i ∧ a i ≤ P ∧ D * a i ≤ b i ∧ b i ≤ D * P) →
  0 ≤ l.foldl (fun x i => x * (P - a i)) 1 ∧ l.foldl (fun x i => x * (D * P - b i)) 1 ≤ D ^ l.length * l.foldl (fun x i => x * (P - a i)) 1 ∧ 0 ≤ l.foldl (fun x i => x * (D * P - b i)) 1 := by
 have key : ∀ l : List Int, (∀ i ∈ l.reverse, 0 ≤ a i ∧ a i ≤ P ∧ D * a i ≤ b i ∧ b i ≤ D * P) →
  0 ≤ l.reverse.foldl (fun x i => x * (P - a i)) 1 ∧ l.reverse.foldl (fun x i => x * (D * P - b i)) 1 ≤ D ^ l.reverse.length * l.reverse.foldl (fun x i => x * (P - a i)) 1 ∧ 0 ≤ l.reverse.foldl (fun x i => x * (D * P - b i)) 1 := by
  intro l
  induction l with
  | nil => intro _; simp
  | cons i l ih =>
   intro h
   rw [List.reverse_cons] at h ⊢
   obtain ⟨i1, i2, i3⟩ := ih fun j hj => h j (List.mem_append_left _ hj)
   obtain ⟨a0, a1, a2, a3⟩ := h i (by simp)
   rw [List.foldl_append, List.foldl_append, List.length_append]
   simp only [List.foldl_cons, List.foldl_nil, List.length_cons, List.length_nil, Nat.zero_add]
   generalize l.reverse.foldl (fun x i => x * (P - a i)) 1 = S at *
   generalize l.reverse.foldl (fun x i => x * (D * P - b i)) 1 = T at *
   generalize l.reverse.length = j at *
   have hDj : D ^ (j + 1) = D ^ j * D := Int.pow_succ _ _
   have h1 : 0 ≤ S * (P - a i) := Int.mul_nonneg i1 (by omega)
   have h2 : 0 ≤ T * (D * P - b i) := Int.mul_nonneg i3 (by omega)
   refine ⟨h1, ?_, h2⟩
   have h3 : D * P - b i ≤ D * (P - a i) := by rw [Int.mul_sub]; omega
   have h4 : 0 ≤ D * (P - a i) := Int.mul_nonneg hD (by omega)
   have h5 : T * (D * P - b i) ≤ T * (D * (P - a i)) := Int.mul_le_mul_of_nonneg_left h3 i3
   have h6 : T * (D * (P - a i)) ≤ D ^ j * S * (D * (P - a i)) := Int.mul_le_mul_of_nonneg_right i2 h4
   have h7 : D ^ (j + 1) * (S * (P - a i)) = D ^ j * S * (D * (P - a i)) := by
    rw [hDj, Int.mul_assoc, Int.mul_assoc]
    congr 1
    rw [Int.mul_left_comm]
   rw [h7]
   omega
 intro l
 have := key l.reverse
 rw [List.reverse_reverse] at this
 exact this
/-- without a chamber, a choice tells one seldom -/
theorem odds_alarm {c : Cp} (hc : CpOk c) (s : Nat) (e : Bool) {l : List Int} (hl : LsOk c l) (hr : ∀ i ∈ l, rateP (siteAt c i) e ≤ (siteAt c i).lo) : (oddsP c s e l).1 ≤ (oddsP c s e l).2 / c.level := by
 obtain ⟨hs, n1, n3⟩ := hl
 have hv := hc.v0
 have hp := hc.p0
 have hP : 0 ≤ c.parts ^ s := by have := pow_pos' (D := c.parts) (by omega) s; omega
 have hlv : 0 ≤ c.level * (l.length : Int) := Int.mul_nonneg (by omega) (by omega)
 obtain ⟨_, h3⟩ := sil_union hP (lv := c.level * (l.length : Int)) (fun i => abvP c s (i, c.level * (l.length : Int), e)) l fun i hi => by
  obtain ⟨i0, i1⟩ := hs i hi
  have hb := abvP_bd hc s i0 i1 (c.level * (l.length : Int)) e
  exact ⟨hb.1, hb.2, abv_alarm hc s i0 i1 hlv e (hr i hi)⟩
 rw [Int.le_ediv_iff_mul_le (by omega)]
 show ((c.parts ^ s) ^ l.length - silP c s (c.level * l.length) e l) * c.level ≤ (c.parts ^ s) ^ l.length
 unfold silP
 generalize l.foldl (fun x i => x * (c.parts ^ s - abvP c s (i, c.level * (l.length : Int), e))) 1 = S at *
 generalize (c.parts ^ s) ^ l.length = A at *
 have h4 : (l.length : Int) * ((A - S) * c.level) ≤ (l.length : Int) * A := by
  have e1 : c.level * (l.length : Int) * (A - S) = (l.length : Int) * ((A - S) * c.level) := by
   rw [Int.mul_comm c.level, Int.mul_assoc, Int.mul_comm c.level]
  omega
 exact Int.le_of_mul_le_mul_left h4 (by omega)
/-- one slot more never makes the power less -/
theorem odds_more {c : Cp} (hc : CpOk c) (s : Nat) (e : Bool) {l : List Int} (hl : LsOk c l) : (oddsP c s e l).1 * c.parts ^ l.length ≤ (oddsP c (s + 1) e l).1 ∧ (oddsP c (s + 1) e l).2 = (oddsP c s e l).2 * c.parts ^ l.length ∧ 1 ≤ (oddsP c s e l).2 := by
 obtain ⟨hs, n1, n3⟩ := hl
 have hv := hc.v0
 have hp := hc.p0
 have hP1 := pow_pos' (D := c.parts) (by omega) s
 have hlv : 2 ≤ c.level * (l.length : Int) := by
  have : c.level * 1 ≤ c.level * (l.length : Int) := Int.mul_le_mul_of_nonneg_left (by omega) (by omega)
  omega
 have hps : c.parts ^ (s + 1) = c.parts * c.parts ^ s := by rw [Int.pow_succ, Int.mul_comm]
 obtain ⟨h1, h2, h3⟩ := sil_more (P := c.parts ^ s) (D := c.parts) (by omega) (fun i => abvP c s (i, c.level * (l.length : Int), e)) (fun i => abvP c (s + 1) (i, c.level * (l.length : Int), e)) l fun i hi => by
  obtain ⟨i0, i1⟩ := hs i hi
  have hb := abvP_bd hc s i0 i1 (c.level * (l.length : Int)) e
  have hb2 := abvP_bd hc (s + 1) i0 i1 (c.level * (l.length : Int)) e
  rw [hps] at hb2
  exact ⟨hb.1, hb.2, abv_more hc s i0 i1 hlv e, hb2.2⟩
 have hall : (c.parts ^ (s + 1)) ^ l.length = (c.parts ^ s) ^ l.length * c.parts ^ l.length := by
  rw [← Int.pow_mul, ← Int.pow_mul, ← Int.pow_add, Nat.succ_mul]
 refine ⟨?_, hall, pow_pos' hP1 _⟩
 show ((c.parts ^ s) ^ l.length - silP c s (c.level * l.length) e l) * c.parts ^ l.length ≤ (c.parts ^ (s + 1)) ^ l.length - silP c (s + 1) (c.level * l.length) e l
 rw [hall]
 unfold silP
 rw [hps]
 generalize l.foldl (fun x i => x * (c.parts ^ s - abvP c s (i, c.level * (l.length : Int), e))) 1 = S at *
 generalize l.foldl (fun x i => x * (c.parts * c.parts ^ s - abvP c (s + 1) (i, c.level * (l.length : Int), e))) 1 = T at *
 rw [Int.sub_mul, Int.mul_comm S]
 omega
end Go.Proofs.Yteenhfnamjbaiaa
