/- The contracts of Long, Less (the specification of layer 9) and small (the law's own). -/
import Derived.Test.YteenhfnamjbaiaaV1
namespace Go.Proofs.Yteenhfnamjbaiaa
open Go.Ev Go.Proofs
open Go.Camp (Cp CpOk ChOk Site SiteOk Sites costP siteAt SlOk)
attribute [local irreducible] At AtH
set_option maxHeartbeats 4000000 in
theorem rLong_any (m : Cm) (s : Nat) (w0 : World) (hc : CpOk m.c) (hs : s ≤ 1000) : Ret Try.prog 19 [.agg (cpL m).toArray, I (s : Int)] w0 fun v w' => (∃ b, v = .bool b ∧ (b = false ↔ SlOk m.c s)) ∧ Chg No w0 w' := by
 have hp := hc.p0; have hp1 := hc.p1
 refine enter Try.func19 rfl Try.ntmps19 rfl ?_
 refine go T_ok 200 rfl ?_
 refine bx rfl rfl rfl (cs := cpL m) rfl ?_
 intro g2 u2 hg2 hs2 q2 B2
 have q := q2
 refine go T_ok 200 rfl ?_
 repeat ((first | refine ldA T_ok rfl rfl rfl rfl rfl (Bk.all B2) ?_ | refine ld T_ok rfl rfl rfl rfl (Bk.get B2 rfl) ?_ | refine gT rfl rfl rfl rfl ?_ | refine gF rfl rfl rfl rfl ?_ | refine condT rfl rfl ?_ | refine condF rfl rfl ?_); refine go T_ok 200 rfl ?_)
 by_cases h1 : 12 < (s : Int)
 ·rw [decide_eq_true h1]
  refine go T_ok 200 rfl ?_
  repeat ((first | refine ldA T_ok rfl rfl rfl rfl rfl (Bk.all B2) ?_ | refine ld T_ok rfl rfl rfl rfl (Bk.get B2 rfl) ?_ | refine gT rfl rfl rfl rfl ?_ | refine gF rfl rfl rfl rfl ?_ | refine condT rfl rfl ?_ | refine condF rfl rfl ?_); refine go T_ok 200 rfl ?_)
  exact ret (ret1 (v := .bool true) Try.results19 rfl ⟨⟨true, rfl, by simp; exact fun h => by have := h.n; omega⟩, q⟩)
 rw [decide_eq_false h1]
 refine go T_ok 200 rfl ?_
 repeat ((first | refine ldA T_ok rfl rfl rfl rfl rfl (Bk.all B2) ?_ | refine ld T_ok rfl rfl rfl rfl (Bk.get B2 rfl) ?_ | refine gT rfl rfl rfl rfl ?_ | refine gF rfl rfl rfl rfl ?_ | refine condT rfl rfl ?_ | refine condF rfl rfl ?_); refine go T_ok 200 rfl ?_)
 refine loop [1, 2, 5, 6] (fun i : Nat => [I (s : Int), .pointer (some ⟨g2, 0, none⟩), I (m.c.parts ^ i), .int .i64 (i : Int)]) (fun i w' => Chg No w0 w' ∧ Bk w' g2 24 (cpL m) ∧ i ≤ 3 * s ∧ m.c.parts ^ i ≤ 1152921504606846976) (fun i => 3 * s - i) 0 (fun _ => rfl) (by rw [Int.pow_zero]; rfl) ⟨q, B2, by omega, by rw [Int.pow_zero]; decide⟩ ?_
 rintro i τ w ⟨q, B2, hi, hb⟩
 refine go T_ok 200 rfl ?_
 repeat ((first | refine ldA T_ok rfl rfl rfl rfl rfl (Bk.all B2) ?_ | refine ld T_ok rfl rfl rfl rfl (Bk.get B2 rfl) ?_ | refine gT rfl rfl rfl rfl ?_ | refine gF rfl rfl rfl rfl ?_ | refine condT rfl rfl ?_ | refine condF rfl rfl ?_); refine go T_ok 200 rfl ?_)
 rw [w64_id (x := 3 * (s : Int)) (by omega) (by omega)]
 refine condD rfl (fun hlt => ?_) (fun hlt => ?_)
 ·have h2 := pow_pos' (D := m.c.parts) (by omega) i
  have h3 : m.c.parts ^ i * m.c.parts = m.c.parts ^ (i + 1) := (Int.pow_succ _ _).symm
  have h4 : m.c.parts ^ i ≤ 1152921504606846976 / m.c.parts ↔ m.c.parts ^ (i + 1) ≤ 1152921504606846976 := by
   rw [Int.le_ediv_iff_mul_le (by omega), h3]
  have h5 := pow_pos' (D := m.c.parts) (by omega) (i + 1)
  refine go T_ok 200 rfl ?_
  repeat ((first | refine ldA T_ok rfl rfl rfl rfl rfl (Bk.all B2) ?_ | refine ld T_ok rfl rfl rfl rfl (Bk.get B2 rfl) ?_ | refine gT rfl rfl rfl rfl ?_ | refine gF rfl rfl rfl rfl ?_ | refine condT rfl rfl ?_ | refine condF rfl rfl ?_); refine go T_ok 200 rfl ?_)
  refine quoN rfl rfl rfl rfl (by decide) (by decide) (by omega) ?_
  refine go T_ok 200 rfl ?_
  repeat ((first | refine ldA T_ok rfl rfl rfl rfl rfl (Bk.all B2) ?_ | refine ld T_ok rfl rfl rfl rfl (Bk.get B2 rfl) ?_ | refine gT rfl rfl rfl rfl ?_ | refine gF rfl rfl rfl rfl ?_ | refine condT rfl rfl ?_ | refine condF rfl rfl ?_); refine go T_ok 200 rfl ?_)
  by_cases h6 : 1152921504606846976 / m.c.parts < m.c.parts ^ i
  ·rw [decide_eq_true h6]
   refine go T_ok 200 rfl ?_
   repeat ((first | refine ldA T_ok rfl rfl rfl rfl rfl (Bk.all B2) ?_ | refine ld T_ok rfl rfl rfl rfl (Bk.get B2 rfl) ?_ | refine gT rfl rfl rfl rfl ?_ | refine gF rfl rfl rfl rfl ?_ | refine condT rfl rfl ?_ | refine condF rfl rfl ?_); refine go T_ok 200 rfl ?_)
   have hno : ¬ SlOk m.c s := fun h => by
    have := pow_mono' (D := m.c.parts) (by omega) (show i + 1 ≤ 3 * s by omega)
    have := h.w
    omega
   exact ret (ret1 (v := .bool true) Try.results19 rfl ⟨⟨true, rfl, by simp; exact hno⟩, q⟩)
  rw [decide_eq_false h6]
  refine go T_ok 200 rfl ?_
  repeat ((first | refine ldA T_ok rfl rfl rfl rfl rfl (Bk.all B2) ?_ | refine ld T_ok rfl rfl rfl rfl (Bk.get B2 rfl) ?_ | refine gT rfl rfl rfl rfl ?_ | refine gF rfl rfl rfl rfl ?_ | refine condT rfl rfl ?_ | refine condF rfl rfl ?_); refine go T_ok 200 rfl ?_)
  rw [h3, w64_id (x := m.c.parts ^ (i + 1)) (by omega) (by omega), w64_id (x := (i : Int) + 1) (by omega) (by omega)]
  exact round ⟨i + 1, rfl, ⟨q, B2, by omega, by omega⟩, by omega⟩
 ·obtain rfl : i = 3 * s := by omega
  refine go T_ok 200 rfl ?_
  repeat ((first | refine ldA T_ok rfl rfl rfl rfl rfl (Bk.all B2) ?_ | refine ld T_ok rfl rfl rfl rfl (Bk.get B2 rfl) ?_ | refine gT rfl rfl rfl rfl ?_ | refine gF rfl rfl rfl rfl ?_ | refine condT rfl rfl ?_ | refine condF rfl rfl ?_); refine go T_ok 200 rfl ?_)
  exact ret (ret1 (v := .bool false) Try.results19 rfl ⟨⟨false, rfl, by simp; exact ⟨by omega, hb⟩⟩, q⟩)
/-- odds that are less than other ones -/
def lessP (a b : Int × Int) : Bool := if a.2 < b.2 then decide (a.1 * (b.2 / a.2) < b.1) else decide (a.1 < b.1 * (a.2 / b.2))
structure OdOk (a : Int × Int) : Prop where
 w0 : 0 ≤ a.1
 w1 : a.1 ≤ a.2
 a0 : 1 ≤ a.2
 a1 : a.2 ≤ 1152921504606846976
theorem od_mul {a b : Int × Int} (ha : OdOk a) (hb : OdOk b) : 0 ≤ a.1 * (b.2 / a.2) ∧ a.1 * (b.2 / a.2) ≤ b.2 := by
 have h1 := ha.w0; have h2 := ha.w1; have h3 := ha.a0; have h4 := hb.a0
 have hd : 0 ≤ b.2 / a.2 := Int.ediv_nonneg (by omega) (by omega)
 have h5 := Int.mul_le_mul_of_nonneg_right h2 hd
 have h6 := Int.mul_ediv_self_le (x := b.2) (k := a.2) (by omega)
 exact ⟨Int.mul_nonneg h1 hd, by omega⟩
def odL (a : Int × Int) : List Value := [I a.1, I a.2]
set_option maxHeartbeats 4000000 in
theorem rLess_any (a b : Int × Int) (w0 : World) (ha : OdOk a) (hb : OdOk b) : Ret Try.prog 24 [.agg (odL a).toArray, .agg (odL b).toArray] w0 fun v w' => v = .bool (lessP a b) ∧ Chg No w0 w' := by
 have h1 := od_mul ha hb; have h2 := od_mul hb ha
 have a1 := ha.a0; have a2 := ha.a1; have b1 := hb.a0; have b2 := hb.a1
 refine enter Try.func24 rfl Try.ntmps24 rfl ?_
 refine go T_ok 200 rfl ?_
 refine bx rfl rfl rfl (cs := odL a) rfl ?_
 intro g2 u2 hg2 hs2 q2 B2
 have q := q2
 refine go T_ok 200 rfl ?_
 refine bx rfl rfl rfl (cs := odL b) rfl ?_
 intro g3 w hg3 hs3 qk B3
 have B2 := B2.no qk
 have q := q.trans qk
 refine go T_ok 200 rfl ?_
 repeat ((first | refine ldA T_ok rfl rfl rfl rfl rfl (Bk.all B2) ?_ | refine ldA T_ok rfl rfl rfl rfl rfl (Bk.all B3) ?_ | refine ld T_ok rfl rfl rfl rfl (Bk.get B2 rfl) ?_ | refine ld T_ok rfl rfl rfl rfl (Bk.get B3 rfl) ?_ | refine gT rfl rfl rfl rfl ?_ | refine gF rfl rfl rfl rfl ?_ | refine condT rfl rfl ?_ | refine condF rfl rfl ?_); refine go T_ok 200 rfl ?_)
 by_cases hl : a.2 < b.2
 ·rw [decide_eq_true hl]
  refine go T_ok 200 rfl ?_
  repeat ((first | refine ldA T_ok rfl rfl rfl rfl rfl (Bk.all B2) ?_ | refine ldA T_ok rfl rfl rfl rfl rfl (Bk.all B3) ?_ | refine ld T_ok rfl rfl rfl rfl (Bk.get B2 rfl) ?_ | refine ld T_ok rfl rfl rfl rfl (Bk.get B3 rfl) ?_ | refine gT rfl rfl rfl rfl ?_ | refine gF rfl rfl rfl rfl ?_ | refine condT rfl rfl ?_ | refine condF rfl rfl ?_); refine go T_ok 200 rfl ?_)
  refine draw mixed (fun w' => Chg No w w') ([0,1,2,3,4,5,6,7,8,9,10,11].map (fun i => (i, true))) rfl (by kernel_rfl) (Chg.drew _) ?_
  refine goH T_ok 200 rfl ?_
  repeat (first | (refine quietH rfl (fun w' hS => r_load T_ok rfl rfl rfl (Bk.get (B2.no hS) rfl)) ?_; refine goH T_ok 200 rfl ?_) | (refine quietH rfl (fun w' hS => r_load T_ok rfl rfl rfl (Bk.get (B3.no hS) rfl)) ?_; refine goH T_ok 200 rfl ?_))
  refine quietH rfl (fun w' hS => r_quoN rfl rfl rfl (by omega) (by omega) (by omega)) ?_
  refine goH T_ok 200 rfl ?_
  repeat (first | (refine quietH rfl (fun w' hS => r_load T_ok rfl rfl rfl (Bk.get (B2.no hS) rfl)) ?_; refine goH T_ok 200 rfl ?_) | (refine quietH rfl (fun w' hS => r_load T_ok rfl rfl rfl (Bk.get (B3.no hS) rfl)) ?_; refine goH T_ok 200 rfl ?_))
  rw [w64_id (x := a.1 * (b.2 / a.2)) (by omega) (by omega)]
  refine endH ?_
  have q := q.trans (Chg.drew w)
  refine go T_ok 200 rfl ?_
  exact ret (ret1 (v := .bool _) Try.results24 rfl ⟨by unfold lessP; rw [if_pos hl], q⟩)
 ·rw [decide_eq_false hl]
  refine go T_ok 200 rfl ?_
  repeat ((first | refine ldA T_ok rfl rfl rfl rfl rfl (Bk.all B2) ?_ | refine ldA T_ok rfl rfl rfl rfl rfl (Bk.all B3) ?_ | refine ld T_ok rfl rfl rfl rfl (Bk.get B2 rfl) ?_ | refine ld T_ok rfl rfl rfl rfl (Bk.get B3 rfl) ?_ | refine gT rfl rfl rfl rfl ?_ | refine gF rfl rfl rfl rfl ?_ | refine condT rfl rfl ?_ | refine condF rfl rfl ?_); refine go T_ok 200 rfl ?_)
  refine draw mixed (fun w' => Chg No w w') ([0,1,2,3,4,5,6,7,8,9,10,11].map (fun i => (i, true))) rfl (by kernel_rfl) (Chg.drew _) ?_
  refine goH T_ok 200 rfl ?_
  repeat (first | (refine quietH rfl (fun w' hS => r_load T_ok rfl rfl rfl (Bk.get (B2.no hS) rfl)) ?_; refine goH T_ok 200 rfl ?_) | (refine quietH rfl (fun w' hS => r_load T_ok rfl rfl rfl (Bk.get (B3.no hS) rfl)) ?_; refine goH T_ok 200 rfl ?_))
  refine quietH rfl (fun w' hS => r_quoN rfl rfl rfl (by omega) (by omega) (by omega)) ?_
  refine goH T_ok 200 rfl ?_
  repeat (first | (refine quietH rfl (fun w' hS => r_load T_ok rfl rfl rfl (Bk.get (B2.no hS) rfl)) ?_; refine goH T_ok 200 rfl ?_) | (refine quietH rfl (fun w' hS => r_load T_ok rfl rfl rfl (Bk.get (B3.no hS) rfl)) ?_; refine goH T_ok 200 rfl ?_))
  rw [w64_id (x := b.1 * (a.2 / b.2)) (by omega) (by omega)]
  refine endH ?_
  have q := q.trans (Chg.drew w)
  refine go T_ok 200 rfl ?_
  exact ret (ret1 (v := .bool _) Try.results24 rfl ⟨by unfold lessP; rw [if_neg hl], q⟩)
theorem small_any (m : Cm) (k : Int) (w0 : World) (hk : k ≤ 8) : Ret Try.prog 17 [.agg (cpL m).toArray, I k] w0 fun v w' => (∃ b, v = .bool b ∧ (b = true → m.c.sites.length ≤ 12 ∧ (m.c.parts ≤ 8 ∨ 1000 < m.c.parts))) ∧ Chg No w0 w' := by
 refine enter Try.func17 rfl Try.ntmps17 rfl ?_
 refine go T_ok 200 rfl ?_
 refine bx rfl rfl rfl (cs := cpL m) rfl ?_
 intro g2 u2 hg2 hs2 q2 B2
 have q := q2
 refine go T_ok 200 rfl ?_
 repeat ((first | refine ldA T_ok rfl rfl rfl rfl rfl (Bk.all B2) ?_ | refine ld T_ok rfl rfl rfl rfl (Bk.get B2 rfl) ?_ | refine gT rfl rfl rfl rfl ?_ | refine gF rfl rfl rfl rfl ?_ | refine condT rfl rfl ?_ | refine condF rfl rfl ?_); refine go T_ok 200 rfl ?_)
 by_cases h1 : m.c.parts ≤ 8
 ·rw [decide_eq_true h1]
  refine go T_ok 200 rfl ?_
  repeat ((first | refine ldA T_ok rfl rfl rfl rfl rfl (Bk.all B2) ?_ | refine ld T_ok rfl rfl rfl rfl (Bk.get B2 rfl) ?_ | refine gT rfl rfl rfl rfl ?_ | refine gF rfl rfl rfl rfl ?_ | refine condT rfl rfl ?_ | refine condF rfl rfl ?_); refine go T_ok 200 rfl ?_)
  by_cases h2 : (m.c.sites.length : Int) ≤ k
  ·rw [decide_eq_true h2]
   refine go T_ok 200 rfl ?_
   repeat ((first | refine ldA T_ok rfl rfl rfl rfl rfl (Bk.all B2) ?_ | refine ld T_ok rfl rfl rfl rfl (Bk.get B2 rfl) ?_ | refine gT rfl rfl rfl rfl ?_ | refine gF rfl rfl rfl rfl ?_ | refine condT rfl rfl ?_ | refine condF rfl rfl ?_); refine go T_ok 200 rfl ?_)
   exact ret (ret1 (v := .bool true) Try.results17 rfl ⟨⟨true, rfl, fun _ => ⟨by omega, by omega⟩⟩, q⟩)
  rw [decide_eq_false h2]
  refine go T_ok 200 rfl ?_
  repeat ((first | refine ldA T_ok rfl rfl rfl rfl rfl (Bk.all B2) ?_ | refine ld T_ok rfl rfl rfl rfl (Bk.get B2 rfl) ?_ | refine gT rfl rfl rfl rfl ?_ | refine gF rfl rfl rfl rfl ?_ | refine condT rfl rfl ?_ | refine condF rfl rfl ?_); refine go T_ok 200 rfl ?_)
  by_cases h3 : 8 < (m.c.sites.length : Int)
  case neg =>
   rw [decide_eq_false h3]
   refine go T_ok 200 rfl ?_
   repeat ((first | refine ldA T_ok rfl rfl rfl rfl rfl (Bk.all B2) ?_ | refine ld T_ok rfl rfl rfl rfl (Bk.get B2 rfl) ?_ | refine gT rfl rfl rfl rfl ?_ | refine gF rfl rfl rfl rfl ?_ | refine condT rfl rfl ?_ | refine condF rfl rfl ?_); refine go T_ok 200 rfl ?_)
   exact ret (ret1 (v := .bool false) Try.results17 rfl ⟨⟨false, rfl, fun h => by cases h⟩, q⟩)
  rw [decide_eq_true h3]
  refine go T_ok 200 rfl ?_
  repeat ((first | refine ldA T_ok rfl rfl rfl rfl rfl (Bk.all B2) ?_ | refine ld T_ok rfl rfl rfl rfl (Bk.get B2 rfl) ?_ | refine gT rfl rfl rfl rfl ?_ | refine gF rfl rfl rfl rfl ?_ | refine condT rfl rfl ?_ | refine condF rfl rfl ?_); refine go T_ok 200 rfl ?_)
  by_cases h4 : (m.c.sites.length : Int) ≤ 12
  ·rw [decide_eq_true h4]
   refine go T_ok 200 rfl ?_
   repeat ((first | refine ldA T_ok rfl rfl rfl rfl rfl (Bk.all B2) ?_ | refine ld T_ok rfl rfl rfl rfl (Bk.get B2 rfl) ?_ | refine gT rfl rfl rfl rfl ?_ | refine gF rfl rfl rfl rfl ?_ | refine condT rfl rfl ?_ | refine condF rfl rfl ?_); refine go T_ok 200 rfl ?_)
   exact ret (ret1 (v := .bool true) Try.results17 rfl ⟨⟨true, rfl, fun _ => ⟨by omega, by omega⟩⟩, q⟩)
  rw [decide_eq_false h4]
  refine go T_ok 200 rfl ?_
  repeat ((first | refine ldA T_ok rfl rfl rfl rfl rfl (Bk.all B2) ?_ | refine ld T_ok rfl rfl rfl rfl (Bk.get B2 rfl) ?_ | refine gT rfl rfl rfl rfl ?_ | refine gF rfl rfl rfl rfl ?_ | refine condT rfl rfl ?_ | refine condF rfl rfl ?_); refine go T_ok 200 rfl ?_)
  exact ret (ret1 (v := .bool false) Try.results17 rfl ⟨⟨false, rfl, fun h => by cases h⟩, q⟩)
 rw [decide_eq_false h1]
 refine go T_ok 200 rfl ?_
 repeat ((first | refine ldA T_ok rfl rfl rfl rfl rfl (Bk.all B2) ?_ | refine ld T_ok rfl rfl rfl rfl (Bk.get B2 rfl) ?_ | refine gT rfl rfl rfl rfl ?_ | refine gF rfl rfl rfl rfl ?_ | refine condT rfl rfl ?_ | refine condF rfl rfl ?_); refine go T_ok 200 rfl ?_)
 by_cases h0 : 1000 < m.c.parts
 case neg =>
  rw [decide_eq_false h0]
  refine go T_ok 200 rfl ?_
  repeat ((first | refine ldA T_ok rfl rfl rfl rfl rfl (Bk.all B2) ?_ | refine ld T_ok rfl rfl rfl rfl (Bk.get B2 rfl) ?_ | refine gT rfl rfl rfl rfl ?_ | refine gF rfl rfl rfl rfl ?_ | refine condT rfl rfl ?_ | refine condF rfl rfl ?_); refine go T_ok 200 rfl ?_)
  exact ret (ret1 (v := .bool false) Try.results17 rfl ⟨⟨false, rfl, fun h => by cases h⟩, q⟩)
 rw [decide_eq_true h0]
 refine go T_ok 200 rfl ?_
 repeat ((first | refine ldA T_ok rfl rfl rfl rfl rfl (Bk.all B2) ?_ | refine ld T_ok rfl rfl rfl rfl (Bk.get B2 rfl) ?_ | refine gT rfl rfl rfl rfl ?_ | refine gF rfl rfl rfl rfl ?_ | refine condT rfl rfl ?_ | refine condF rfl rfl ?_); refine go T_ok 200 rfl ?_)
 by_cases h2 : (m.c.sites.length : Int) ≤ k
 ·rw [decide_eq_true h2]
  refine go T_ok 200 rfl ?_
  repeat ((first | refine ldA T_ok rfl rfl rfl rfl rfl (Bk.all B2) ?_ | refine ld T_ok rfl rfl rfl rfl (Bk.get B2 rfl) ?_ | refine gT rfl rfl rfl rfl ?_ | refine gF rfl rfl rfl rfl ?_ | refine condT rfl rfl ?_ | refine condF rfl rfl ?_); refine go T_ok 200 rfl ?_)
  exact ret (ret1 (v := .bool true) Try.results17 rfl ⟨⟨true, rfl, fun _ => ⟨by omega, by omega⟩⟩, q⟩)
 rw [decide_eq_false h2]
 refine go T_ok 200 rfl ?_
 repeat ((first | refine ldA T_ok rfl rfl rfl rfl rfl (Bk.all B2) ?_ | refine ld T_ok rfl rfl rfl rfl (Bk.get B2 rfl) ?_ | refine gT rfl rfl rfl rfl ?_ | refine gF rfl rfl rfl rfl ?_ | refine condT rfl rfl ?_ | refine condF rfl rfl ?_); refine go T_ok 200 rfl ?_)
 by_cases h3 : 8 < (m.c.sites.length : Int)
 case neg =>
  rw [decide_eq_false h3]
  refine go T_ok 200 rfl ?_
  repeat ((first | refine ldA T_ok rfl rfl rfl rfl rfl (Bk.all B2) ?_ | refine ld T_ok rfl rfl rfl rfl (Bk.get B2 rfl) ?_ | refine gT rfl rfl rfl rfl ?_ | refine gF rfl rfl rfl rfl ?_ | refine condT rfl rfl ?_ | refine condF rfl rfl ?_); refine go T_ok 200 rfl ?_)
  exact ret (ret1 (v := .bool false) Try.results17 rfl ⟨⟨false, rfl, fun h => by cases h⟩, q⟩)
 rw [decide_eq_true h3]
 refine go T_ok 200 rfl ?_
 repeat ((first | refine ldA T_ok rfl rfl rfl rfl rfl (Bk.all B2) ?_ | refine ld T_ok rfl rfl rfl rfl (Bk.get B2 rfl) ?_ | refine gT rfl rfl rfl rfl ?_ | refine gF rfl rfl rfl rfl ?_ | refine condT rfl rfl ?_ | refine condF rfl rfl ?_); refine go T_ok 200 rfl ?_)
 by_cases h4 : (m.c.sites.length : Int) ≤ 12
 ·rw [decide_eq_true h4]
  refine go T_ok 200 rfl ?_
  repeat ((first | refine ldA T_ok rfl rfl rfl rfl rfl (Bk.all B2) ?_ | refine ld T_ok rfl rfl rfl rfl (Bk.get B2 rfl) ?_ | refine gT rfl rfl rfl rfl ?_ | refine gF rfl rfl rfl rfl ?_ | refine condT rfl rfl ?_ | refine condF rfl rfl ?_); refine go T_ok 200 rfl ?_)
  exact ret (ret1 (v := .bool true) Try.results17 rfl ⟨⟨true, rfl, fun _ => ⟨by omega, by omega⟩⟩, q⟩)
 rw [decide_eq_false h4]
 refine go T_ok 200 rfl ?_
 repeat ((first | refine ldA T_ok rfl rfl rfl rfl rfl (Bk.all B2) ?_ | refine ld T_ok rfl rfl rfl rfl (Bk.get B2 rfl) ?_ | refine gT rfl rfl rfl rfl ?_ | refine gF rfl rfl rfl rfl ?_ | refine condT rfl rfl ?_ | refine condF rfl rfl ?_); refine go T_ok 200 rfl ?_)
 exact ret (ret1 (v := .bool false) Try.results17 rfl ⟨⟨false, rfl, fun h => by cases h⟩, q⟩)
end Go.Proofs.Yteenhfnamjbaiaa
