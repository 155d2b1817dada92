/- The contracts of the days of a course, and of Course. -/
import Derived.Test.YteenhfnamjbaiaaR3
namespace Go.Proofs.Yteenhfnamjbaiaa
open Go.Ev Go.Proofs
open Go.Camp (Stk Sup SupOk DyOk okN nextN safeN runs sooner rawN fineN capN runC dayC least)
attribute [local irreducible] At AtH
/-- are these the numbers of the days of a supply? -/
structure DaysIn (a : Sup) (sun link : List Int) : Prop where
 l1 : sun.length = a.days.length
 l2 : link.length = a.days.length
 d : ∀ (j : Nat) d s l, a.days[j]? = some d → sun[j]? = some s → link[j]? = some l → (d.slo ≤ s ∧ s ≤ d.shi) ∧ d.llo ≤ l ∧ l ≤ d.lhi
set_option maxRecDepth 20000 in
set_option maxHeartbeats 8000000 in
theorem rDays_any (m : Sm) (sun link : List Int) (A2 A3 : Option Addr) (c2 c3 C2 C3 : Nat) (w0 : World) (H : SuM w0 m) (S2 : Sl w0 C2 1 A2 sun.length (iL sun)) (S3 : Sl w0 C3 1 A3 link.length (iL link)) (h63 : sun.length ≤ 1000000) :
  Ret Try.prog 57 [.agg (suL m).toArray, .slice A2 sun.length c2, .slice A3 link.length c3] w0 fun v w' => (∃ b, v = .bool b ∧ (b = true ↔ DaysIn m.a sun link)) ∧ Chg No w0 w' := by
 refine enter Try.func57 rfl Try.ntmps57 rfl ?_
 refine go TL_ok 200 rfl ?_
 refine bx rfl rfl rfl (cs := suL m) rfl ?_
 intro g3 u3 hg3 hs3 q3 B3
 have q := q3
 refine go TL_ok 200 rfl ?_
 repeat ((first | refine ldA TL_ok rfl rfl rfl rfl rfl (Bk.all B3) ?_ | refine ld TL_ok rfl rfl rfl rfl (Bk.get B3 rfl) ?_ | refine gT rfl rfl rfl rfl ?_ | refine gF rfl rfl rfl rfl ?_ | refine condT rfl rfl ?_ | refine condF rfl rfl ?_); refine go TL_ok 200 rfl ?_)
 by_cases h1 : sun.length = m.a.days.length
 case neg =>
  have e : ((sun.length : Int) != (m.a.days.length : Int)) = true := bne_iff_ne.2 (by omega)
  rw [e]
  refine go TL_ok 200 rfl ?_
  repeat ((first | refine ldA TL_ok rfl rfl rfl rfl rfl (Bk.all B3) ?_ | refine ld TL_ok rfl rfl rfl rfl (Bk.get B3 rfl) ?_ | refine gT rfl rfl rfl rfl ?_ | refine gF rfl rfl rfl rfl ?_ | refine condT rfl rfl ?_ | refine condF rfl rfl ?_); refine go TL_ok 200 rfl ?_)
  exact ret (ret1 (v := .bool false) Try.results57 rfl ⟨⟨false, rfl, by simp; exact fun h => h1 h.l1⟩, q⟩)
 have e : ((sun.length : Int) != (m.a.days.length : Int)) = false := bne_eq_false_iff_eq.2 (by omega)
 rw [e]
 refine go TL_ok 200 rfl ?_
 repeat ((first | refine ldA TL_ok rfl rfl rfl rfl rfl (Bk.all B3) ?_ | refine ld TL_ok rfl rfl rfl rfl (Bk.get B3 rfl) ?_ | refine gT rfl rfl rfl rfl ?_ | refine gF rfl rfl rfl rfl ?_ | refine condT rfl rfl ?_ | refine condF rfl rfl ?_); refine go TL_ok 200 rfl ?_)
 by_cases h2 : link.length = m.a.days.length
 case neg =>
  have e : ((link.length : Int) != (m.a.days.length : Int)) = true := bne_iff_ne.2 (by omega)
  rw [e]
  refine go TL_ok 200 rfl ?_
  repeat ((first | refine ldA TL_ok rfl rfl rfl rfl rfl (Bk.all B3) ?_ | refine ld TL_ok rfl rfl rfl rfl (Bk.get B3 rfl) ?_ | refine gT rfl rfl rfl rfl ?_ | refine gF rfl rfl rfl rfl ?_ | refine condT rfl rfl ?_ | refine condF rfl rfl ?_); refine go TL_ok 200 rfl ?_)
  exact ret (ret1 (v := .bool false) Try.results57 rfl ⟨⟨false, rfl, by simp; exact fun h => h2 h.l2⟩, q⟩)
 have e : ((link.length : Int) != (m.a.days.length : Int)) = false := bne_eq_false_iff_eq.2 (by omega)
 rw [e]
 refine go TL_ok 200 rfl ?_
 repeat ((first | refine ldA TL_ok rfl rfl rfl rfl rfl (Bk.all B3) ?_ | refine ld TL_ok rfl rfl rfl rfl (Bk.get B3 rfl) ?_ | refine gT rfl rfl rfl rfl ?_ | refine gF rfl rfl rfl rfl ?_ | refine condT rfl rfl ?_ | refine condF rfl rfl ?_); refine go TL_ok 200 rfl ?_)
 refine loop [1, 2, 3, 7] (fun j : Nat => [.slice A2 sun.length c2, .slice A3 link.length c3, .pointer (some ⟨g3, 0, none⟩), .int .i64 (j : Int)])
  (fun j w' => j ≤ sun.length ∧ Chg No w0 w' ∧ Bk w' g3 44 (suL m) ∧ ∀ (i : Nat) d s l, i < j → m.a.days[i]? = some d → sun[i]? = some s → link[i]? = some l → (d.slo ≤ s ∧ s ≤ d.shi) ∧ d.llo ≤ l ∧ l ≤ d.lhi) (fun j => sun.length - j) 0 (fun _ => rfl) rfl ⟨Nat.zero_le _, q, B3, fun i d s l h => absurd h (Nat.not_lt_zero _)⟩ ?_
 rintro j τ w ⟨hj, q, B3, hm⟩
 refine go TL_ok 200 rfl ?_
 refine condD rfl (fun hlt => ?_) (fun hlt => ?_)
 ·have hlt : j < sun.length := by omega
  obtain ⟨d, hd⟩ := getA_of (l := m.a.days) (i := j) (by omega)
  obtain ⟨s, hs'⟩ := getA_of hlt
  obtain ⟨l, hl'⟩ := getA_of (l := link) (i := j) (by omega)
  obtain ⟨b1, o1, hA1, hb1, hc1⟩ := Sl.el (H.no q).sl dyL_len hd
  obtain ⟨b2, o2, hA2, hb2, hc2⟩ := (S2.no q).elI hs'
  obtain ⟨b3, o3, hA3, hb3, hc3⟩ := (S3.no q).elI hl'
  have y1 := (H.no q).sl.2.1
  have y2 := (S2.no q).2.1
  have y3 := (S3.no q).2.1
  refine go TL_ok 200 rfl ?_
  refine draw mixed (fun w' => Chg No w w') ([0,1,2,3,4,5,6,7,8,9,10,11,12,13,14,15,16,17].map (fun i => (i, true)) ++ [(18, false)] ++ [19,20,21,22,23,24,25,26,27,28,29,30,31,32,33,34,35,36,37,38].map (fun i => (i, true)) ++ [(39, false)] ++ [40,41].map (fun i => (i, true))) rfl (by kernel_rfl) (Chg.drew _) ?_
  refine goH TL_ok 200 rfl ?_
  repeat (first | (refine gTH rfl rfl rfl rfl ?_; refine goH TL_ok 200 rfl ?_) | (refine gFH rfl rfl rfl rfl ?_; refine goH TL_ok 200 rfl ?_))
  rw [hA2]
  refine quietH rfl (fun w' hS => r_idx TL_ok rfl rfl rfl rfl j rfl (by omega)) ?_
  refine goH TL_ok 200 rfl ?_
  repeat (first | (refine gTH rfl rfl rfl rfl ?_; refine goH TL_ok 200 rfl ?_) | (refine gFH rfl rfl rfl rfl ?_; refine goH TL_ok 200 rfl ?_))
  refine quietH rfl (fun w' hS => r_load TL_ok rfl rfl rfl ((hS.cell (a := ⟨b2, o2 + j * 1, none⟩) (by show b2 < _; omega) (fun h => h)).trans hc2)) ?_
  rw [← hA2]
  refine goH TL_ok 200 rfl ?_
  repeat (first | (refine gTH rfl rfl rfl rfl ?_; refine goH TL_ok 200 rfl ?_) | (refine gFH rfl rfl rfl rfl ?_; refine goH TL_ok 200 rfl ?_))
  refine quietH rfl (fun w' hS => r_load TL_ok rfl rfl rfl (Bk.get (B3.no hS) rfl)) ?_
  refine goH TL_ok 200 rfl ?_
  repeat (first | (refine gTH rfl rfl rfl rfl ?_; refine goH TL_ok 200 rfl ?_) | (refine gFH rfl rfl rfl rfl ?_; refine goH TL_ok 200 rfl ?_))
  rw [hA1]
  refine quietH rfl (fun w' hS => r_idx TL_ok rfl rfl rfl rfl j rfl (by omega)) ?_
  refine goH TL_ok 200 rfl ?_
  repeat (first | (refine gTH rfl rfl rfl rfl ?_; refine goH TL_ok 200 rfl ?_) | (refine gFH rfl rfl rfl rfl ?_; refine goH TL_ok 200 rfl ?_))
  refine quietH rfl (fun w' hS => r_load TL_ok rfl rfl rfl ((hS.cell (a := ⟨b1, o1 + j * 5 + 0, none⟩) (by show b1 < _; omega) (fun h => h)).trans (hc1.get (i := 0) rfl))) ?_
  rw [← hA1]
  refine goH TL_ok 200 rfl ?_
  repeat (first | (refine gTH rfl rfl rfl rfl ?_; refine goH TL_ok 200 rfl ?_) | (refine gFH rfl rfl rfl rfl ?_; refine goH TL_ok 200 rfl ?_))
  refine quietH rfl (fun w' hS => r_load TL_ok rfl rfl rfl (Bk.get (B3.no hS) rfl)) ?_
  refine goH TL_ok 200 rfl ?_
  repeat (first | (refine gTH rfl rfl rfl rfl ?_; refine goH TL_ok 200 rfl ?_) | (refine gFH rfl rfl rfl rfl ?_; refine goH TL_ok 200 rfl ?_))
  rw [hA1]
  refine quietH rfl (fun w' hS => r_idx TL_ok rfl rfl rfl rfl j rfl (by omega)) ?_
  refine goH TL_ok 200 rfl ?_
  repeat (first | (refine gTH rfl rfl rfl rfl ?_; refine goH TL_ok 200 rfl ?_) | (refine gFH rfl rfl rfl rfl ?_; refine goH TL_ok 200 rfl ?_))
  refine quietH rfl (fun w' hS => r_load TL_ok rfl rfl rfl ((hS.cell (a := ⟨b1, o1 + j * 5 + 1, none⟩) (by show b1 < _; omega) (fun h => h)).trans (hc1.get (i := 1) rfl))) ?_
  rw [← hA1]
  refine goH TL_ok 200 rfl ?_
  repeat (first | (refine gTH rfl rfl rfl rfl ?_; refine goH TL_ok 200 rfl ?_) | (refine gFH rfl rfl rfl rfl ?_; refine goH TL_ok 200 rfl ?_))
  have qd := Chg.drew w
  refine callE rfl rfl rfl (ok _ (by decide) rfl) (rIn_any s d.slo d.shi _) ?_
  rintro x w1 ⟨rfl, rfl⟩
  refine ⟨qd, ?_⟩
  by_cases g1 : d.slo ≤ s ∧ s ≤ d.shi
  case neg =>
   rw [decide_eq_false g1]
   refine goH TL_ok 200 rfl ?_
   repeat (first | (refine gTH rfl rfl rfl rfl ?_; refine goH TL_ok 200 rfl ?_) | (refine gFH rfl rfl rfl rfl ?_; refine goH TL_ok 200 rfl ?_))
   refine passE rfl ?_
   refine goH TL_ok 200 rfl ?_
   repeat (first | (refine gTH rfl rfl rfl rfl ?_; refine goH TL_ok 200 rfl ?_) | (refine gFH rfl rfl rfl rfl ?_; refine goH TL_ok 200 rfl ?_))
   refine endH ?_
   have q := q.trans qd
   refine go TL_ok 200 rfl ?_
   repeat ((first | refine ldA TL_ok rfl rfl rfl rfl rfl (Bk.all B3) ?_ | refine ld TL_ok rfl rfl rfl rfl (Bk.get B3 rfl) ?_ | refine gT rfl rfl rfl rfl ?_ | refine gF rfl rfl rfl rfl ?_ | refine condT rfl rfl ?_ | refine condF rfl rfl ?_); refine go TL_ok 200 rfl ?_)
   exact ret (ret1 (v := .bool false) Try.results57 rfl ⟨⟨false, rfl, by simp; exact fun h => g1 (h.d j d s l hd hs' hl').1⟩, q⟩)
  rw [decide_eq_true g1]
  refine goH TL_ok 200 rfl ?_
  repeat (first | (refine gTH rfl rfl rfl rfl ?_; refine goH TL_ok 200 rfl ?_) | (refine gFH rfl rfl rfl rfl ?_; refine goH TL_ok 200 rfl ?_))
  rw [hA3]
  refine quietH rfl (fun w' hS => r_idx TL_ok rfl rfl rfl rfl j rfl (by omega)) ?_
  refine goH TL_ok 200 rfl ?_
  repeat (first | (refine gTH rfl rfl rfl rfl ?_; refine goH TL_ok 200 rfl ?_) | (refine gFH rfl rfl rfl rfl ?_; refine goH TL_ok 200 rfl ?_))
  refine quietH rfl (fun w' hS => r_load TL_ok rfl rfl rfl ((hS.cell (a := ⟨b3, o3 + j * 1, none⟩) (by show b3 < _; omega) (fun h => h)).trans hc3)) ?_
  rw [← hA3]
  refine goH TL_ok 200 rfl ?_
  repeat (first | (refine gTH rfl rfl rfl rfl ?_; refine goH TL_ok 200 rfl ?_) | (refine gFH rfl rfl rfl rfl ?_; refine goH TL_ok 200 rfl ?_))
  refine quietH rfl (fun w' hS => r_load TL_ok rfl rfl rfl (Bk.get (B3.no hS) rfl)) ?_
  refine goH TL_ok 200 rfl ?_
  repeat (first | (refine gTH rfl rfl rfl rfl ?_; refine goH TL_ok 200 rfl ?_) | (refine gFH rfl rfl rfl rfl ?_; refine goH TL_ok 200 rfl ?_))
  rw [hA1]
  refine quietH rfl (fun w' hS => r_idx TL_ok rfl rfl rfl rfl j rfl (by omega)) ?_
  refine goH TL_ok 200 rfl ?_
  repeat (first | (refine gTH rfl rfl rfl rfl ?_; refine goH TL_ok 200 rfl ?_) | (refine gFH rfl rfl rfl rfl ?_; refine goH TL_ok 200 rfl ?_))
  refine quietH rfl (fun w' hS => r_load TL_ok rfl rfl rfl ((hS.cell (a := ⟨b1, o1 + j * 5 + 2, none⟩) (by show b1 < _; omega) (fun h => h)).trans (hc1.get (i := 2) rfl))) ?_
  rw [← hA1]
  refine goH TL_ok 200 rfl ?_
  repeat (first | (refine gTH rfl rfl rfl rfl ?_; refine goH TL_ok 200 rfl ?_) | (refine gFH rfl rfl rfl rfl ?_; refine goH TL_ok 200 rfl ?_))
  refine quietH rfl (fun w' hS => r_load TL_ok rfl rfl rfl (Bk.get (B3.no hS) rfl)) ?_
  refine goH TL_ok 200 rfl ?_
  repeat (first | (refine gTH rfl rfl rfl rfl ?_; refine goH TL_ok 200 rfl ?_) | (refine gFH rfl rfl rfl rfl ?_; refine goH TL_ok 200 rfl ?_))
  rw [hA1]
  refine quietH rfl (fun w' hS => r_idx TL_ok rfl rfl rfl rfl j rfl (by omega)) ?_
  refine goH TL_ok 200 rfl ?_
  repeat (first | (refine gTH rfl rfl rfl rfl ?_; refine goH TL_ok 200 rfl ?_) | (refine gFH rfl rfl rfl rfl ?_; refine goH TL_ok 200 rfl ?_))
  refine quietH rfl (fun w' hS => r_load TL_ok rfl rfl rfl ((hS.cell (a := ⟨b1, o1 + j * 5 + 3, none⟩) (by show b1 < _; omega) (fun h => h)).trans (hc1.get (i := 3) rfl))) ?_
  rw [← hA1]
  refine goH TL_ok 200 rfl ?_
  repeat (first | (refine gTH rfl rfl rfl rfl ?_; refine goH TL_ok 200 rfl ?_) | (refine gFH rfl rfl rfl rfl ?_; refine goH TL_ok 200 rfl ?_))
  refine callE rfl rfl rfl (ok _ (by decide) rfl) (rIn_any l d.llo d.lhi _) ?_
  rintro x w1 ⟨rfl, rfl⟩
  refine ⟨qd, ?_⟩
  by_cases g2 : d.llo ≤ l ∧ l ≤ d.lhi
  case neg =>
   rw [decide_eq_false g2]
   refine goH TL_ok 200 rfl ?_
   repeat (first | (refine gTH rfl rfl rfl rfl ?_; refine goH TL_ok 200 rfl ?_) | (refine gFH rfl rfl rfl rfl ?_; refine goH TL_ok 200 rfl ?_))
   refine endH ?_
   have q := q.trans qd
   refine go TL_ok 200 rfl ?_
   repeat ((first | refine ldA TL_ok rfl rfl rfl rfl rfl (Bk.all B3) ?_ | refine ld TL_ok rfl rfl rfl rfl (Bk.get B3 rfl) ?_ | refine gT rfl rfl rfl rfl ?_ | refine gF rfl rfl rfl rfl ?_ | refine condT rfl rfl ?_ | refine condF rfl rfl ?_); refine go TL_ok 200 rfl ?_)
   exact ret (ret1 (v := .bool false) Try.results57 rfl ⟨⟨false, rfl, by simp; exact fun h => g2 (h.d j d s l hd hs' hl').2⟩, q⟩)
  rw [decide_eq_true g2]
  refine goH TL_ok 200 rfl ?_
  repeat (first | (refine gTH rfl rfl rfl rfl ?_; refine goH TL_ok 200 rfl ?_) | (refine gFH rfl rfl rfl rfl ?_; refine goH TL_ok 200 rfl ?_))
  refine endH ?_
  have q := q.trans qd
  have B3 := B3.no qd
  refine go TL_ok 200 rfl ?_
  repeat ((first | refine ldA TL_ok rfl rfl rfl rfl rfl (Bk.all B3) ?_ | refine ld TL_ok rfl rfl rfl rfl (Bk.get B3 rfl) ?_ | refine gT rfl rfl rfl rfl ?_ | refine gF rfl rfl rfl rfl ?_ | refine condT rfl rfl ?_ | refine condF rfl rfl ?_); refine go TL_ok 200 rfl ?_)
  rw [w64_id (x := (j : Int) + 1) (by omega) (by omega)]
  refine round ⟨j + 1, rfl, ⟨by omega, q, B3, fun i d' s' l' hi hd' hs'' hl'' => ?_⟩, by omega⟩
  rcases Nat.lt_or_ge i j with h' | h'
  ·exact hm i d' s' l' h' hd' hs'' hl''
  ·obtain rfl : i = j := by omega
   rw [hd] at hd'; cases hd'
   rw [hs'] at hs''; cases hs''
   rw [hl'] at hl''; cases hl''
   exact ⟨g1, g2⟩
 ·obtain rfl : j = sun.length := by omega
  refine go TL_ok 200 rfl ?_
  exact ret (ret1 (v := .bool true) Try.results57 rfl ⟨⟨true, rfl, by simp; exact ⟨h1, h2, fun j d s l a b c => hm j d s l (List.getElem?_eq_some_iff.1 b).1 a b c⟩⟩, q⟩)
theorem errno_any (b : Bool) (w : World) : Ret Try.prog 98 [.bool b] w fun v w' => v = I (if b then 0 else 2) ∧ w = w' := by
 refine enter Try.func98 rfl Try.ntmps98 rfl ?_
 cases b with
 | true =>
  refine go TL_ok 200 rfl ?_
  repeat (first | (refine gT rfl rfl rfl rfl ?_; refine go TL_ok 200 rfl ?_) | (refine gF rfl rfl rfl rfl ?_; refine go TL_ok 200 rfl ?_) | (refine condT rfl rfl ?_; refine go TL_ok 200 rfl ?_) | (refine condF rfl rfl ?_; refine go TL_ok 200 rfl ?_))
  exact ret (ret1 (v := I 0) Try.results98 rfl ⟨rfl, rfl⟩)
 | false =>
  refine go TL_ok 200 rfl ?_
  repeat (first | (refine gT rfl rfl rfl rfl ?_; refine go TL_ok 200 rfl ?_) | (refine gF rfl rfl rfl rfl ?_; refine go TL_ok 200 rfl ?_) | (refine condT rfl rfl ?_; refine go TL_ok 200 rfl ?_) | (refine condF rfl rfl ?_; refine go TL_ok 200 rfl ?_))
  exact ret (ret1 (v := I 2) Try.results98 rfl ⟨rfl, rfl⟩)
theorem Supplies_any (m : Sm) (w0 : World) (H : SuM w0 m) : Ret Try.prog 55 [.agg (suL m).toArray] w0 fun v w' => (SupOk m.a ∧ v = I 0 ∨ ¬ SupOk m.a ∧ v = I 2) ∧ Chg No w0 w' := by
 refine enter Try.func55 rfl Try.ntmps55 rfl ?_
 refine go TL_ok 200 rfl ?_
 refine bx rfl rfl rfl (cs := suL m) rfl ?_
 intro g1 u1 hg1 hs1 q1 B1
 have q := q1
 refine go TL_ok 200 rfl ?_
 repeat ((first | refine ldA TL_ok rfl rfl rfl rfl rfl (Bk.all B1) ?_ | refine ld TL_ok rfl rfl rfl rfl (Bk.get B1 rfl) ?_ | refine gT rfl rfl rfl rfl ?_ | refine gF rfl rfl rfl rfl ?_ | refine condT rfl rfl ?_ | refine condF rfl rfl ?_); refine go TL_ok 200 rfl ?_)
 refine call rfl rfl rfl (ok _ (by decide) rfl) (supplied_any m _ (H.no q)) ?_
 rintro x w ⟨⟨b, rfl, hb⟩, qk⟩
 have B1 := B1.no qk
 have q := q.trans qk
 refine go TL_ok 200 rfl ?_
 refine call rfl rfl rfl (ok _ (by decide) rfl) (errno_any b _) ?_
 rintro x w ⟨rfl, rfl⟩
 refine go TL_ok 200 rfl ?_
 refine ret (ret1 (v := I _) Try.results55 rfl ⟨?_, q⟩)
 cases b with
 | true => exact .inl ⟨hb.1 rfl, rfl⟩
 | false => exact .inr ⟨fun h => (by have := hb.2 h; cases this), rfl⟩
theorem days26_any (m : Sm) (k : Int) (w0 : World) : Ret Try.prog 26 [.agg (suL m).toArray, I k] w0 fun v w' => (∃ b, v = .bool b ∧ (b = true → (m.a.days.length : Int) ≤ k ∨ 30 < m.a.days.length ∧ m.a.days.length ≤ 35)) ∧ Chg No w0 w' := by
 refine enter Try.func26 rfl Try.ntmps26 rfl ?_
 refine go TL_ok 200 rfl ?_
 refine bx rfl rfl rfl (cs := suL m) rfl ?_
 intro g2 u2 hg2 hs2 q2 B2
 have q := q2
 refine go TL_ok 200 rfl ?_
 repeat ((first | refine ldA TL_ok rfl rfl rfl rfl rfl (Bk.all B2) ?_ | refine ld TL_ok rfl rfl rfl rfl (Bk.get B2 rfl) ?_ | refine gT rfl rfl rfl rfl ?_ | refine gF rfl rfl rfl rfl ?_ | refine condT rfl rfl ?_ | refine condF rfl rfl ?_); refine go TL_ok 200 rfl ?_)
 by_cases h1 : (m.a.days.length : Int) ≤ k
 ·rw [decide_eq_true h1]
  refine go TL_ok 200 rfl ?_
  repeat ((first | refine ldA TL_ok rfl rfl rfl rfl rfl (Bk.all B2) ?_ | refine ld TL_ok rfl rfl rfl rfl (Bk.get B2 rfl) ?_ | refine gT rfl rfl rfl rfl ?_ | refine gF rfl rfl rfl rfl ?_ | refine condT rfl rfl ?_ | refine condF rfl rfl ?_); refine go TL_ok 200 rfl ?_)
  exact ret (ret1 (v := .bool true) Try.results26 rfl ⟨⟨true, rfl, fun _ => .inl h1⟩, q⟩)
 rw [decide_eq_false h1]
 refine go TL_ok 200 rfl ?_
 repeat ((first | refine ldA TL_ok rfl rfl rfl rfl rfl (Bk.all B2) ?_ | refine ld TL_ok rfl rfl rfl rfl (Bk.get B2 rfl) ?_ | refine gT rfl rfl rfl rfl ?_ | refine gF rfl rfl rfl rfl ?_ | refine condT rfl rfl ?_ | refine condF rfl rfl ?_); refine go TL_ok 200 rfl ?_)
 by_cases h2 : 30 < (m.a.days.length : Int)
 case neg =>
  rw [decide_eq_false h2]
  refine go TL_ok 200 rfl ?_
  repeat ((first | refine ldA TL_ok rfl rfl rfl rfl rfl (Bk.all B2) ?_ | refine ld TL_ok rfl rfl rfl rfl (Bk.get B2 rfl) ?_ | refine gT rfl rfl rfl rfl ?_ | refine gF rfl rfl rfl rfl ?_ | refine condT rfl rfl ?_ | refine condF rfl rfl ?_); refine go TL_ok 200 rfl ?_)
  exact ret (ret1 (v := .bool false) Try.results26 rfl ⟨⟨false, rfl, (fun h => by cases h)⟩, q⟩)
 rw [decide_eq_true h2]
 refine go TL_ok 200 rfl ?_
 repeat ((first | refine ldA TL_ok rfl rfl rfl rfl rfl (Bk.all B2) ?_ | refine ld TL_ok rfl rfl rfl rfl (Bk.get B2 rfl) ?_ | refine gT rfl rfl rfl rfl ?_ | refine gF rfl rfl rfl rfl ?_ | refine condT rfl rfl ?_ | refine condF rfl rfl ?_); refine go TL_ok 200 rfl ?_)
 by_cases h3 : (m.a.days.length : Int) ≤ 35
 case neg =>
  rw [decide_eq_false h3]
  refine go TL_ok 200 rfl ?_
  repeat ((first | refine ldA TL_ok rfl rfl rfl rfl rfl (Bk.all B2) ?_ | refine ld TL_ok rfl rfl rfl rfl (Bk.get B2 rfl) ?_ | refine gT rfl rfl rfl rfl ?_ | refine gF rfl rfl rfl rfl ?_ | refine condT rfl rfl ?_ | refine condF rfl rfl ?_); refine go TL_ok 200 rfl ?_)
  exact ret (ret1 (v := .bool false) Try.results26 rfl ⟨⟨false, rfl, (fun h => by cases h)⟩, q⟩)
 rw [decide_eq_true h3]
 refine go TL_ok 200 rfl ?_
 repeat ((first | refine ldA TL_ok rfl rfl rfl rfl rfl (Bk.all B2) ?_ | refine ld TL_ok rfl rfl rfl rfl (Bk.get B2 rfl) ?_ | refine gT rfl rfl rfl rfl ?_ | refine gF rfl rfl rfl rfl ?_ | refine condT rfl rfl ?_ | refine condF rfl rfl ?_); refine go TL_ok 200 rfl ?_)
 exact ret (ret1 (v := .bool true) Try.results26 rfl ⟨⟨true, rfl, fun _ => .inr ⟨by omega, by omega⟩⟩, q⟩)
set_option maxRecDepth 20000 in
set_option maxHeartbeats 4000000 in
theorem SameStocks_any (l m : List Stk) (A A2 : Option Addr) (c c2 B B2 : Nat) (w : World) (h : Sl w B 3 A l.length (l.flatMap skL)) (h2 : Sl w B2 3 A2 m.length (m.flatMap skL)) (hl : l.length ≤ 1000000) (he : l = m) :
  Ret Try.prog 59 [.slice A l.length c, .slice A2 m.length c2] w fun v w' => v = .bool true ∧ Chg No w w' := by
 subst he
 refine enter Try.func59 rfl Try.ntmps59 rfl ?_
 refine go TL_ok 200 rfl ?_
 have e : ((l.length : Int) != (l.length : Int)) = false := bne_eq_false_iff_eq.2 rfl
 rw [e]
 refine go TL_ok 200 rfl ?_
 repeat (first | (refine gT rfl rfl rfl rfl ?_; refine go TL_ok 200 rfl ?_) | (refine gF rfl rfl rfl rfl ?_; refine go TL_ok 200 rfl ?_) | (refine condT rfl rfl ?_; refine go TL_ok 200 rfl ?_) | (refine condF rfl rfl ?_; refine go TL_ok 200 rfl ?_))
 refine loop [0, 1, 5] (fun i : Nat => [.slice A l.length c, .slice A2 l.length c2, .int .i64 (i : Int)])
  (fun i w' => Chg No w w' ∧ i ≤ l.length) (fun i => l.length - i) 0 (fun _ => rfl) rfl ⟨Chg.refl _ _, by omega⟩ ?_
 rintro i τ w1 ⟨q, hi⟩
 refine go TL_ok 200 rfl ?_
 refine condD rfl (fun hlt => ?_) (fun hlt => ?_)
 ·have hlt : i < l.length := by omega
  obtain ⟨x, hx⟩ := getA_of hlt
  obtain ⟨b1, o1, hA1, hb1, hc1⟩ := Sl.el (h.no q) skF_len hx
  obtain ⟨b2, o2, hA2, hb2, hc2⟩ := Sl.el (h2.no q) skF_len hx
  have y1 := (h.no q).2.1
  have y2 := (h2.no q).2.1
  refine go TL_ok 200 rfl ?_
  refine draw mixed (fun w' => Chg No w1 w') ((List.range 9).map fun i => (i, true)) rfl (by kernel_rfl) (Chg.drew _) ?_
  refine goH TL_ok 200 rfl ?_
  rw [hA1]
  refine quietH rfl (fun w' hS => r_idx TL_ok rfl rfl rfl rfl i rfl (by omega)) ?_
  refine goH TL_ok 200 rfl ?_
  refine quietH rfl (fun w' hS => r_loadA TL_ok rfl rfl rfl (cs := skL x) rfl (hc1.keep (by omega) hS (fun h => h))) ?_
  rw [← hA1]
  refine goH TL_ok 200 rfl ?_
  rw [hA2]
  refine quietH rfl (fun w' hS => r_idx TL_ok rfl rfl rfl rfl i rfl (by omega)) ?_
  refine goH TL_ok 200 rfl ?_
  refine quietH rfl (fun w' hS => r_loadA TL_ok rfl rfl rfl (cs := skL x) rfl (hc2.keep (by omega) hS (fun h => h))) ?_
  rw [← hA2]
  refine goH TL_ok 200 rfl ?_
  refine quietH rfl (fun w' hS => r_neqS (l := [x.ch, x.gas, x.dat]) (m := [x.ch, x.gas, x.dat]) rfl (by kernel_rfl) rfl rfl rfl) ?_
  rw [show ([x.ch, x.gas, x.dat] == [x.ch, x.gas, x.dat]) = true by simp]
  refine goH TL_ok 200 rfl ?_
  refine endH ?_
  refine go TL_ok 200 rfl ?_
  repeat (first | (refine gT rfl rfl rfl rfl ?_; refine go TL_ok 200 rfl ?_) | (refine gF rfl rfl rfl rfl ?_; refine go TL_ok 200 rfl ?_) | (refine condT rfl rfl ?_; refine go TL_ok 200 rfl ?_) | (refine condF rfl rfl ?_; refine go TL_ok 200 rfl ?_))
  rw [w64_id (x := (i : Int) + 1) (by omega) (by omega)]
  exact round ⟨i + 1, rfl, ⟨q.no (Chg.drew _), by omega⟩, by omega⟩
 ·obtain rfl : i = l.length := by omega
  refine go TL_ok 200 rfl ?_
  exact ret (ret1 (v := .bool _) Try.results59 rfl ⟨rfl, q⟩)
end Go.Proofs.Yteenhfnamjbaiaa
