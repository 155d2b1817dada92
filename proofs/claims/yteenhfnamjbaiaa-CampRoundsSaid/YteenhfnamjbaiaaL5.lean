/- The walk of CampRounds. -/
import Derived.Test.YteenhfnamjbaiaaK1
import Derived.Test.YteenhfnamjbaiaaTB
import Derived.Test.YteenhfnamjbaiaaE4
namespace Go.Proofs.Yteenhfnamjbaiaa
open Go.Ev Go.Proofs
open Go.Camp (Cl wayT stopT TrOk begT okT leaveT endT begs)
attribute [local irreducible] At AtH
theorem trm_up {w : World} {B : Nat} {m : Tm} (H : TrM w B m) : TrM w w.heap.size m := ⟨H.w1.more H.w1.2.1 (Nat.le_refl _), fun s hs => ⟨(H.w2 s hs).1.more H.w1.2.1 (Nat.le_refl _), (H.w2 s hs).2⟩, H.s.more H.s.2.1 (Nat.le_refl _), H.lw, H.ls⟩
set_option maxRecDepth 20000 in
set_option maxHeartbeats 16000000 in
theorem walk_CampRounds (m : Tm) (w0 : World) (hm : InT w0 m) :
  Ret Try.prog 5 [.agg (tmL m).toArray] w0 fun x w' => x = .bool true ∧ Chg No w0 w' := by
 have Hm := hm.m
 refine enter Try.func5 rfl Try.ntmps5 rfl ?_
 refine go TL_ok 200 rfl ?_
 refine bx rfl rfl rfl (cs := tmL m) rfl ?_
 intro g1 u1 hg1 hs1 q1 B1
 have q := q1
 have Hm := Hm.no q
 refine go TL_ok 200 rfl ?_
 repeat ((first | refine ldA TL_ok rfl rfl rfl rfl rfl (Bk.all B1) ?_ | refine ld TL_ok rfl rfl rfl rfl (Bk.get B1 rfl) ?_ | refine gT rfl rfl rfl rfl ?_ | refine gF rfl rfl rfl rfl ?_ | refine condT rfl rfl ?_ | refine condF rfl rfl ?_); refine go TL_ok 200 rfl ?_)
 by_cases f1 : 5 < (m.S.l.length : Int)
 ·rw [decide_eq_true f1]
  refine go TL_ok 200 rfl ?_
  repeat ((first | refine ldA TL_ok rfl rfl rfl rfl rfl (Bk.all B1) ?_ | refine ld TL_ok rfl rfl rfl rfl (Bk.get B1 rfl) ?_ | refine gT rfl rfl rfl rfl ?_ | refine gF rfl rfl rfl rfl ?_ | refine condT rfl rfl ?_ | refine condF rfl rfl ?_); refine go TL_ok 200 rfl ?_)
  by_cases f3 : (m.S.l.length : Int) ≤ 8
  ·rw [decide_eq_true f3]
   refine go TL_ok 200 rfl ?_
   repeat ((first | refine ldA TL_ok rfl rfl rfl rfl rfl (Bk.all B1) ?_ | refine ld TL_ok rfl rfl rfl rfl (Bk.get B1 rfl) ?_ | refine gT rfl rfl rfl rfl ?_ | refine gF rfl rfl rfl rfl ?_ | refine condT rfl rfl ?_ | refine condF rfl rfl ?_); refine go TL_ok 200 rfl ?_)
   refine call rfl rfl rfl (ok _ (by decide) rfl) (known_any _) ?_
   rintro v wk ⟨rfl, qk⟩
   refine go TL_ok 200 rfl ?_
   exact ret (ret1 (v := .bool true) Try.results5 rfl ⟨rfl, q.trans qk⟩)
  ·rw [decide_eq_false f3]
   refine go TL_ok 200 rfl ?_
   repeat ((first | refine ldA TL_ok rfl rfl rfl rfl rfl (Bk.all B1) ?_ | refine ld TL_ok rfl rfl rfl rfl (Bk.get B1 rfl) ?_ | refine gT rfl rfl rfl rfl ?_ | refine gF rfl rfl rfl rfl ?_ | refine condT rfl rfl ?_ | refine condF rfl rfl ?_); refine go TL_ok 200 rfl ?_)
   by_cases f4 : 12 < (m.S.l.length : Int)
   ·rw [decide_eq_true f4]
    refine go TL_ok 200 rfl ?_
    repeat ((first | refine ldA TL_ok rfl rfl rfl rfl rfl (Bk.all B1) ?_ | refine ld TL_ok rfl rfl rfl rfl (Bk.get B1 rfl) ?_ | refine gT rfl rfl rfl rfl ?_ | refine gF rfl rfl rfl rfl ?_ | refine condT rfl rfl ?_ | refine condF rfl rfl ?_); refine go TL_ok 200 rfl ?_)
    refine call rfl rfl rfl (ok _ (by decide) rfl) (known_any _) ?_
    rintro v wk ⟨rfl, qk⟩
    refine go TL_ok 200 rfl ?_
    exact ret (ret1 (v := .bool true) Try.results5 rfl ⟨rfl, q.trans qk⟩)
   ·rw [decide_eq_false f4]
    refine go TL_ok 200 rfl ?_
    repeat ((first | refine ldA TL_ok rfl rfl rfl rfl rfl (Bk.all B1) ?_ | refine ld TL_ok rfl rfl rfl rfl (Bk.get B1 rfl) ?_ | refine gT rfl rfl rfl rfl ?_ | refine gF rfl rfl rfl rfl ?_ | refine condT rfl rfl ?_ | refine condF rfl rfl ?_); refine go TL_ok 200 rfl ?_)
    by_cases f2 : 15 < (m.W.l.length : Int)
    ·rw [decide_eq_true f2]
     refine go TL_ok 200 rfl ?_
     repeat ((first | refine ldA TL_ok rfl rfl rfl rfl rfl (Bk.all B1) ?_ | refine ld TL_ok rfl rfl rfl rfl (Bk.get B1 rfl) ?_ | refine gT rfl rfl rfl rfl ?_ | refine gF rfl rfl rfl rfl ?_ | refine condT rfl rfl ?_ | refine condF rfl rfl ?_); refine go TL_ok 200 rfl ?_)
     refine call rfl rfl rfl (ok _ (by decide) rfl) (known_any _) ?_
     rintro v wk ⟨rfl, qk⟩
     refine go TL_ok 200 rfl ?_
     exact ret (ret1 (v := .bool true) Try.results5 rfl ⟨rfl, q.trans qk⟩)
    rw [decide_eq_false f2]
    refine go TL_ok 200 rfl ?_
    repeat ((first | refine ldA TL_ok rfl rfl rfl rfl rfl (Bk.all B1) ?_ | refine ld TL_ok rfl rfl rfl rfl (Bk.get B1 rfl) ?_ | refine gT rfl rfl rfl rfl ?_ | refine gF rfl rfl rfl rfl ?_ | refine condT rfl rfl ?_ | refine condF rfl rfl ?_); refine go TL_ok 200 rfl ?_)
    refine call rfl rfl rfl (ok _ (by decide) rfl) (Round_any m _ (trm_up Hm)) ?_
    rintro v w ⟨qk, hR⟩
    have B1 := B1.no qk
    have Hm := Hm.no qk
    have q := q.trans qk
    by_cases ha : TrOk (trP m)
    case neg =>
     obtain rfl : v = .tuple #[.slice none 0 0, I 0, I 2] := by
      rcases hR with ⟨_, h⟩ | ⟨h, _⟩ | ⟨h, _⟩
      ·exact h
      ·exact absurd h ha
      ·exact absurd h ha
     refine go TL_ok 200 rfl ?_
     repeat ((first | refine ldA TL_ok rfl rfl rfl rfl rfl (Bk.all B1) ?_ | refine ld TL_ok rfl rfl rfl rfl (Bk.get B1 rfl) ?_ | refine gT rfl rfl rfl rfl ?_ | refine gF rfl rfl rfl rfl ?_ | refine condT rfl rfl ?_ | refine condF rfl rfl ?_); refine go TL_ok 200 rfl ?_)
     refine call rfl rfl rfl (ok _ (by decide) rfl) (rTour_any m _ _ Hm) ?_
     rintro x w ⟨⟨b, rfl, hb⟩, qk⟩
     have B1 := B1.no qk
     have Hm := Hm.no qk
     have q := q.trans qk
     obtain rfl : b = false := Bool.eq_false_iff.2 fun h => ha (hb.1 h)
     refine go TL_ok 200 rfl ?_
     repeat ((first | refine ldA TL_ok rfl rfl rfl rfl rfl (Bk.all B1) ?_ | refine ld TL_ok rfl rfl rfl rfl (Bk.get B1 rfl) ?_ | refine gT rfl rfl rfl rfl ?_ | refine gF rfl rfl rfl rfl ?_ | refine condT rfl rfl ?_ | refine condF rfl rfl ?_); refine go TL_ok 200 rfl ?_)
     refine call rfl rfl rfl (ok _ (by decide) rfl) (known_any _) ?_
     rintro v wk ⟨rfl, qk⟩
     refine go TL_ok 200 rfl ?_
     exact ret (ret1 (v := .bool true) Try.results5 rfl ⟨rfl, q.trans qk⟩)
    have n8 : m.S.l.length ≤ 8 := ha.n8
    have n5 : m.S.l.length ≤ 5 := by omega
    have hR := hR.resolve_left (fun h => h.1 ha)
    have R := fun W (h1 : TrM W W.heap.size m) => rRound_any m W h1 ha n5
    have hbl : (roundP (trP m)).best.length ≤ 8 ∨ (roundP (trP m)).least < 0 := by
     by_cases h0 : 0 ≤ (roundP (trP m)).least
     ·have h1 := ((round_best ha).2 h0).1.len
      have h2 : (trP m).stops.length = m.S.l.length := rfl
      simp only [iN, List.length_map] at h1
      exact .inl (by omega)
     ·exact .inr (by omega)
    generalize (roundP (trP m)).best = bl at *
    generalize (roundP (trP m)).least = lst at *
    obtain ⟨A3, n3, c3, e4, r5, rfl, hF⟩ : ∃ A n c e r, v = .tuple #[.slice A n c, I e, I r] ∧ ((lst < 0 ∧ n = 0 ∧ e = 0 ∧ r = 5) ∨ (0 ≤ lst ∧ n = bl.length ∧ e = lst ∧ r = 0 ∧ Sl w w.heap.size 1 A bl.length (iL (iN bl)))) := by
     rcases hR with ⟨_, h, rfl⟩ | ⟨_, h, A, c, rfl, own⟩
     ·exact ⟨_, _, _, _, _, rfl, .inl ⟨h, rfl, rfl, rfl⟩⟩
     ·exact ⟨_, _, _, _, _, rfl, .inr ⟨h, rfl, rfl, rfl, own_sl own⟩⟩
    clear hR
    refine go TL_ok 200 rfl ?_
    repeat ((first | refine ldA TL_ok rfl rfl rfl rfl rfl (Bk.all B1) ?_ | refine ld TL_ok rfl rfl rfl rfl (Bk.get B1 rfl) ?_ | refine gT rfl rfl rfl rfl ?_ | refine gF rfl rfl rfl rfl ?_ | refine condT rfl rfl ?_ | refine condF rfl rfl ?_); refine go TL_ok 200 rfl ?_)
    obtain ⟨wS, hwS⟩ : ∃ w', w' = w := ⟨_, rfl⟩
    have qS : Chg No wS w := hwS ▸ Chg.refl _ _
    rw [← hwS] at hF
    clear hwS
    refine call rfl rfl rfl (ok _ (by decide) rfl) (rTour_any m _ _ Hm) ?_
    rintro x w ⟨⟨b, rfl, hb⟩, qk⟩
    have B1 := B1.no qk
    have Hm := Hm.no qk
    have qS := qS.no qk
    have q := q.trans qk
    obtain rfl : b = true := hb.2 ha
    refine go TL_ok 200 rfl ?_
    repeat ((first | refine ldA TL_ok rfl rfl rfl rfl rfl (Bk.all B1) ?_ | refine ld TL_ok rfl rfl rfl rfl (Bk.get B1 rfl) ?_ | refine gT rfl rfl rfl rfl ?_ | refine gF rfl rfl rfl rfl ?_ | refine condT rfl rfl ?_ | refine condF rfl rfl ?_); refine go TL_ok 200 rfl ?_)
    refine call rfl rfl rfl (ok _ (by decide) rfl) (R _ (trm_up Hm)) ?_
    rintro x w ⟨qk, A6, c6, rfl, S6⟩
    have B1 := B1.no qk
    have Hm := Hm.no qk
    have qS := qS.no qk
    have q := q.trans qk
    rcases hF with ⟨hl, rfl, rfl, rfl⟩ | ⟨hl, rfl, rfl, rfl, S3⟩
    ·refine go TL_ok 200 rfl ?_
     repeat ((first | refine ldA TL_ok rfl rfl rfl rfl rfl (Bk.all B1) ?_ | refine ld TL_ok rfl rfl rfl rfl (Bk.get B1 rfl) ?_ | refine gT rfl rfl rfl rfl ?_ | refine gF rfl rfl rfl rfl ?_ | refine condT rfl rfl ?_ | refine condF rfl rfl ?_); refine go TL_ok 200 rfl ?_)
     rw [decide_eq_false (show ¬ 0 ≤ lst by omega)]
     refine go TL_ok 200 rfl ?_
     repeat ((first | refine ldA TL_ok rfl rfl rfl rfl rfl (Bk.all B1) ?_ | refine ld TL_ok rfl rfl rfl rfl (Bk.get B1 rfl) ?_ | refine gT rfl rfl rfl rfl ?_ | refine gF rfl rfl rfl rfl ?_ | refine condT rfl rfl ?_ | refine condF rfl rfl ?_); refine go TL_ok 200 rfl ?_)
     refine call rfl rfl rfl (ok _ (by decide) rfl) (known_any _) ?_
     rintro v wk ⟨rfl, qk⟩
     refine go TL_ok 200 rfl ?_
     exact ret (ret1 (v := .bool true) Try.results5 rfl ⟨rfl, q.trans qk⟩)
    ·have S3 := S3.no qS
     refine go TL_ok 200 rfl ?_
     repeat ((first | refine ldA TL_ok rfl rfl rfl rfl rfl (Bk.all B1) ?_ | refine ld TL_ok rfl rfl rfl rfl (Bk.get B1 rfl) ?_ | refine gT rfl rfl rfl rfl ?_ | refine gF rfl rfl rfl rfl ?_ | refine condT rfl rfl ?_ | refine condF rfl rfl ?_); refine go TL_ok 200 rfl ?_)
     rw [decide_eq_true hl]
     refine go TL_ok 200 rfl ?_
     repeat ((first | refine ldA TL_ok rfl rfl rfl rfl rfl (Bk.all B1) ?_ | refine ld TL_ok rfl rfl rfl rfl (Bk.get B1 rfl) ?_ | refine gT rfl rfl rfl rfl ?_ | refine gF rfl rfl rfl rfl ?_ | refine condT rfl rfl ?_ | refine condF rfl rfl ?_); refine go TL_ok 200 rfl ?_)
     have ebl : (iN bl).length = bl.length := by simp [iN]
     have X := Q.Same_any (iN bl) (iN bl) A3 A6 c3 c6 _ _ w (by rw [ebl]; exact S3) (by rw [ebl]; exact S6) (by rw [ebl]; omega)
     rw [ebl] at X
     refine call rfl rfl rfl (ok _ (by decide) rfl) X ?_
     clear X
     rintro x w ⟨rfl, qk⟩
     have B1 := B1.no qk
     have S6 := S6.no qk
     have qS := qS.no qk
     have q := q.trans qk
     rw [show (iN bl == iN bl) = true from beq_self_eq_true _, show max 0 e4 = e4 by omega]
     refine go TL_ok 200 rfl ?_
     repeat ((first | refine ldA TL_ok rfl rfl rfl rfl rfl (Bk.all B1) ?_ | refine ld TL_ok rfl rfl rfl rfl (Bk.get B1 rfl) ?_ | refine gT rfl rfl rfl rfl ?_ | refine gF rfl rfl rfl rfl ?_ | refine condT rfl rfl ?_ | refine condF rfl rfl ?_); refine go TL_ok 200 rfl ?_)
     rw [show (e4 == e4) = true from beq_self_eq_true _]
     refine go TL_ok 200 rfl ?_
     repeat ((first | refine ldA TL_ok rfl rfl rfl rfl rfl (Bk.all B1) ?_ | refine ld TL_ok rfl rfl rfl rfl (Bk.get B1 rfl) ?_ | refine gT rfl rfl rfl rfl ?_ | refine gF rfl rfl rfl rfl ?_ | refine condT rfl rfl ?_ | refine condF rfl rfl ?_); refine go TL_ok 200 rfl ?_)
     refine call rfl rfl rfl (ok _ (by decide) rfl) (known_any _) ?_
     rintro v wk ⟨rfl, qk⟩
     refine go TL_ok 200 rfl ?_
     exact ret (ret1 (v := .bool true) Try.results5 rfl ⟨rfl, q.trans qk⟩)
 ·rw [decide_eq_false f1]
  refine go TL_ok 200 rfl ?_
  repeat ((first | refine ldA TL_ok rfl rfl rfl rfl rfl (Bk.all B1) ?_ | refine ld TL_ok rfl rfl rfl rfl (Bk.get B1 rfl) ?_ | refine gT rfl rfl rfl rfl ?_ | refine gF rfl rfl rfl rfl ?_ | refine condT rfl rfl ?_ | refine condF rfl rfl ?_); refine go TL_ok 200 rfl ?_)
  by_cases f4 : 12 < (m.S.l.length : Int)
  ·omega
  ·rw [decide_eq_false f4]
   refine go TL_ok 200 rfl ?_
   repeat ((first | refine ldA TL_ok rfl rfl rfl rfl rfl (Bk.all B1) ?_ | refine ld TL_ok rfl rfl rfl rfl (Bk.get B1 rfl) ?_ | refine gT rfl rfl rfl rfl ?_ | refine gF rfl rfl rfl rfl ?_ | refine condT rfl rfl ?_ | refine condF rfl rfl ?_); refine go TL_ok 200 rfl ?_)
   by_cases f2 : 15 < (m.W.l.length : Int)
   ·rw [decide_eq_true f2]
    refine go TL_ok 200 rfl ?_
    repeat ((first | refine ldA TL_ok rfl rfl rfl rfl rfl (Bk.all B1) ?_ | refine ld TL_ok rfl rfl rfl rfl (Bk.get B1 rfl) ?_ | refine gT rfl rfl rfl rfl ?_ | refine gF rfl rfl rfl rfl ?_ | refine condT rfl rfl ?_ | refine condF rfl rfl ?_); refine go TL_ok 200 rfl ?_)
    refine call rfl rfl rfl (ok _ (by decide) rfl) (known_any _) ?_
    rintro v wk ⟨rfl, qk⟩
    refine go TL_ok 200 rfl ?_
    exact ret (ret1 (v := .bool true) Try.results5 rfl ⟨rfl, q.trans qk⟩)
   rw [decide_eq_false f2]
   refine go TL_ok 200 rfl ?_
   repeat ((first | refine ldA TL_ok rfl rfl rfl rfl rfl (Bk.all B1) ?_ | refine ld TL_ok rfl rfl rfl rfl (Bk.get B1 rfl) ?_ | refine gT rfl rfl rfl rfl ?_ | refine gF rfl rfl rfl rfl ?_ | refine condT rfl rfl ?_ | refine condF rfl rfl ?_); refine go TL_ok 200 rfl ?_)
   refine call rfl rfl rfl (ok _ (by decide) rfl) (Round_any m _ (trm_up Hm)) ?_
   rintro v w ⟨qk, hR⟩
   have B1 := B1.no qk
   have Hm := Hm.no qk
   have q := q.trans qk
   by_cases ha : TrOk (trP m)
   case neg =>
    obtain rfl : v = .tuple #[.slice none 0 0, I 0, I 2] := by
     rcases hR with ⟨_, h⟩ | ⟨h, _⟩ | ⟨h, _⟩
     ·exact h
     ·exact absurd h ha
     ·exact absurd h ha
    refine go TL_ok 200 rfl ?_
    repeat ((first | refine ldA TL_ok rfl rfl rfl rfl rfl (Bk.all B1) ?_ | refine ld TL_ok rfl rfl rfl rfl (Bk.get B1 rfl) ?_ | refine gT rfl rfl rfl rfl ?_ | refine gF rfl rfl rfl rfl ?_ | refine condT rfl rfl ?_ | refine condF rfl rfl ?_); refine go TL_ok 200 rfl ?_)
    refine call rfl rfl rfl (ok _ (by decide) rfl) (rTour_any m _ _ Hm) ?_
    rintro x w ⟨⟨b, rfl, hb⟩, qk⟩
    have B1 := B1.no qk
    have Hm := Hm.no qk
    have q := q.trans qk
    obtain rfl : b = false := Bool.eq_false_iff.2 fun h => ha (hb.1 h)
    refine go TL_ok 200 rfl ?_
    repeat ((first | refine ldA TL_ok rfl rfl rfl rfl rfl (Bk.all B1) ?_ | refine ld TL_ok rfl rfl rfl rfl (Bk.get B1 rfl) ?_ | refine gT rfl rfl rfl rfl ?_ | refine gF rfl rfl rfl rfl ?_ | refine condT rfl rfl ?_ | refine condF rfl rfl ?_); refine go TL_ok 200 rfl ?_)
    refine call rfl rfl rfl (ok _ (by decide) rfl) (known_any _) ?_
    rintro v wk ⟨rfl, qk⟩
    refine go TL_ok 200 rfl ?_
    exact ret (ret1 (v := .bool true) Try.results5 rfl ⟨rfl, q.trans qk⟩)
   have n8 : m.S.l.length ≤ 8 := ha.n8
   have n5 : m.S.l.length ≤ 5 := by omega
   have hR := hR.resolve_left (fun h => h.1 ha)
   have R := fun W (h1 : TrM W W.heap.size m) => rRound_any m W h1 ha n5
   have hbl : (roundP (trP m)).best.length ≤ 8 ∨ (roundP (trP m)).least < 0 := by
    by_cases h0 : 0 ≤ (roundP (trP m)).least
    ·have h1 := ((round_best ha).2 h0).1.len
     have h2 : (trP m).stops.length = m.S.l.length := rfl
     simp only [iN, List.length_map] at h1
     exact .inl (by omega)
    ·exact .inr (by omega)
   generalize (roundP (trP m)).best = bl at *
   generalize (roundP (trP m)).least = lst at *
   obtain ⟨A3, n3, c3, e4, r5, rfl, hF⟩ : ∃ A n c e r, v = .tuple #[.slice A n c, I e, I r] ∧ ((lst < 0 ∧ n = 0 ∧ e = 0 ∧ r = 5) ∨ (0 ≤ lst ∧ n = bl.length ∧ e = lst ∧ r = 0 ∧ Sl w w.heap.size 1 A bl.length (iL (iN bl)))) := by
    rcases hR with ⟨_, h, rfl⟩ | ⟨_, h, A, c, rfl, own⟩
    ·exact ⟨_, _, _, _, _, rfl, .inl ⟨h, rfl, rfl, rfl⟩⟩
    ·exact ⟨_, _, _, _, _, rfl, .inr ⟨h, rfl, rfl, rfl, own_sl own⟩⟩
   clear hR
   refine go TL_ok 200 rfl ?_
   repeat ((first | refine ldA TL_ok rfl rfl rfl rfl rfl (Bk.all B1) ?_ | refine ld TL_ok rfl rfl rfl rfl (Bk.get B1 rfl) ?_ | refine gT rfl rfl rfl rfl ?_ | refine gF rfl rfl rfl rfl ?_ | refine condT rfl rfl ?_ | refine condF rfl rfl ?_); refine go TL_ok 200 rfl ?_)
   obtain ⟨wS, hwS⟩ : ∃ w', w' = w := ⟨_, rfl⟩
   have qS : Chg No wS w := hwS ▸ Chg.refl _ _
   rw [← hwS] at hF
   clear hwS
   refine call rfl rfl rfl (ok _ (by decide) rfl) (rTour_any m _ _ Hm) ?_
   rintro x w ⟨⟨b, rfl, hb⟩, qk⟩
   have B1 := B1.no qk
   have Hm := Hm.no qk
   have qS := qS.no qk
   have q := q.trans qk
   obtain rfl : b = true := hb.2 ha
   refine go TL_ok 200 rfl ?_
   repeat ((first | refine ldA TL_ok rfl rfl rfl rfl rfl (Bk.all B1) ?_ | refine ld TL_ok rfl rfl rfl rfl (Bk.get B1 rfl) ?_ | refine gT rfl rfl rfl rfl ?_ | refine gF rfl rfl rfl rfl ?_ | refine condT rfl rfl ?_ | refine condF rfl rfl ?_); refine go TL_ok 200 rfl ?_)
   refine call rfl rfl rfl (ok _ (by decide) rfl) (R _ (trm_up Hm)) ?_
   rintro x w ⟨qk, A6, c6, rfl, S6⟩
   have B1 := B1.no qk
   have Hm := Hm.no qk
   have qS := qS.no qk
   have q := q.trans qk
   rcases hF with ⟨hl, rfl, rfl, rfl⟩ | ⟨hl, rfl, rfl, rfl, S3⟩
   ·refine go TL_ok 200 rfl ?_
    repeat ((first | refine ldA TL_ok rfl rfl rfl rfl rfl (Bk.all B1) ?_ | refine ld TL_ok rfl rfl rfl rfl (Bk.get B1 rfl) ?_ | refine gT rfl rfl rfl rfl ?_ | refine gF rfl rfl rfl rfl ?_ | refine condT rfl rfl ?_ | refine condF rfl rfl ?_); refine go TL_ok 200 rfl ?_)
    rw [decide_eq_false (show ¬ 0 ≤ lst by omega)]
    refine go TL_ok 200 rfl ?_
    repeat ((first | refine ldA TL_ok rfl rfl rfl rfl rfl (Bk.all B1) ?_ | refine ld TL_ok rfl rfl rfl rfl (Bk.get B1 rfl) ?_ | refine gT rfl rfl rfl rfl ?_ | refine gF rfl rfl rfl rfl ?_ | refine condT rfl rfl ?_ | refine condF rfl rfl ?_); refine go TL_ok 200 rfl ?_)
    refine call rfl rfl rfl (ok _ (by decide) rfl) (known_any _) ?_
    rintro v wk ⟨rfl, qk⟩
    refine go TL_ok 200 rfl ?_
    exact ret (ret1 (v := .bool true) Try.results5 rfl ⟨rfl, q.trans qk⟩)
   ·have S3 := S3.no qS
    refine go TL_ok 200 rfl ?_
    repeat ((first | refine ldA TL_ok rfl rfl rfl rfl rfl (Bk.all B1) ?_ | refine ld TL_ok rfl rfl rfl rfl (Bk.get B1 rfl) ?_ | refine gT rfl rfl rfl rfl ?_ | refine gF rfl rfl rfl rfl ?_ | refine condT rfl rfl ?_ | refine condF rfl rfl ?_); refine go TL_ok 200 rfl ?_)
    rw [decide_eq_true hl]
    refine go TL_ok 200 rfl ?_
    repeat ((first | refine ldA TL_ok rfl rfl rfl rfl rfl (Bk.all B1) ?_ | refine ld TL_ok rfl rfl rfl rfl (Bk.get B1 rfl) ?_ | refine gT rfl rfl rfl rfl ?_ | refine gF rfl rfl rfl rfl ?_ | refine condT rfl rfl ?_ | refine condF rfl rfl ?_); refine go TL_ok 200 rfl ?_)
    have ebl : (iN bl).length = bl.length := by simp [iN]
    have X := Q.Same_any (iN bl) (iN bl) A3 A6 c3 c6 _ _ w (by rw [ebl]; exact S3) (by rw [ebl]; exact S6) (by rw [ebl]; omega)
    rw [ebl] at X
    refine call rfl rfl rfl (ok _ (by decide) rfl) X ?_
    clear X
    rintro x w ⟨rfl, qk⟩
    have B1 := B1.no qk
    have S6 := S6.no qk
    have qS := qS.no qk
    have q := q.trans qk
    rw [show (iN bl == iN bl) = true from beq_self_eq_true _, show max 0 e4 = e4 by omega]
    refine go TL_ok 200 rfl ?_
    repeat ((first | refine ldA TL_ok rfl rfl rfl rfl rfl (Bk.all B1) ?_ | refine ld TL_ok rfl rfl rfl rfl (Bk.get B1 rfl) ?_ | refine gT rfl rfl rfl rfl ?_ | refine gF rfl rfl rfl rfl ?_ | refine condT rfl rfl ?_ | refine condF rfl rfl ?_); refine go TL_ok 200 rfl ?_)
    rw [show (e4 == e4) = true from beq_self_eq_true _]
    refine go TL_ok 200 rfl ?_
    repeat ((first | refine ldA TL_ok rfl rfl rfl rfl rfl (Bk.all B1) ?_ | refine ld TL_ok rfl rfl rfl rfl (Bk.get B1 rfl) ?_ | refine gT rfl rfl rfl rfl ?_ | refine gF rfl rfl rfl rfl ?_ | refine condT rfl rfl ?_ | refine condF rfl rfl ?_); refine go TL_ok 200 rfl ?_)
    refine call rfl rfl rfl (ok _ (by decide) rfl) (known_any _) ?_
    rintro v wk ⟨rfl, qk⟩
    refine go TL_ok 200 rfl ?_
    exact ret (ret1 (v := .bool true) Try.results5 rfl ⟨rfl, q.trans qk⟩)
end Go.Proofs.Yteenhfnamjbaiaa
