/- The walk of CampScans. -/
import Derived.Test.YteenhfnamjbaiaaK1
import Derived.Test.YteenhfnamjbaiaaW4
import Derived.Test.YteenhfnamjbaiaaW5
import Derived.Test.YteenhfnamjbaiaaE4
namespace Go.Proofs.Yteenhfnamjbaiaa
open Go.Ev Go.Proofs
open Go.Camp (Sc ScOk Sc8 runS runS_len smallP small_ok)
attribute [local irreducible] At AtH
set_option maxRecDepth 20000 in
set_option maxHeartbeats 16000000 in
theorem walk_CampScans (m : Scm) (o : Sli Bool) (w0 : World) (hm : InN w0 m) (ho : InB w0 o) :
  Ret Try.prog 9 [.agg (scL m).toArray, .slice o.A o.l.length o.c] w0 fun x w' => x = .bool true ∧ Chg No w0 w' := by
 have So := ho.sl
 have Hm := hm.m
 refine enter Try.func9 rfl Try.ntmps9 rfl ?_
 refine go TD_ok 200 rfl ?_
 refine bx rfl rfl rfl (cs := scL m) rfl ?_
 intro g2 u2 hg2 hs2 q2 B2
 have q := q2
 have So := So.no q
 have Hm := Hm.no q
 refine go TD_ok 200 rfl ?_
 repeat ((first | refine ldA TD_ok rfl rfl rfl rfl rfl (Bk.all B2) ?_ | refine ld TD_ok rfl rfl rfl rfl (Bk.get B2 rfl) ?_ | refine gT rfl rfl rfl rfl ?_ | refine gF rfl rfl rfl rfl ?_ | refine condT rfl rfl ?_ | refine condF rfl rfl ?_); refine go TD_ok 200 rfl ?_)
 refine call rfl rfl rfl (ok _ (by decide) rfl) (states_any m 20 _ _ Hm) ?_
 rintro x w ⟨⟨b, rfl, hb⟩, qk⟩
 have B2 := B2.no qk
 have So := So.no qk
 have Hm := Hm.no qk
 have q := q.trans qk
 cases b with
 | false =>
  refine go TD_ok 200 rfl ?_
  repeat ((first | refine ldA TD_ok rfl rfl rfl rfl rfl (Bk.all B2) ?_ | refine ld TD_ok rfl rfl rfl rfl (Bk.get B2 rfl) ?_ | refine gT rfl rfl rfl rfl ?_ | refine gF rfl rfl rfl rfl ?_ | refine condT rfl rfl ?_ | refine condF rfl rfl ?_); refine go TD_ok 200 rfl ?_)
  refine call rfl rfl rfl (ok _ (by decide) rfl) (known_any _) ?_
  rintro v wk ⟨rfl, qk⟩
  refine go TD_ok 200 rfl ?_
  exact ret (ret1 (v := .bool true) Try.results9 rfl ⟨rfl, q.trans qk⟩)
 | true =>
 refine go TD_ok 200 rfl ?_
 repeat ((first | refine ldA TD_ok rfl rfl rfl rfl rfl (Bk.all B2) ?_ | refine ld TD_ok rfl rfl rfl rfl (Bk.get B2 rfl) ?_ | refine gT rfl rfl rfl rfl ?_ | refine gF rfl rfl rfl rfl ?_ | refine condT rfl rfl ?_ | refine condF rfl rfl ?_); refine go TD_ok 200 rfl ?_)
 by_cases h1 : 100 < (o.l.length : Int)
 ·rw [decide_eq_true h1]
  refine go TD_ok 200 rfl ?_
  repeat ((first | refine ldA TD_ok rfl rfl rfl rfl rfl (Bk.all B2) ?_ | refine ld TD_ok rfl rfl rfl rfl (Bk.get B2 rfl) ?_ | refine gT rfl rfl rfl rfl ?_ | refine gF rfl rfl rfl rfl ?_ | refine condT rfl rfl ?_ | refine condF rfl rfl ?_); refine go TD_ok 200 rfl ?_)
  by_cases h2 : (o.l.length : Int) ≤ 10000
  ·rw [decide_eq_true h2]
   refine go TD_ok 200 rfl ?_
   repeat ((first | refine ldA TD_ok rfl rfl rfl rfl rfl (Bk.all B2) ?_ | refine ld TD_ok rfl rfl rfl rfl (Bk.get B2 rfl) ?_ | refine gT rfl rfl rfl rfl ?_ | refine gF rfl rfl rfl rfl ?_ | refine condT rfl rfl ?_ | refine condF rfl rfl ?_); refine go TD_ok 200 rfl ?_)
   refine call rfl rfl rfl (ok _ (by decide) rfl) (known_any _) ?_
   rintro v wk ⟨rfl, qk⟩
   refine go TD_ok 200 rfl ?_
   exact ret (ret1 (v := .bool true) Try.results9 rfl ⟨rfl, q.trans qk⟩)
  ·rw [decide_eq_false h2]
   refine go TD_ok 200 rfl ?_
   repeat ((first | refine ldA TD_ok rfl rfl rfl rfl rfl (Bk.all B2) ?_ | refine ld TD_ok rfl rfl rfl rfl (Bk.get B2 rfl) ?_ | refine gT rfl rfl rfl rfl ?_ | refine gF rfl rfl rfl rfl ?_ | refine condT rfl rfl ?_ | refine condF rfl rfl ?_); refine go TD_ok 200 rfl ?_)
   by_cases h3 : 10010 < (o.l.length : Int)
   ·rw [decide_eq_true h3]
    refine go TD_ok 200 rfl ?_
    repeat ((first | refine ldA TD_ok rfl rfl rfl rfl rfl (Bk.all B2) ?_ | refine ld TD_ok rfl rfl rfl rfl (Bk.get B2 rfl) ?_ | refine gT rfl rfl rfl rfl ?_ | refine gF rfl rfl rfl rfl ?_ | refine condT rfl rfl ?_ | refine condF rfl rfl ?_); refine go TD_ok 200 rfl ?_)
    refine call rfl rfl rfl (ok _ (by decide) rfl) (known_any _) ?_
    rintro v wk ⟨rfl, qk⟩
    refine go TD_ok 200 rfl ?_
    exact ret (ret1 (v := .bool true) Try.results9 rfl ⟨rfl, q.trans qk⟩)
   rw [decide_eq_false h3]
   have hlen : o.l.length ≤ 1000000 := by omega
   refine go TD_ok 200 rfl ?_
   repeat ((first | refine ldA TD_ok rfl rfl rfl rfl rfl (Bk.all B2) ?_ | refine ld TD_ok rfl rfl rfl rfl (Bk.get B2 rfl) ?_ | refine gT rfl rfl rfl rfl ?_ | refine gF rfl rfl rfl rfl ?_ | refine condT rfl rfl ?_ | refine condF rfl rfl ?_); refine go TD_ok 200 rfl ?_)
   refine call rfl rfl rfl (ok _ (by decide) rfl) (Scan_any m o.l o.A o.c _ _ _ Hm So hlen) ?_
   rintro x w ⟨qk, hS⟩
   have B2 := B2.no qk
   have So := So.no qk
   have Hm := Hm.no qk
   have q := q.trans qk
   by_cases h8 : Sc8 (scP m)
   case neg =>
    obtain rfl : x = .tuple #[.slice none 0 0, I 2] := by
     rcases hS with ⟨_, h⟩ | ⟨h, _⟩ | ⟨h, _⟩
     ·exact h
     ·exact absurd h h8
     ·exact absurd h h8
    refine go TD_ok 200 rfl ?_
    repeat ((first | refine ldA TD_ok rfl rfl rfl rfl rfl (Bk.all B2) ?_ | refine ld TD_ok rfl rfl rfl rfl (Bk.get B2 rfl) ?_ | refine gT rfl rfl rfl rfl ?_ | refine gF rfl rfl rfl rfl ?_ | refine condT rfl rfl ?_ | refine condF rfl rfl ?_); refine go TD_ok 200 rfl ?_)
    refine call rfl rfl rfl (ok _ (by decide) rfl) (Smallest_any m _ _ Hm) ?_
    rintro x w ⟨qk, hX⟩
    have B2 := B2.no qk
    have So := So.no qk
    have Hm := Hm.no qk
    have q := q.trans qk
    obtain rfl : x = .tuple #[.agg #[.slice none 0 0, .slice none 0 0], I 2] := by
     rcases hX with ⟨_, h⟩ | ⟨h, _⟩
     ·exact h
     ·exact absurd h h8
    refine go TD_ok 200 rfl ?_
    refine nw rfl rfl (z := .agg #[.slice none 0 0, .slice none 0 0]) (by kernel_rfl) (cs := [.slice none 0 0, .slice none 0 0]) rfl ?_
    intro g7 w hg7 hs7 qk B7
    have l2 := B2.lt
    have lq := q.size
    have B2 := B2.no qk
    have So := So.no qk
    have Hm := Hm.no qk
    have q := q.trans qk
    refine go TD_ok 200 rfl ?_
    refine stA TD_ok rfl rfl rfl rfl (vs := [.slice none 0 0, .slice none 0 0]) rfl rfl rfl B7 rfl ?_
    intro w qk B7 hz7
    have B7 : Bk w g7 77 [.slice none 0 0, .slice none 0 0] := B7
    have B2 := B2.keep qk (by omega)
    have Hm := Hm.keep qk (fun k hk e => by omega)
    have q := q.step qk (fun k hk e => by omega)
    refine go TD_ok 200 rfl ?_
    repeat ((first | refine ldA TD_ok rfl rfl rfl rfl rfl (Bk.all B2) ?_ | refine ldA TD_ok rfl rfl rfl rfl rfl (Bk.all B7) ?_ | refine ld TD_ok rfl rfl rfl rfl (Bk.get B2 rfl) ?_ | refine ld TD_ok rfl rfl rfl rfl (Bk.get B7 rfl) ?_ | refine gT rfl rfl rfl rfl ?_ | refine gF rfl rfl rfl rfl ?_ | refine condT rfl rfl ?_ | refine condF rfl rfl ?_); refine go TD_ok 200 rfl ?_)
    refine call rfl rfl rfl (ok _ (by decide) rfl) (rScanner_any m _ _ Hm) ?_
    rintro x w ⟨⟨b, rfl, hb⟩, qk⟩
    have B2 := B2.no qk
    have B7 := B7.no qk
    have Hm := Hm.no qk
    have q := q.trans qk
    obtain rfl : b = false := Bool.eq_false_iff.2 fun h => h8 (hb.1 h)
    refine go TD_ok 200 rfl ?_
    repeat ((first | refine ldA TD_ok rfl rfl rfl rfl rfl (Bk.all B2) ?_ | refine ldA TD_ok rfl rfl rfl rfl rfl (Bk.all B7) ?_ | refine ld TD_ok rfl rfl rfl rfl (Bk.get B2 rfl) ?_ | refine ld TD_ok rfl rfl rfl rfl (Bk.get B7 rfl) ?_ | refine gT rfl rfl rfl rfl ?_ | refine gF rfl rfl rfl rfl ?_ | refine condT rfl rfl ?_ | refine condF rfl rfl ?_); refine go TD_ok 200 rfl ?_)
    refine call rfl rfl rfl (ok _ (by decide) rfl) (SameScanner_any mZ mZ 0 0 _ (mZ_m _) (mZ_m _) (by decide) (by decide)) ?_
    rintro x w ⟨rfl, qk⟩
    have B2 := B2.no qk
    have B7 := B7.no qk
    have Hm := Hm.no qk
    have q := q.trans qk
    rw [decide_eq_true (rfl : scP mZ = scP mZ)]
    refine go TD_ok 200 rfl ?_
    repeat ((first | refine ldA TD_ok rfl rfl rfl rfl rfl (Bk.all B2) ?_ | refine ldA TD_ok rfl rfl rfl rfl rfl (Bk.all B7) ?_ | refine ld TD_ok rfl rfl rfl rfl (Bk.get B2 rfl) ?_ | refine ld TD_ok rfl rfl rfl rfl (Bk.get B7 rfl) ?_ | refine gT rfl rfl rfl rfl ?_ | refine gF rfl rfl rfl rfl ?_ | refine condT rfl rfl ?_ | refine condF rfl rfl ?_); refine go TD_ok 200 rfl ?_)
    refine call rfl rfl rfl (ok _ (by decide) rfl) (known_any _) ?_
    rintro v wk ⟨rfl, qk⟩
    refine go TD_ok 200 rfl ?_
    exact ret (ret1 (v := .bool true) Try.results9 rfl ⟨rfl, q.trans qk⟩)
   obtain ⟨k1, k2, _, _⟩ := small_ok h8.1
   have hn8 := h8.2
   have hS := hS.resolve_left (fun h => h.1 h8)
   obtain ⟨A5, n5, c5, r6, rfl, hF⟩ : ∃ A n c r, x = .tuple #[.slice A n c, I r] ∧ ((10000 < o.l.length ∧ n = 0 ∧ r = 3) ∨ (o.l.length ≤ 10000 ∧ n = o.l.length ∧ r = 0 ∧ Sl w w.heap.size 1 A o.l.length (bL (runS (scP m) 0 o.l)))) := by
    rcases hS with ⟨_, h, rfl⟩ | ⟨_, h, A, c, rfl, own⟩
    ·exact ⟨_, _, _, _, rfl, .inl ⟨h, rfl, rfl⟩⟩
    ·exact ⟨_, _, _, _, rfl, .inr ⟨h, rfl, rfl, own_sl own⟩⟩
   clear hS
   have hF : ∀ w', Chg No w w' → ((10000 < o.l.length ∧ n5 = 0 ∧ r6 = 3) ∨ (o.l.length ≤ 10000 ∧ n5 = o.l.length ∧ r6 = 0 ∧ Sl w' w.heap.size 1 A5 o.l.length (bL (runS (scP m) 0 o.l)))) := fun w' q' => by
    rcases hF with h | ⟨h1, h2, h3, h4⟩
    ·exact .inl h
    ·exact .inr ⟨h1, h2, h3, h4.no q'⟩
   obtain ⟨wS, hwS⟩ : ∃ w', w' = w := ⟨_, rfl⟩
   rw [← hwS] at hF
   have qS : Chg No wS w := hwS ▸ Chg.refl _ _
   clear hwS
   refine go TD_ok 200 rfl ?_
   repeat ((first | refine ldA TD_ok rfl rfl rfl rfl rfl (Bk.all B2) ?_ | refine ld TD_ok rfl rfl rfl rfl (Bk.get B2 rfl) ?_ | refine gT rfl rfl rfl rfl ?_ | refine gF rfl rfl rfl rfl ?_ | refine condT rfl rfl ?_ | refine condF rfl rfl ?_); refine go TD_ok 200 rfl ?_)
   refine call rfl rfl rfl (ok _ (by decide) rfl) (Smallest_any m _ _ Hm) ?_
   rintro x w ⟨qk, hX⟩
   have B2 := B2.no qk
   have So := So.no qk
   have Hm := Hm.no qk
   have qS := qS.no qk
   have q := q.trans qk
   have hX := (hX.resolve_left (fun h => h.1 h8)).2
   obtain ⟨x, rfl, hV⟩ := hX
   obtain ⟨mx, hmx, rfl, HX⟩ := hV.m k1.al (by omega)
   refine go TD_ok 200 rfl ?_
   refine nw rfl rfl (z := .agg #[.slice none 0 0, .slice none 0 0]) (by kernel_rfl) (cs := [.slice none 0 0, .slice none 0 0]) rfl ?_
   intro g7 w hg7 hs7 qk B7
   have l2 := B2.lt
   have lq := q.size
   have lX := HX.n.2.1
   have lS := qS.size
   have B2 := B2.no qk
   have So := So.no qk
   have Hm := Hm.no qk
   have HX := HX.no qk
   have q := q.trans qk
   have qS := qS.trans qk
   refine go TD_ok 200 rfl ?_
   refine stA TD_ok rfl rfl rfl rfl (vs := scL mx) rfl rfl rfl B7 rfl ?_
   intro w qk B7 hz7
   have B7 : Bk w g7 77 (scL mx) := B7
   have B2 := B2.keep qk (by omega)
   have So := So.keep qk (fun k hk e => by omega)
   have Hm := Hm.keep qk (fun k hk e => by omega)
   have HX := HX.keep qk (fun k hk e => by omega)
   have q := q.step qk (fun k hk e => by omega)
   have qS := qS.step qk (fun k hk e => by omega)
   have ex : scP mx = smallP (scP m) := hmx
   have hxN : mx.N.l.length ≤ 128 := by
    have e : (scP mx).nx.length = mx.N.l.length := rfl
    rw [ex] at e
    omega
   have hxO : mx.O.l.length ≤ 128 := by
    have e : (scP mx).al.length = mx.O.l.length := rfl
    rw [ex, k1.al] at e
    omega
   refine go TD_ok 200 rfl ?_
   repeat ((first | refine ldA TD_ok rfl rfl rfl rfl rfl (Bk.all B2) ?_ | refine ldA TD_ok rfl rfl rfl rfl rfl (Bk.all B7) ?_ | refine ld TD_ok rfl rfl rfl rfl (Bk.get B2 rfl) ?_ | refine ld TD_ok rfl rfl rfl rfl (Bk.get B7 rfl) ?_ | refine gT rfl rfl rfl rfl ?_ | refine gF rfl rfl rfl rfl ?_ | refine condT rfl rfl ?_ | refine condF rfl rfl ?_); refine go TD_ok 200 rfl ?_)
   refine call rfl rfl rfl (ok _ (by decide) rfl) (rScanner_any m _ _ Hm) ?_
   rintro x w ⟨⟨b, rfl, hb⟩, qk⟩
   have B2 := B2.no qk
   have B7 := B7.no qk
   have So := So.no qk
   have Hm := Hm.no qk
   have HX := HX.no qk
   have qS := qS.no qk
   have q := q.trans qk
   obtain rfl : b = true := hb.2 h8
   refine go TD_ok 200 rfl ?_
   repeat ((first | refine ldA TD_ok rfl rfl rfl rfl rfl (Bk.all B2) ?_ | refine ldA TD_ok rfl rfl rfl rfl rfl (Bk.all B7) ?_ | refine ld TD_ok rfl rfl rfl rfl (Bk.get B2 rfl) ?_ | refine ld TD_ok rfl rfl rfl rfl (Bk.get B7 rfl) ?_ | refine gT rfl rfl rfl rfl ?_ | refine gF rfl rfl rfl rfl ?_ | refine condT rfl rfl ?_ | refine condF rfl rfl ?_); refine go TD_ok 200 rfl ?_)
   refine draw mixed (fun w' => Chg No w w') ([0,1,2,3,4].map (fun i => (i, true)) ++ [(5, false)] ++ [(6, false)] ++ [7,8].map (fun i => (i, true))) rfl (by kernel_rfl) (Chg.drew _) ?_
   have qd := Chg.drew w
   refine goH TD_ok 200 rfl ?_
   repeat (first | (refine gTH rfl rfl rfl rfl ?_; refine goH TD_ok 200 rfl ?_) | (refine gFH rfl rfl rfl rfl ?_; refine goH TD_ok 200 rfl ?_))
   refine quietH rfl (fun w' hS => r_loadA TD_ok rfl rfl rfl rfl (B7.no hS).all) ?_
   refine goH TD_ok 200 rfl ?_
   refine quietH rfl (fun w' hS => r_loadA TD_ok rfl rfl rfl rfl (B2.no hS).all) ?_
   refine goH TD_ok 200 rfl ?_
   refine callE rfl rfl rfl (ok _ (by decide) rfl) (rSmallest_any m _ _ (Hm.no qd) h8) ?_
   rintro x w1 ⟨qk, hO⟩
   obtain ⟨my, hmy, rfl, HY⟩ := hO.m k1.al (by omega)
   have qd := qd.trans qk
   refine ⟨qd, ?_⟩
   refine goH TD_ok 200 rfl ?_
   refine callE rfl rfl rfl (ok _ (by decide) rfl) (SameScanner_any mx my _ _ _ (HX.no qd) HY (by omega) (by omega)) ?_
   rintro x w2 ⟨rfl, qk⟩
   have qd := qd.trans qk
   refine ⟨qd, ?_⟩
   rw [decide_eq_true (show scP mx = scP my by rw [ex, hmy])]
   refine goH TD_ok 200 rfl ?_
   repeat (first | (refine gTH rfl rfl rfl rfl ?_; refine goH TD_ok 200 rfl ?_) | (refine gFH rfl rfl rfl rfl ?_; refine goH TD_ok 200 rfl ?_))
   refine endH ?_
   have B2 := B2.no qd
   have So := So.no qd
   have Hm := Hm.no qd
   have q := q.trans qd
   have qS := qS.trans qd
   refine go TD_ok 200 rfl ?_
   repeat ((first | refine ldA TD_ok rfl rfl rfl rfl rfl (Bk.all B2) ?_ | refine ld TD_ok rfl rfl rfl rfl (Bk.get B2 rfl) ?_ | refine gT rfl rfl rfl rfl ?_ | refine gF rfl rfl rfl rfl ?_ | refine condT rfl rfl ?_ | refine condF rfl rfl ?_); refine go TD_ok 200 rfl ?_)
   rcases hF _ qS with ⟨hl, rfl, rfl⟩ | ⟨hl, rfl, rfl, S5⟩
   ·rw [decide_eq_true (show 10000 < (o.l.length : Int) by omega)]
    refine go TD_ok 200 rfl ?_
    repeat ((first | refine ldA TD_ok rfl rfl rfl rfl rfl (Bk.all B2) ?_ | refine ld TD_ok rfl rfl rfl rfl (Bk.get B2 rfl) ?_ | refine gT rfl rfl rfl rfl ?_ | refine gF rfl rfl rfl rfl ?_ | refine condT rfl rfl ?_ | refine condF rfl rfl ?_); refine go TD_ok 200 rfl ?_)
    refine call rfl rfl rfl (ok _ (by decide) rfl) (known_any _) ?_
    rintro v wk ⟨rfl, qk⟩
    refine go TD_ok 200 rfl ?_
    exact ret (ret1 (v := .bool true) Try.results9 rfl ⟨rfl, q.trans qk⟩)
   rw [decide_eq_false (show ¬ 10000 < (o.l.length : Int) by omega)]
   refine go TD_ok 200 rfl ?_
   repeat ((first | refine ldA TD_ok rfl rfl rfl rfl rfl (Bk.all B2) ?_ | refine ld TD_ok rfl rfl rfl rfl (Bk.get B2 rfl) ?_ | refine gT rfl rfl rfl rfl ?_ | refine gF rfl rfl rfl rfl ?_ | refine condT rfl rfl ?_ | refine condF rfl rfl ?_); refine go TD_ok 200 rfl ?_)
   refine call rfl rfl rfl (ok _ (by decide) rfl) (rScan_any m o.l o.A o.c _ _ _ Hm h8.1 So hlen) ?_
   rintro x w ⟨qk, A6, c6, rfl, own6⟩
   have B2 := B2.no qk
   have So := So.no qk
   have Hm := Hm.no qk
   have S5 := S5.no qk
   have q := q.trans qk
   have X := SameCells_any (runS (scP m) 0 o.l) (runS (scP m) 0 o.l) A5 A6 c5 c6 _ _ w (by rw [runS_len]; exact S5) (by rw [runS_len]; exact own_sl own6) (by rw [runS_len]; omega)
   rw [runS_len] at X
   refine go TD_ok 200 rfl ?_
   repeat ((first | refine ldA TD_ok rfl rfl rfl rfl rfl (Bk.all B2) ?_ | refine ld TD_ok rfl rfl rfl rfl (Bk.get B2 rfl) ?_ | refine gT rfl rfl rfl rfl ?_ | refine gF rfl rfl rfl rfl ?_ | refine condT rfl rfl ?_ | refine condF rfl rfl ?_); refine go TD_ok 200 rfl ?_)
   refine call rfl rfl rfl (ok _ (by decide) rfl) X ?_
   clear X
   rintro x w ⟨rfl, qk⟩
   have B2 := B2.no qk
   have So := So.no qk
   have Hm := Hm.no qk
   have S5 := S5.no qk
   have q := q.trans qk
   rw [show (runS (scP m) 0 o.l == runS (scP m) 0 o.l) = true from beq_self_eq_true _]
   refine go TD_ok 200 rfl ?_
   repeat ((first | refine ldA TD_ok rfl rfl rfl rfl rfl (Bk.all B2) ?_ | refine ld TD_ok rfl rfl rfl rfl (Bk.get B2 rfl) ?_ | refine gT rfl rfl rfl rfl ?_ | refine gF rfl rfl rfl rfl ?_ | refine condT rfl rfl ?_ | refine condF rfl rfl ?_); refine go TD_ok 200 rfl ?_)
   refine call rfl rfl rfl (ok _ (by decide) rfl) (known_any _) ?_
   rintro v wk ⟨rfl, qk⟩
   refine go TD_ok 200 rfl ?_
   exact ret (ret1 (v := .bool true) Try.results9 rfl ⟨rfl, q.trans qk⟩)
 ·rw [decide_eq_false h1]
  refine go TD_ok 200 rfl ?_
  repeat ((first | refine ldA TD_ok rfl rfl rfl rfl rfl (Bk.all B2) ?_ | refine ld TD_ok rfl rfl rfl rfl (Bk.get B2 rfl) ?_ | refine gT rfl rfl rfl rfl ?_ | refine gF rfl rfl rfl rfl ?_ | refine condT rfl rfl ?_ | refine condF rfl rfl ?_); refine go TD_ok 200 rfl ?_)
  by_cases h3 : 10010 < (o.l.length : Int)
  ·rw [decide_eq_true h3]
   refine go TD_ok 200 rfl ?_
   repeat ((first | refine ldA TD_ok rfl rfl rfl rfl rfl (Bk.all B2) ?_ | refine ld TD_ok rfl rfl rfl rfl (Bk.get B2 rfl) ?_ | refine gT rfl rfl rfl rfl ?_ | refine gF rfl rfl rfl rfl ?_ | refine condT rfl rfl ?_ | refine condF rfl rfl ?_); refine go TD_ok 200 rfl ?_)
   refine call rfl rfl rfl (ok _ (by decide) rfl) (known_any _) ?_
   rintro v wk ⟨rfl, qk⟩
   refine go TD_ok 200 rfl ?_
   exact ret (ret1 (v := .bool true) Try.results9 rfl ⟨rfl, q.trans qk⟩)
  rw [decide_eq_false h3]
  have hlen : o.l.length ≤ 1000000 := by omega
  refine go TD_ok 200 rfl ?_
  repeat ((first | refine ldA TD_ok rfl rfl rfl rfl rfl (Bk.all B2) ?_ | refine ld TD_ok rfl rfl rfl rfl (Bk.get B2 rfl) ?_ | refine gT rfl rfl rfl rfl ?_ | refine gF rfl rfl rfl rfl ?_ | refine condT rfl rfl ?_ | refine condF rfl rfl ?_); refine go TD_ok 200 rfl ?_)
  refine call rfl rfl rfl (ok _ (by decide) rfl) (Scan_any m o.l o.A o.c _ _ _ Hm So hlen) ?_
  rintro x w ⟨qk, hS⟩
  have B2 := B2.no qk
  have So := So.no qk
  have Hm := Hm.no qk
  have q := q.trans qk
  by_cases h8 : Sc8 (scP m)
  case neg =>
   obtain rfl : x = .tuple #[.slice none 0 0, I 2] := by
    rcases hS with ⟨_, h⟩ | ⟨h, _⟩ | ⟨h, _⟩
    ·exact h
    ·exact absurd h h8
    ·exact absurd h h8
   refine go TD_ok 200 rfl ?_
   repeat ((first | refine ldA TD_ok rfl rfl rfl rfl rfl (Bk.all B2) ?_ | refine ld TD_ok rfl rfl rfl rfl (Bk.get B2 rfl) ?_ | refine gT rfl rfl rfl rfl ?_ | refine gF rfl rfl rfl rfl ?_ | refine condT rfl rfl ?_ | refine condF rfl rfl ?_); refine go TD_ok 200 rfl ?_)
   refine call rfl rfl rfl (ok _ (by decide) rfl) (Smallest_any m _ _ Hm) ?_
   rintro x w ⟨qk, hX⟩
   have B2 := B2.no qk
   have So := So.no qk
   have Hm := Hm.no qk
   have q := q.trans qk
   obtain rfl : x = .tuple #[.agg #[.slice none 0 0, .slice none 0 0], I 2] := by
    rcases hX with ⟨_, h⟩ | ⟨h, _⟩
    ·exact h
    ·exact absurd h h8
   refine go TD_ok 200 rfl ?_
   refine nw rfl rfl (z := .agg #[.slice none 0 0, .slice none 0 0]) (by kernel_rfl) (cs := [.slice none 0 0, .slice none 0 0]) rfl ?_
   intro g7 w hg7 hs7 qk B7
   have l2 := B2.lt
   have lq := q.size
   have B2 := B2.no qk
   have So := So.no qk
   have Hm := Hm.no qk
   have q := q.trans qk
   refine go TD_ok 200 rfl ?_
   refine stA TD_ok rfl rfl rfl rfl (vs := [.slice none 0 0, .slice none 0 0]) rfl rfl rfl B7 rfl ?_
   intro w qk B7 hz7
   have B7 : Bk w g7 77 [.slice none 0 0, .slice none 0 0] := B7
   have B2 := B2.keep qk (by omega)
   have Hm := Hm.keep qk (fun k hk e => by omega)
   have q := q.step qk (fun k hk e => by omega)
   refine go TD_ok 200 rfl ?_
   repeat ((first | refine ldA TD_ok rfl rfl rfl rfl rfl (Bk.all B2) ?_ | refine ldA TD_ok rfl rfl rfl rfl rfl (Bk.all B7) ?_ | refine ld TD_ok rfl rfl rfl rfl (Bk.get B2 rfl) ?_ | refine ld TD_ok rfl rfl rfl rfl (Bk.get B7 rfl) ?_ | refine gT rfl rfl rfl rfl ?_ | refine gF rfl rfl rfl rfl ?_ | refine condT rfl rfl ?_ | refine condF rfl rfl ?_); refine go TD_ok 200 rfl ?_)
   refine call rfl rfl rfl (ok _ (by decide) rfl) (rScanner_any m _ _ Hm) ?_
   rintro x w ⟨⟨b, rfl, hb⟩, qk⟩
   have B2 := B2.no qk
   have B7 := B7.no qk
   have Hm := Hm.no qk
   have q := q.trans qk
   obtain rfl : b = false := Bool.eq_false_iff.2 fun h => h8 (hb.1 h)
   refine go TD_ok 200 rfl ?_
   repeat ((first | refine ldA TD_ok rfl rfl rfl rfl rfl (Bk.all B2) ?_ | refine ldA TD_ok rfl rfl rfl rfl rfl (Bk.all B7) ?_ | refine ld TD_ok rfl rfl rfl rfl (Bk.get B2 rfl) ?_ | refine ld TD_ok rfl rfl rfl rfl (Bk.get B7 rfl) ?_ | refine gT rfl rfl rfl rfl ?_ | refine gF rfl rfl rfl rfl ?_ | refine condT rfl rfl ?_ | refine condF rfl rfl ?_); refine go TD_ok 200 rfl ?_)
   refine call rfl rfl rfl (ok _ (by decide) rfl) (SameScanner_any mZ mZ 0 0 _ (mZ_m _) (mZ_m _) (by decide) (by decide)) ?_
   rintro x w ⟨rfl, qk⟩
   have B2 := B2.no qk
   have B7 := B7.no qk
   have Hm := Hm.no qk
   have q := q.trans qk
   rw [decide_eq_true (rfl : scP mZ = scP mZ)]
   refine go TD_ok 200 rfl ?_
   repeat ((first | refine ldA TD_ok rfl rfl rfl rfl rfl (Bk.all B2) ?_ | refine ldA TD_ok rfl rfl rfl rfl rfl (Bk.all B7) ?_ | refine ld TD_ok rfl rfl rfl rfl (Bk.get B2 rfl) ?_ | refine ld TD_ok rfl rfl rfl rfl (Bk.get B7 rfl) ?_ | refine gT rfl rfl rfl rfl ?_ | refine gF rfl rfl rfl rfl ?_ | refine condT rfl rfl ?_ | refine condF rfl rfl ?_); refine go TD_ok 200 rfl ?_)
   refine call rfl rfl rfl (ok _ (by decide) rfl) (known_any _) ?_
   rintro v wk ⟨rfl, qk⟩
   refine go TD_ok 200 rfl ?_
   exact ret (ret1 (v := .bool true) Try.results9 rfl ⟨rfl, q.trans qk⟩)
  obtain ⟨k1, k2, _, _⟩ := small_ok h8.1
  have hn8 := h8.2
  have hS := hS.resolve_left (fun h => h.1 h8)
  obtain ⟨A5, n5, c5, r6, rfl, hF⟩ : ∃ A n c r, x = .tuple #[.slice A n c, I r] ∧ ((10000 < o.l.length ∧ n = 0 ∧ r = 3) ∨ (o.l.length ≤ 10000 ∧ n = o.l.length ∧ r = 0 ∧ Sl w w.heap.size 1 A o.l.length (bL (runS (scP m) 0 o.l)))) := by
   rcases hS with ⟨_, h, rfl⟩ | ⟨_, h, A, c, rfl, own⟩
   ·exact ⟨_, _, _, _, rfl, .inl ⟨h, rfl, rfl⟩⟩
   ·exact ⟨_, _, _, _, rfl, .inr ⟨h, rfl, rfl, own_sl own⟩⟩
  clear hS
  have hF : ∀ w', Chg No w w' → ((10000 < o.l.length ∧ n5 = 0 ∧ r6 = 3) ∨ (o.l.length ≤ 10000 ∧ n5 = o.l.length ∧ r6 = 0 ∧ Sl w' w.heap.size 1 A5 o.l.length (bL (runS (scP m) 0 o.l)))) := fun w' q' => by
   rcases hF with h | ⟨h1, h2, h3, h4⟩
   ·exact .inl h
   ·exact .inr ⟨h1, h2, h3, h4.no q'⟩
  obtain ⟨wS, hwS⟩ : ∃ w', w' = w := ⟨_, rfl⟩
  rw [← hwS] at hF
  have qS : Chg No wS w := hwS ▸ Chg.refl _ _
  clear hwS
  refine go TD_ok 200 rfl ?_
  repeat ((first | refine ldA TD_ok rfl rfl rfl rfl rfl (Bk.all B2) ?_ | refine ld TD_ok rfl rfl rfl rfl (Bk.get B2 rfl) ?_ | refine gT rfl rfl rfl rfl ?_ | refine gF rfl rfl rfl rfl ?_ | refine condT rfl rfl ?_ | refine condF rfl rfl ?_); refine go TD_ok 200 rfl ?_)
  refine call rfl rfl rfl (ok _ (by decide) rfl) (Smallest_any m _ _ Hm) ?_
  rintro x w ⟨qk, hX⟩
  have B2 := B2.no qk
  have So := So.no qk
  have Hm := Hm.no qk
  have qS := qS.no qk
  have q := q.trans qk
  have hX := (hX.resolve_left (fun h => h.1 h8)).2
  obtain ⟨x, rfl, hV⟩ := hX
  obtain ⟨mx, hmx, rfl, HX⟩ := hV.m k1.al (by omega)
  refine go TD_ok 200 rfl ?_
  refine nw rfl rfl (z := .agg #[.slice none 0 0, .slice none 0 0]) (by kernel_rfl) (cs := [.slice none 0 0, .slice none 0 0]) rfl ?_
  intro g7 w hg7 hs7 qk B7
  have l2 := B2.lt
  have lq := q.size
  have lX := HX.n.2.1
  have lS := qS.size
  have B2 := B2.no qk
  have So := So.no qk
  have Hm := Hm.no qk
  have HX := HX.no qk
  have q := q.trans qk
  have qS := qS.trans qk
  refine go TD_ok 200 rfl ?_
  refine stA TD_ok rfl rfl rfl rfl (vs := scL mx) rfl rfl rfl B7 rfl ?_
  intro w qk B7 hz7
  have B7 : Bk w g7 77 (scL mx) := B7
  have B2 := B2.keep qk (by omega)
  have So := So.keep qk (fun k hk e => by omega)
  have Hm := Hm.keep qk (fun k hk e => by omega)
  have HX := HX.keep qk (fun k hk e => by omega)
  have q := q.step qk (fun k hk e => by omega)
  have qS := qS.step qk (fun k hk e => by omega)
  have ex : scP mx = smallP (scP m) := hmx
  have hxN : mx.N.l.length ≤ 128 := by
   have e : (scP mx).nx.length = mx.N.l.length := rfl
   rw [ex] at e
   omega
  have hxO : mx.O.l.length ≤ 128 := by
   have e : (scP mx).al.length = mx.O.l.length := rfl
   rw [ex, k1.al] at e
   omega
  refine go TD_ok 200 rfl ?_
  repeat ((first | refine ldA TD_ok rfl rfl rfl rfl rfl (Bk.all B2) ?_ | refine ldA TD_ok rfl rfl rfl rfl rfl (Bk.all B7) ?_ | refine ld TD_ok rfl rfl rfl rfl (Bk.get B2 rfl) ?_ | refine ld TD_ok rfl rfl rfl rfl (Bk.get B7 rfl) ?_ | refine gT rfl rfl rfl rfl ?_ | refine gF rfl rfl rfl rfl ?_ | refine condT rfl rfl ?_ | refine condF rfl rfl ?_); refine go TD_ok 200 rfl ?_)
  refine call rfl rfl rfl (ok _ (by decide) rfl) (rScanner_any m _ _ Hm) ?_
  rintro x w ⟨⟨b, rfl, hb⟩, qk⟩
  have B2 := B2.no qk
  have B7 := B7.no qk
  have So := So.no qk
  have Hm := Hm.no qk
  have HX := HX.no qk
  have qS := qS.no qk
  have q := q.trans qk
  obtain rfl : b = true := hb.2 h8
  refine go TD_ok 200 rfl ?_
  repeat ((first | refine ldA TD_ok rfl rfl rfl rfl rfl (Bk.all B2) ?_ | refine ldA TD_ok rfl rfl rfl rfl rfl (Bk.all B7) ?_ | refine ld TD_ok rfl rfl rfl rfl (Bk.get B2 rfl) ?_ | refine ld TD_ok rfl rfl rfl rfl (Bk.get B7 rfl) ?_ | refine gT rfl rfl rfl rfl ?_ | refine gF rfl rfl rfl rfl ?_ | refine condT rfl rfl ?_ | refine condF rfl rfl ?_); refine go TD_ok 200 rfl ?_)
  refine draw mixed (fun w' => Chg No w w') ([0,1,2,3,4].map (fun i => (i, true)) ++ [(5, false)] ++ [(6, false)] ++ [7,8].map (fun i => (i, true))) rfl (by kernel_rfl) (Chg.drew _) ?_
  have qd := Chg.drew w
  refine goH TD_ok 200 rfl ?_
  repeat (first | (refine gTH rfl rfl rfl rfl ?_; refine goH TD_ok 200 rfl ?_) | (refine gFH rfl rfl rfl rfl ?_; refine goH TD_ok 200 rfl ?_))
  refine quietH rfl (fun w' hS => r_loadA TD_ok rfl rfl rfl rfl (B7.no hS).all) ?_
  refine goH TD_ok 200 rfl ?_
  refine quietH rfl (fun w' hS => r_loadA TD_ok rfl rfl rfl rfl (B2.no hS).all) ?_
  refine goH TD_ok 200 rfl ?_
  refine callE rfl rfl rfl (ok _ (by decide) rfl) (rSmallest_any m _ _ (Hm.no qd) h8) ?_
  rintro x w1 ⟨qk, hO⟩
  obtain ⟨my, hmy, rfl, HY⟩ := hO.m k1.al (by omega)
  have qd := qd.trans qk
  refine ⟨qd, ?_⟩
  refine goH TD_ok 200 rfl ?_
  refine callE rfl rfl rfl (ok _ (by decide) rfl) (SameScanner_any mx my _ _ _ (HX.no qd) HY (by omega) (by omega)) ?_
  rintro x w2 ⟨rfl, qk⟩
  have qd := qd.trans qk
  refine ⟨qd, ?_⟩
  rw [decide_eq_true (show scP mx = scP my by rw [ex, hmy])]
  refine goH TD_ok 200 rfl ?_
  repeat (first | (refine gTH rfl rfl rfl rfl ?_; refine goH TD_ok 200 rfl ?_) | (refine gFH rfl rfl rfl rfl ?_; refine goH TD_ok 200 rfl ?_))
  refine endH ?_
  have B2 := B2.no qd
  have So := So.no qd
  have Hm := Hm.no qd
  have q := q.trans qd
  have qS := qS.trans qd
  refine go TD_ok 200 rfl ?_
  repeat ((first | refine ldA TD_ok rfl rfl rfl rfl rfl (Bk.all B2) ?_ | refine ld TD_ok rfl rfl rfl rfl (Bk.get B2 rfl) ?_ | refine gT rfl rfl rfl rfl ?_ | refine gF rfl rfl rfl rfl ?_ | refine condT rfl rfl ?_ | refine condF rfl rfl ?_); refine go TD_ok 200 rfl ?_)
  rcases hF _ qS with ⟨hl, rfl, rfl⟩ | ⟨hl, rfl, rfl, S5⟩
  ·rw [decide_eq_true (show 10000 < (o.l.length : Int) by omega)]
   refine go TD_ok 200 rfl ?_
   repeat ((first | refine ldA TD_ok rfl rfl rfl rfl rfl (Bk.all B2) ?_ | refine ld TD_ok rfl rfl rfl rfl (Bk.get B2 rfl) ?_ | refine gT rfl rfl rfl rfl ?_ | refine gF rfl rfl rfl rfl ?_ | refine condT rfl rfl ?_ | refine condF rfl rfl ?_); refine go TD_ok 200 rfl ?_)
   refine call rfl rfl rfl (ok _ (by decide) rfl) (known_any _) ?_
   rintro v wk ⟨rfl, qk⟩
   refine go TD_ok 200 rfl ?_
   exact ret (ret1 (v := .bool true) Try.results9 rfl ⟨rfl, q.trans qk⟩)
  rw [decide_eq_false (show ¬ 10000 < (o.l.length : Int) by omega)]
  refine go TD_ok 200 rfl ?_
  repeat ((first | refine ldA TD_ok rfl rfl rfl rfl rfl (Bk.all B2) ?_ | refine ld TD_ok rfl rfl rfl rfl (Bk.get B2 rfl) ?_ | refine gT rfl rfl rfl rfl ?_ | refine gF rfl rfl rfl rfl ?_ | refine condT rfl rfl ?_ | refine condF rfl rfl ?_); refine go TD_ok 200 rfl ?_)
  refine call rfl rfl rfl (ok _ (by decide) rfl) (rScan_any m o.l o.A o.c _ _ _ Hm h8.1 So hlen) ?_
  rintro x w ⟨qk, A6, c6, rfl, own6⟩
  have B2 := B2.no qk
  have So := So.no qk
  have Hm := Hm.no qk
  have S5 := S5.no qk
  have q := q.trans qk
  have X := SameCells_any (runS (scP m) 0 o.l) (runS (scP m) 0 o.l) A5 A6 c5 c6 _ _ w (by rw [runS_len]; exact S5) (by rw [runS_len]; exact own_sl own6) (by rw [runS_len]; omega)
  rw [runS_len] at X
  refine go TD_ok 200 rfl ?_
  repeat ((first | refine ldA TD_ok rfl rfl rfl rfl rfl (Bk.all B2) ?_ | refine ld TD_ok rfl rfl rfl rfl (Bk.get B2 rfl) ?_ | refine gT rfl rfl rfl rfl ?_ | refine gF rfl rfl rfl rfl ?_ | refine condT rfl rfl ?_ | refine condF rfl rfl ?_); refine go TD_ok 200 rfl ?_)
  refine call rfl rfl rfl (ok _ (by decide) rfl) X ?_
  clear X
  rintro x w ⟨rfl, qk⟩
  have B2 := B2.no qk
  have So := So.no qk
  have Hm := Hm.no qk
  have S5 := S5.no qk
  have q := q.trans qk
  rw [show (runS (scP m) 0 o.l == runS (scP m) 0 o.l) = true from beq_self_eq_true _]
  refine go TD_ok 200 rfl ?_
  repeat ((first | refine ldA TD_ok rfl rfl rfl rfl rfl (Bk.all B2) ?_ | refine ld TD_ok rfl rfl rfl rfl (Bk.get B2 rfl) ?_ | refine gT rfl rfl rfl rfl ?_ | refine gF rfl rfl rfl rfl ?_ | refine condT rfl rfl ?_ | refine condF rfl rfl ?_); refine go TD_ok 200 rfl ?_)
  refine call rfl rfl rfl (ok _ (by decide) rfl) (known_any _) ?_
  rintro v wk ⟨rfl, qk⟩
  refine go TD_ok 200 rfl ?_
  exact ret (ret1 (v := .bool true) Try.results9 rfl ⟨rfl, q.trans qk⟩)
end Go.Proofs.Yteenhfnamjbaiaa
