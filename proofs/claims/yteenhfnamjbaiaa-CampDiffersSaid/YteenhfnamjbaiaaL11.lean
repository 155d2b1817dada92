/- The walk of CampDiffers. -/
import Derived.Test.YteenhfnamjbaiaaK1
import Derived.Test.YteenhfnamjbaiaaW9
import Derived.Test.YteenhfnamjbaiaaW6
import Derived.Test.YteenhfnamjbaiaaE4
namespace Go.Proofs.Yteenhfnamjbaiaa
open Go.Ev Go.Proofs
open Go.Camp (Sc ScOk Sc8 smallP small_ok difP dif_spec prodP prRaw prRaw_ok prRaw_len)
attribute [local irreducible] At AtH
set_option maxRecDepth 20000 in
set_option maxHeartbeats 16000000 in
theorem walk_CampDiffers (m1 m2 : Scm) (w0 : World) (hm1 : InN w0 m1) (hm2 : InN w0 m2) :
  Ret Try.prog 11 [.agg (scL m1).toArray, .agg (scL m2).toArray] w0 fun x w' => x = .bool true ∧ Chg No w0 w' := by
 have Ha := hm1.m
 have Hb := hm2.m
 refine enter Try.func11 rfl Try.ntmps11 rfl ?_
 refine go TD_ok 200 rfl ?_
 refine bx rfl rfl rfl (cs := scL m1) rfl ?_
 intro g2 u2 hg2 hs2 q2 B2
 refine go TD_ok 200 rfl ?_
 refine bx rfl rfl rfl (cs := scL m2) rfl ?_
 intro g3 u3 hg3 hs3 q3 B3
 have B2 := B2.no q3
 have q := q2.trans q3
 have Ha := Ha.no q
 have Hb := Hb.no q
 refine go TD_ok 200 rfl ?_
 repeat ((first | refine ldA TD_ok rfl rfl rfl rfl rfl (Bk.all B2) ?_ | refine ldA TD_ok rfl rfl rfl rfl rfl (Bk.all B3) ?_ | refine ld TD_ok rfl rfl rfl rfl (Bk.get B2 rfl) ?_ | refine ld TD_ok rfl rfl rfl rfl (Bk.get B3 rfl) ?_ | refine gT rfl rfl rfl rfl ?_ | refine gF rfl rfl rfl rfl ?_ | refine condT rfl rfl ?_ | refine condF rfl rfl ?_); refine go TD_ok 200 rfl ?_)
 refine call rfl rfl rfl (ok _ (by decide) rfl) (states_any m1 8 _ _ Ha) ?_
 rintro x w ⟨⟨b, rfl, hsa⟩, qk⟩
 have B2 := B2.no qk
 have B3 := B3.no qk
 have Ha := Ha.no qk
 have Hb := Hb.no qk
 have q := q.trans qk
 cases b with
 | false =>
  refine go TD_ok 200 rfl ?_
  repeat ((first | refine ldA TD_ok rfl rfl rfl rfl rfl (Bk.all B2) ?_ | refine ldA TD_ok rfl rfl rfl rfl rfl (Bk.all B3) ?_ | refine ld TD_ok rfl rfl rfl rfl (Bk.get B2 rfl) ?_ | refine ld TD_ok rfl rfl rfl rfl (Bk.get B3 rfl) ?_ | refine gT rfl rfl rfl rfl ?_ | refine gF rfl rfl rfl rfl ?_ | refine condT rfl rfl ?_ | refine condF rfl rfl ?_); refine go TD_ok 200 rfl ?_)
  refine call rfl rfl rfl (ok _ (by decide) rfl) (known_any _) ?_
  rintro v wk ⟨rfl, qk⟩
  refine go TD_ok 200 rfl ?_
  exact ret (ret1 (v := .bool true) Try.results11 rfl ⟨rfl, q.trans qk⟩)
 | true =>
 refine go TD_ok 200 rfl ?_
 repeat ((first | refine ldA TD_ok rfl rfl rfl rfl rfl (Bk.all B2) ?_ | refine ldA TD_ok rfl rfl rfl rfl rfl (Bk.all B3) ?_ | refine ld TD_ok rfl rfl rfl rfl (Bk.get B2 rfl) ?_ | refine ld TD_ok rfl rfl rfl rfl (Bk.get B3 rfl) ?_ | refine gT rfl rfl rfl rfl ?_ | refine gF rfl rfl rfl rfl ?_ | refine condT rfl rfl ?_ | refine condF rfl rfl ?_); refine go TD_ok 200 rfl ?_)
 refine call rfl rfl rfl (ok _ (by decide) rfl) (states_any m2 8 _ _ Hb) ?_
 rintro x w ⟨⟨b, rfl, hsb⟩, qk⟩
 have B2 := B2.no qk
 have B3 := B3.no qk
 have Ha := Ha.no qk
 have Hb := Hb.no qk
 have q := q.trans qk
 cases b with
 | false =>
  refine go TD_ok 200 rfl ?_
  repeat ((first | refine ldA TD_ok rfl rfl rfl rfl rfl (Bk.all B2) ?_ | refine ldA TD_ok rfl rfl rfl rfl rfl (Bk.all B3) ?_ | refine ld TD_ok rfl rfl rfl rfl (Bk.get B2 rfl) ?_ | refine ld TD_ok rfl rfl rfl rfl (Bk.get B3 rfl) ?_ | refine gT rfl rfl rfl rfl ?_ | refine gF rfl rfl rfl rfl ?_ | refine condT rfl rfl ?_ | refine condF rfl rfl ?_); refine go TD_ok 200 rfl ?_)
  refine call rfl rfl rfl (ok _ (by decide) rfl) (known_any _) ?_
  rintro v wk ⟨rfl, qk⟩
  refine go TD_ok 200 rfl ?_
  exact ret (ret1 (v := .bool true) Try.results11 rfl ⟨rfl, q.trans qk⟩)
 | true =>
 refine go TD_ok 200 rfl ?_
 repeat ((first | refine ldA TD_ok rfl rfl rfl rfl rfl (Bk.all B2) ?_ | refine ldA TD_ok rfl rfl rfl rfl rfl (Bk.all B3) ?_ | refine ld TD_ok rfl rfl rfl rfl (Bk.get B2 rfl) ?_ | refine ld TD_ok rfl rfl rfl rfl (Bk.get B3 rfl) ?_ | refine gT rfl rfl rfl rfl ?_ | refine gF rfl rfl rfl rfl ?_ | refine condT rfl rfl ?_ | refine condF rfl rfl ?_); refine go TD_ok 200 rfl ?_)
 refine call rfl rfl rfl (ok _ (by decide) rfl) (Differ_any m1 m2 _ _ Ha Hb) ?_
 rintro x w ⟨qk, hD⟩
 have B2 := B2.no qk
 have B3 := B3.no qk
 have Ha := Ha.no qk
 have Hb := Hb.no qk
 have q := q.trans qk
 by_cases h8 : Sc8 (scP m1) ∧ Sc8 (scP m2)
 case neg =>
  obtain rfl : x = .tuple #[.slice none 0 0, I 2] := by
   rcases hD with ⟨_, h⟩ | ⟨h, _⟩ | ⟨h, _⟩
   ·exact h
   ·exact absurd h h8
   ·exact absurd h h8
  refine go TD_ok 200 rfl ?_
  repeat ((first | refine ldA TD_ok rfl rfl rfl rfl rfl (Bk.all B2) ?_ | refine ldA TD_ok rfl rfl rfl rfl rfl (Bk.all B3) ?_ | refine ld TD_ok rfl rfl rfl rfl (Bk.get B2 rfl) ?_ | refine ld TD_ok rfl rfl rfl rfl (Bk.get B3 rfl) ?_ | refine gT rfl rfl rfl rfl ?_ | refine gF rfl rfl rfl rfl ?_ | refine condT rfl rfl ?_ | refine condF rfl rfl ?_); refine go TD_ok 200 rfl ?_)
  refine call rfl rfl rfl (ok _ (by decide) rfl) (Product_any m1 m2 _ _ Ha Hb) ?_
  rintro x w ⟨qk, hX⟩
  have B2 := B2.no qk
  have B3 := B3.no qk
  have Ha := Ha.no qk
  have Hb := Hb.no qk
  have q := q.trans qk
  obtain rfl : x = .tuple #[.agg #[.slice none 0 0, .slice none 0 0], I 2] := by
   rcases hX with ⟨_, h⟩ | ⟨h, _⟩ | ⟨h, _⟩
   ·exact h
   ·exact absurd h h8
   ·exact absurd h h8
  refine go TD_ok 200 rfl ?_
  refine nw rfl rfl (z := .agg #[.slice none 0 0, .slice none 0 0]) (by kernel_rfl) (cs := [.slice none 0 0, .slice none 0 0]) rfl ?_
  intro g7 w hg7 hs7 qk B7
  have l2 := B2.lt
  have l3 := B3.lt
  have lq := q.size
  have B2 := B2.no qk
  have B3 := B3.no qk
  have Ha := Ha.no qk
  have Hb := Hb.no qk
  have q := q.trans qk
  refine go TD_ok 200 rfl ?_
  refine stA TD_ok rfl rfl rfl rfl (vs := [.slice none 0 0, .slice none 0 0]) rfl rfl rfl B7 rfl ?_
  intro w qk B7 hz7
  have B7 : Bk w g7 77 [.slice none 0 0, .slice none 0 0] := B7
  have B2 := B2.keep qk (by omega)
  have B3 := B3.keep qk (by omega)
  have Ha := Ha.keep qk (fun k hk e => by omega)
  have Hb := Hb.keep qk (fun k hk e => by omega)
  have q := q.step qk (fun k hk e => by omega)
  refine go TD_ok 200 rfl ?_
  repeat ((first | refine ldA TD_ok rfl rfl rfl rfl rfl (Bk.all B2) ?_ | refine ldA TD_ok rfl rfl rfl rfl rfl (Bk.all B3) ?_ | refine ldA TD_ok rfl rfl rfl rfl rfl (Bk.all B7) ?_ | refine ld TD_ok rfl rfl rfl rfl (Bk.get B2 rfl) ?_ | refine ld TD_ok rfl rfl rfl rfl (Bk.get B3 rfl) ?_ | refine ld TD_ok rfl rfl rfl rfl (Bk.get B7 rfl) ?_ | refine gT rfl rfl rfl rfl ?_ | refine gF rfl rfl rfl rfl ?_ | refine condT rfl rfl ?_ | refine condF rfl rfl ?_); refine go TD_ok 200 rfl ?_)
  refine call rfl rfl rfl (ok _ (by decide) rfl) (rScanner_any m1 _ _ Ha) ?_
  rintro x w ⟨⟨b, rfl, hb⟩, qk⟩
  have B2 := B2.no qk
  have B3 := B3.no qk
  have B7 := B7.no qk
  have Ha := Ha.no qk
  have Hb := Hb.no qk
  have q := q.trans qk
  cases b with
  | false =>
   refine go TD_ok 200 rfl ?_
   repeat ((first | refine ldA TD_ok rfl rfl rfl rfl rfl (Bk.all B2) ?_ | refine ldA TD_ok rfl rfl rfl rfl rfl (Bk.all B3) ?_ | refine ldA TD_ok rfl rfl rfl rfl rfl (Bk.all B7) ?_ | refine ld TD_ok rfl rfl rfl rfl (Bk.get B2 rfl) ?_ | refine ld TD_ok rfl rfl rfl rfl (Bk.get B3 rfl) ?_ | refine ld TD_ok rfl rfl rfl rfl (Bk.get B7 rfl) ?_ | refine gT rfl rfl rfl rfl ?_ | refine gF rfl rfl rfl rfl ?_ | refine condT rfl rfl ?_ | refine condF rfl rfl ?_); refine go TD_ok 200 rfl ?_)
   refine call rfl rfl rfl (ok _ (by decide) rfl) (SameScanner_any mZ mZ 0 0 _ (mZ_m _) (mZ_m _) (by decide) (by decide)) ?_
   rintro x w ⟨rfl, qk⟩
   have B2 := B2.no qk
   have B3 := B3.no qk
   have B7 := B7.no qk
   have Ha := Ha.no qk
   have Hb := Hb.no qk
   have q := q.trans qk
   rw [decide_eq_true (rfl : scP mZ = scP mZ)]
   refine go TD_ok 200 rfl ?_
   repeat ((first | refine ldA TD_ok rfl rfl rfl rfl rfl (Bk.all B2) ?_ | refine ldA TD_ok rfl rfl rfl rfl rfl (Bk.all B3) ?_ | refine ldA TD_ok rfl rfl rfl rfl rfl (Bk.all B7) ?_ | refine ld TD_ok rfl rfl rfl rfl (Bk.get B2 rfl) ?_ | refine ld TD_ok rfl rfl rfl rfl (Bk.get B3 rfl) ?_ | refine ld TD_ok rfl rfl rfl rfl (Bk.get B7 rfl) ?_ | refine gT rfl rfl rfl rfl ?_ | refine gF rfl rfl rfl rfl ?_ | refine condT rfl rfl ?_ | refine condF rfl rfl ?_); refine go TD_ok 200 rfl ?_)
   refine call rfl rfl rfl (ok _ (by decide) rfl) (known_any _) ?_
   rintro v wk ⟨rfl, qk⟩
   refine go TD_ok 200 rfl ?_
   exact ret (ret1 (v := .bool true) Try.results11 rfl ⟨rfl, q.trans qk⟩)
  | true =>
  have ha8 := hb.1 rfl
  refine go TD_ok 200 rfl ?_
  repeat ((first | refine ldA TD_ok rfl rfl rfl rfl rfl (Bk.all B2) ?_ | refine ldA TD_ok rfl rfl rfl rfl rfl (Bk.all B3) ?_ | refine ldA TD_ok rfl rfl rfl rfl rfl (Bk.all B7) ?_ | refine ld TD_ok rfl rfl rfl rfl (Bk.get B2 rfl) ?_ | refine ld TD_ok rfl rfl rfl rfl (Bk.get B3 rfl) ?_ | refine ld TD_ok rfl rfl rfl rfl (Bk.get B7 rfl) ?_ | refine gT rfl rfl rfl rfl ?_ | refine gF rfl rfl rfl rfl ?_ | refine condT rfl rfl ?_ | refine condF rfl rfl ?_); refine go TD_ok 200 rfl ?_)
  refine call rfl rfl rfl (ok _ (by decide) rfl) (rScanner_any m2 _ _ Hb) ?_
  rintro x w ⟨⟨b, rfl, hb⟩, qk⟩
  have B2 := B2.no qk
  have B3 := B3.no qk
  have B7 := B7.no qk
  have Ha := Ha.no qk
  have Hb := Hb.no qk
  have q := q.trans qk
  obtain rfl : b = false := Bool.eq_false_iff.2 fun h => h8 ⟨ha8, hb.1 h⟩
  refine go TD_ok 200 rfl ?_
  repeat ((first | refine ldA TD_ok rfl rfl rfl rfl rfl (Bk.all B2) ?_ | refine ldA TD_ok rfl rfl rfl rfl rfl (Bk.all B3) ?_ | refine ldA TD_ok rfl rfl rfl rfl rfl (Bk.all B7) ?_ | refine ld TD_ok rfl rfl rfl rfl (Bk.get B2 rfl) ?_ | refine ld TD_ok rfl rfl rfl rfl (Bk.get B3 rfl) ?_ | refine ld TD_ok rfl rfl rfl rfl (Bk.get B7 rfl) ?_ | refine gT rfl rfl rfl rfl ?_ | refine gF rfl rfl rfl rfl ?_ | refine condT rfl rfl ?_ | refine condF rfl rfl ?_); refine go TD_ok 200 rfl ?_)
  refine call rfl rfl rfl (ok _ (by decide) rfl) (SameScanner_any mZ mZ 0 0 _ (mZ_m _) (mZ_m _) (by decide) (by decide)) ?_
  rintro x w ⟨rfl, qk⟩
  have B2 := B2.no qk
  have B3 := B3.no qk
  have B7 := B7.no qk
  have Ha := Ha.no qk
  have Hb := Hb.no qk
  have q := q.trans qk
  rw [decide_eq_true (rfl : scP mZ = scP mZ)]
  refine go TD_ok 200 rfl ?_
  repeat ((first | refine ldA TD_ok rfl rfl rfl rfl rfl (Bk.all B2) ?_ | refine ldA TD_ok rfl rfl rfl rfl rfl (Bk.all B3) ?_ | refine ldA TD_ok rfl rfl rfl rfl rfl (Bk.all B7) ?_ | refine ld TD_ok rfl rfl rfl rfl (Bk.get B2 rfl) ?_ | refine ld TD_ok rfl rfl rfl rfl (Bk.get B3 rfl) ?_ | refine ld TD_ok rfl rfl rfl rfl (Bk.get B7 rfl) ?_ | refine gT rfl rfl rfl rfl ?_ | refine gF rfl rfl rfl rfl ?_ | refine condT rfl rfl ?_ | refine condF rfl rfl ?_); refine go TD_ok 200 rfl ?_)
  refine call rfl rfl rfl (ok _ (by decide) rfl) (known_any _) ?_
  rintro v wk ⟨rfl, qk⟩
  refine go TD_ok 200 rfl ?_
  exact ret (ret1 (v := .bool true) Try.results11 rfl ⟨rfl, q.trans qk⟩)
 obtain ⟨ha8, hb8⟩ := h8
 have na : m1.N.l.length ≤ 8 := by have := (hsa rfl).1; have e : m1.N.l.length ≤ 128 := ha8.2; omega
 have nb : m2.N.l.length ≤ 8 := by have := (hsb rfl).1; have e : m2.N.l.length ≤ 128 := hb8.2; omega
 have hnm : m1.N.l.length * m2.N.l.length ≤ 8 * 8 := Nat.mul_le_mul na nb
 have hok := prRaw_ok ha8 hb8
 obtain ⟨k1, k2, _, _⟩ := small_ok hok
 have hpl := (prRaw_len (scP m1) (scP m2) ((scP m1).nx.length * (scP m2).nx.length)).1
 rw [hpl] at k2
 have k1 : ScOk (prodP (scP m1) (scP m2)) := k1
 have k2 : (prodP (scP m1) (scP m2)).nx.length ≤ m1.N.l.length * m2.N.l.length := k2
 clear hok hpl
 have hD := hD.resolve_left (fun h => h.1 ⟨ha8, hb8⟩)
 obtain ⟨A5, n5, c5, r6, rfl, hF⟩ : ∃ A n c r, x = .tuple #[.slice A n c, I r] ∧ ((difP (scP m1) (scP m2) = none ∧ n = 0 ∧ r = 5) ∨ (∃ cs, difP (scP m1) (scP m2) = some cs ∧ n = cs.length ∧ r = 0 ∧ OwB w A c n cs)) := by
  rcases hD with ⟨_, h, rfl⟩ | ⟨_, cs, A, c, h, rfl, own⟩
  ·exact ⟨_, _, _, _, rfl, .inl ⟨h, rfl, rfl⟩⟩
  ·exact ⟨_, _, _, _, rfl, .inr ⟨cs, h, rfl, rfl, OwB.of own⟩⟩
 clear hD
 have hF : ∀ w', Chg No w w' → ((difP (scP m1) (scP m2) = none ∧ n5 = 0 ∧ r6 = 5) ∨ (∃ cs, difP (scP m1) (scP m2) = some cs ∧ n5 = cs.length ∧ r6 = 0 ∧ OwB w' A5 c5 n5 cs)) := fun w' q' => by
  rcases hF with h | ⟨cs, h1, h2, h3, h4⟩
  ·exact .inl h
  ·exact .inr ⟨cs, h1, h2, h3, h4.no q'⟩
 obtain ⟨wS, hwS⟩ : ∃ w', w' = w := ⟨_, rfl⟩
 rw [← hwS] at hF
 have qS : Chg No wS w := hwS ▸ Chg.refl _ _
 clear hwS
 refine go TD_ok 200 rfl ?_
 repeat ((first | refine ldA TD_ok rfl rfl rfl rfl rfl (Bk.all B2) ?_ | refine ldA TD_ok rfl rfl rfl rfl rfl (Bk.all B3) ?_ | refine ld TD_ok rfl rfl rfl rfl (Bk.get B2 rfl) ?_ | refine ld TD_ok rfl rfl rfl rfl (Bk.get B3 rfl) ?_ | refine gT rfl rfl rfl rfl ?_ | refine gF rfl rfl rfl rfl ?_ | refine condT rfl rfl ?_ | refine condF rfl rfl ?_); refine go TD_ok 200 rfl ?_)
 refine call rfl rfl rfl (ok _ (by decide) rfl) (Product_any m1 m2 _ _ Ha Hb) ?_
 rintro x w ⟨qk, hX⟩
 have B2 := B2.no qk
 have B3 := B3.no qk
 have Ha := Ha.no qk
 have Hb := Hb.no qk
 have qS := qS.no qk
 have q := q.trans qk
 obtain ⟨_, _, x, rfl, hV⟩ := (hX.resolve_left (fun h => h.1 ⟨ha8, hb8⟩)).resolve_left (fun h => by omega)
 obtain ⟨mx, hmx, rfl, HX⟩ := hV.m k1.al (by omega)
 clear hX hV
 refine go TD_ok 200 rfl ?_
 refine nw rfl rfl (z := .agg #[.slice none 0 0, .slice none 0 0]) (by kernel_rfl) (cs := [.slice none 0 0, .slice none 0 0]) rfl ?_
 intro g7 w hg7 hs7 qk B7
 have l2 := B2.lt
 have l3 := B3.lt
 have lq := q.size
 have lX := HX.n.2.1
 have lS := qS.size
 have B2 := B2.no qk
 have B3 := B3.no qk
 have Ha := Ha.no qk
 have Hb := Hb.no qk
 have HX := HX.no qk
 have qS := qS.no qk
 have q := q.trans qk
 refine go TD_ok 200 rfl ?_
 refine stA TD_ok rfl rfl rfl rfl (vs := scL mx) rfl rfl rfl B7 rfl ?_
 intro w qk B7 hz7
 have B7 : Bk w g7 77 (scL mx) := B7
 have B2 := B2.keep qk (by omega)
 have B3 := B3.keep qk (by omega)
 have Ha := Ha.keep qk (fun k hk e => by omega)
 have Hb := Hb.keep qk (fun k hk e => by omega)
 have HX := HX.keep qk (fun k hk e => by omega)
 have q := q.step qk (fun k hk e => by omega)
 have qS := qS.step qk (fun k hk e => by omega)
 have hxN : mx.N.l.length ≤ 64 := by
  have e : (scP mx).nx.length = mx.N.l.length := rfl
  rw [hmx] at e
  omega
 have hxO : mx.O.l.length ≤ 64 := by
  have e : (scP mx).al.length = mx.O.l.length := rfl
  rw [hmx, k1.al] at e
  omega
 refine go TD_ok 200 rfl ?_
 repeat ((first | refine ldA TD_ok rfl rfl rfl rfl rfl (Bk.all B2) ?_ | refine ldA TD_ok rfl rfl rfl rfl rfl (Bk.all B3) ?_ | refine ldA TD_ok rfl rfl rfl rfl rfl (Bk.all B7) ?_ | refine ld TD_ok rfl rfl rfl rfl (Bk.get B2 rfl) ?_ | refine ld TD_ok rfl rfl rfl rfl (Bk.get B3 rfl) ?_ | refine ld TD_ok rfl rfl rfl rfl (Bk.get B7 rfl) ?_ | refine gT rfl rfl rfl rfl ?_ | refine gF rfl rfl rfl rfl ?_ | refine condT rfl rfl ?_ | refine condF rfl rfl ?_); refine go TD_ok 200 rfl ?_)
 refine call rfl rfl rfl (ok _ (by decide) rfl) (rScanner_any m1 _ _ Ha) ?_
 rintro x w ⟨⟨b, rfl, hb⟩, qk⟩
 have B2 := B2.no qk
 have B3 := B3.no qk
 have B7 := B7.no qk
 have Ha := Ha.no qk
 have Hb := Hb.no qk
 have HX := HX.no qk
 have qS := qS.no qk
 have q := q.trans qk
 obtain rfl : b = true := hb.2 ha8
 refine go TD_ok 200 rfl ?_
 repeat ((first | refine ldA TD_ok rfl rfl rfl rfl rfl (Bk.all B2) ?_ | refine ldA TD_ok rfl rfl rfl rfl rfl (Bk.all B3) ?_ | refine ldA TD_ok rfl rfl rfl rfl rfl (Bk.all B7) ?_ | refine ld TD_ok rfl rfl rfl rfl (Bk.get B2 rfl) ?_ | refine ld TD_ok rfl rfl rfl rfl (Bk.get B3 rfl) ?_ | refine ld TD_ok rfl rfl rfl rfl (Bk.get B7 rfl) ?_ | refine gT rfl rfl rfl rfl ?_ | refine gF rfl rfl rfl rfl ?_ | refine condT rfl rfl ?_ | refine condF rfl rfl ?_); refine go TD_ok 200 rfl ?_)
 refine call rfl rfl rfl (ok _ (by decide) rfl) (rScanner_any m2 _ _ Hb) ?_
 rintro x w ⟨⟨b, rfl, hb⟩, qk⟩
 have B2 := B2.no qk
 have B3 := B3.no qk
 have B7 := B7.no qk
 have Ha := Ha.no qk
 have Hb := Hb.no qk
 have HX := HX.no qk
 have qS := qS.no qk
 have q := q.trans qk
 obtain rfl : b = true := hb.2 hb8
 refine go TD_ok 200 rfl ?_
 repeat ((first | refine ldA TD_ok rfl rfl rfl rfl rfl (Bk.all B2) ?_ | refine ldA TD_ok rfl rfl rfl rfl rfl (Bk.all B3) ?_ | refine ldA TD_ok rfl rfl rfl rfl rfl (Bk.all B7) ?_ | refine ld TD_ok rfl rfl rfl rfl (Bk.get B2 rfl) ?_ | refine ld TD_ok rfl rfl rfl rfl (Bk.get B3 rfl) ?_ | refine ld TD_ok rfl rfl rfl rfl (Bk.get B7 rfl) ?_ | refine gT rfl rfl rfl rfl ?_ | refine gF rfl rfl rfl rfl ?_ | refine condT rfl rfl ?_ | refine condF rfl rfl ?_); refine go TD_ok 200 rfl ?_)
 refine draw mixed (fun w' => Chg No w w') ([0,1,2,3,4,5].map (fun i => (i, true)) ++ [(6, false)] ++ [(7, false)] ++ [8,9].map (fun i => (i, true))) rfl (by kernel_rfl) (Chg.drew _) ?_
 have qd := Chg.drew w
 refine goH TD_ok 200 rfl ?_
 repeat (first | (refine gTH rfl rfl rfl rfl ?_; refine goH TD_ok 200 rfl ?_) | (refine gFH rfl rfl rfl rfl ?_; refine goH TD_ok 200 rfl ?_))
 refine quietH rfl (fun w' hS => r_loadA TD_ok rfl rfl rfl rfl (B7.no hS).all) ?_
 refine goH TD_ok 200 rfl ?_
 refine quietH rfl (fun w' hS => r_loadA TD_ok rfl rfl rfl rfl (B2.no hS).all) ?_
 refine goH TD_ok 200 rfl ?_
 refine quietH rfl (fun w' hS => r_loadA TD_ok rfl rfl rfl rfl (B3.no hS).all) ?_
 refine goH TD_ok 200 rfl ?_
 refine callE rfl rfl rfl (ok _ (by decide) rfl) (rProduct_any m1 m2 _ _ (Ha.no qd) (Hb.no qd) ha8 hb8 (by omega)) ?_
 rintro x w1 ⟨qk, hO⟩
 obtain ⟨my, hmy, rfl, HY⟩ := hO.m k1.al (by omega)
 have qd := qd.trans qk
 refine ⟨qd, ?_⟩
 refine goH TD_ok 200 rfl ?_
 refine callE rfl rfl rfl (ok _ (by decide) rfl) (SameScanner_any mx my _ _ _ (HX.no qd) HY (by omega) (by omega)) ?_
 rintro x w2 ⟨rfl, qk⟩
 have qd := qd.trans qk
 refine ⟨qd, ?_⟩
 rw [decide_eq_true (show scP mx = scP my by rw [hmx, hmy])]
 refine goH TD_ok 200 rfl ?_
 repeat (first | (refine gTH rfl rfl rfl rfl ?_; refine goH TD_ok 200 rfl ?_) | (refine gFH rfl rfl rfl rfl ?_; refine goH TD_ok 200 rfl ?_))
 refine endH ?_
 have B2 := B2.no qd
 have B3 := B3.no qd
 have Ha := Ha.no qd
 have Hb := Hb.no qd
 have q := q.trans qd
 have qS := qS.trans qd
 refine go TD_ok 200 rfl ?_
 repeat ((first | refine ldA TD_ok rfl rfl rfl rfl rfl (Bk.all B2) ?_ | refine ldA TD_ok rfl rfl rfl rfl rfl (Bk.all B3) ?_ | refine ld TD_ok rfl rfl rfl rfl (Bk.get B2 rfl) ?_ | refine ld TD_ok rfl rfl rfl rfl (Bk.get B3 rfl) ?_ | refine gT rfl rfl rfl rfl ?_ | refine gF rfl rfl rfl rfl ?_ | refine condT rfl rfl ?_ | refine condF rfl rfl ?_); refine go TD_ok 200 rfl ?_)
 refine call rfl rfl rfl (ok _ (by decide) rfl) (rDiffer_any m1 m2 _ _ Ha Hb ha8 hb8) ?_
 rintro x w ⟨qk, hR⟩
 have B2 := B2.no qk
 have B3 := B3.no qk
 have qS := qS.no qk
 have q := q.trans qk
 rcases hF _ qS with ⟨hd, rfl, rfl⟩ | ⟨cs, hd, rfl, rfl, U5⟩
 ·obtain rfl : x = .tuple #[.slice none 0 0, .bool false] := by
   rcases hR with ⟨_, h⟩ | ⟨cs, A, c, h, _⟩
   ·exact h
   ·rw [hd] at h; cases h
  refine go TD_ok 200 rfl ?_
  repeat ((first | refine ldA TD_ok rfl rfl rfl rfl rfl (Bk.all B2) ?_ | refine ldA TD_ok rfl rfl rfl rfl rfl (Bk.all B3) ?_ | refine ld TD_ok rfl rfl rfl rfl (Bk.get B2 rfl) ?_ | refine ld TD_ok rfl rfl rfl rfl (Bk.get B3 rfl) ?_ | refine gT rfl rfl rfl rfl ?_ | refine gF rfl rfl rfl rfl ?_ | refine condT rfl rfl ?_ | refine condF rfl rfl ?_); refine go TD_ok 200 rfl ?_)
  refine call rfl rfl rfl (ok _ (by decide) rfl) (known_any _) ?_
  rintro v wk ⟨rfl, qk⟩
  refine go TD_ok 200 rfl ?_
  exact ret (ret1 (v := .bool true) Try.results11 rfl ⟨rfl, q.trans qk⟩)
 ·obtain ⟨A9, c9, rfl, U9⟩ : ∃ A c, x = .tuple #[.slice A cs.length c, .bool true] ∧ OwB w A c cs.length cs := by
   rcases hR with ⟨h, _⟩ | ⟨cs', A, c, h, hv, own⟩
   ·rw [hd] at h; cases h
   ·rw [hd] at h; cases h
    exact ⟨A, c, hv, OwB.of own⟩
  have hdl := Go.Camp.dif_len ha8.1 hb8.1 hd
  have hdl : cs.length ≤ m1.N.l.length * m2.N.l.length := hdl
  refine go TD_ok 200 rfl ?_
  repeat ((first | refine ldA TD_ok rfl rfl rfl rfl rfl (Bk.all B2) ?_ | refine ldA TD_ok rfl rfl rfl rfl rfl (Bk.all B3) ?_ | refine ld TD_ok rfl rfl rfl rfl (Bk.get B2 rfl) ?_ | refine ld TD_ok rfl rfl rfl rfl (Bk.get B3 rfl) ?_ | refine gT rfl rfl rfl rfl ?_ | refine gF rfl rfl rfl rfl ?_ | refine condT rfl rfl ?_ | refine condF rfl rfl ?_); refine go TD_ok 200 rfl ?_)
  refine call rfl rfl rfl (ok _ (by decide) rfl) (SameCells_any cs cs A5 A9 c5 c9 _ _ _ U5.sl U9.sl (by omega)) ?_
  rintro x w ⟨rfl, qk⟩
  have B2 := B2.no qk
  have B3 := B3.no qk
  have qS := qS.no qk
  have q := q.trans qk
  rw [show (cs == cs) = true from beq_self_eq_true _]
  refine go TD_ok 200 rfl ?_
  repeat ((first | refine ldA TD_ok rfl rfl rfl rfl rfl (Bk.all B2) ?_ | refine ldA TD_ok rfl rfl rfl rfl rfl (Bk.all B3) ?_ | refine ld TD_ok rfl rfl rfl rfl (Bk.get B2 rfl) ?_ | refine ld TD_ok rfl rfl rfl rfl (Bk.get B3 rfl) ?_ | refine gT rfl rfl rfl rfl ?_ | refine gF rfl rfl rfl rfl ?_ | refine condT rfl rfl ?_ | refine condF rfl rfl ?_); refine go TD_ok 200 rfl ?_)
  refine call rfl rfl rfl (ok _ (by decide) rfl) (known_any _) ?_
  rintro v wk ⟨rfl, qk⟩
  refine go TD_ok 200 rfl ?_
  exact ret (ret1 (v := .bool true) Try.results11 rfl ⟨rfl, q.trans qk⟩)
end Go.Proofs.Yteenhfnamjbaiaa
