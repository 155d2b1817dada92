/- The walk of CampEqual. -/
import Derived.Test.YteenhfnamjbaiaaK1
import Derived.Test.YteenhfnamjbaiaaW6
import Derived.Test.YteenhfnamjbaiaaE4
namespace Go.Proofs.Yteenhfnamjbaiaa
open Go.Ev Go.Proofs
open Go.Camp (Sc ScOk Sc8 runS runS_len runS_snoc desS smallP small_ok small_least difP dif_spec dif_len Eq2)
attribute [local irreducible] At AtH
set_option maxRecDepth 20000 in
set_option maxHeartbeats 16000000 in
theorem walk_CampEqual (m1 m2 : Scm) (o : Sli Bool) (w0 : World) (hm1 : InN w0 m1) (hm2 : InN w0 m2) (ho : InB w0 o) :
  Ret Try.prog 10 [.agg (scL m1).toArray, .agg (scL m2).toArray, .slice o.A o.l.length o.c] w0 fun x w' => x = .bool true ∧ Chg No w0 w' := by
 have So := ho.sl
 have Ha := hm1.m
 have Hb := hm2.m
 refine enter Try.func10 rfl Try.ntmps10 rfl ?_
 refine go TD_ok 200 rfl ?_
 refine bx rfl rfl rfl (cs := scL m1) rfl ?_
 intro g3 u3 hg3 hs3 q3 B3
 refine go TD_ok 200 rfl ?_
 refine bx rfl rfl rfl (cs := scL m2) rfl ?_
 intro g4 u4 hg4 hs4 q4 B4
 have B3 := B3.no q4
 have q := q3.trans q4
 have So := So.no q
 have Ha := Ha.no q
 have Hb := Hb.no q
 refine go TD_ok 200 rfl ?_
 repeat ((first | refine ldA TD_ok rfl rfl rfl rfl rfl (Bk.all B3) ?_ | refine ldA TD_ok rfl rfl rfl rfl rfl (Bk.all B4) ?_ | refine ld TD_ok rfl rfl rfl rfl (Bk.get B3 rfl) ?_ | refine ld TD_ok rfl rfl rfl rfl (Bk.get B4 rfl) ?_ | refine gT rfl rfl rfl rfl ?_ | refine gF rfl rfl rfl rfl ?_ | refine condT rfl rfl ?_ | refine condF rfl rfl ?_); refine go TD_ok 200 rfl ?_)
 refine call rfl rfl rfl (ok _ (by decide) rfl) (states_any m1 20 _ _ Ha) ?_
 rintro x w ⟨⟨b, rfl, hsa⟩, qk⟩
 have B3 := B3.no qk
 have B4 := B4.no qk
 have So := So.no qk
 have Ha := Ha.no qk
 have Hb := Hb.no qk
 have q := q.trans qk
 cases b with
 | false =>
  refine go TD_ok 200 rfl ?_
  repeat ((first | refine ldA TD_ok rfl rfl rfl rfl rfl (Bk.all B3) ?_ | refine ldA TD_ok rfl rfl rfl rfl rfl (Bk.all B4) ?_ | refine ld TD_ok rfl rfl rfl rfl (Bk.get B3 rfl) ?_ | refine ld TD_ok rfl rfl rfl rfl (Bk.get B4 rfl) ?_ | refine gT rfl rfl rfl rfl ?_ | refine gF rfl rfl rfl rfl ?_ | refine condT rfl rfl ?_ | refine condF rfl rfl ?_); refine go TD_ok 200 rfl ?_)
  refine call rfl rfl rfl (ok _ (by decide) rfl) (known_any _) ?_
  rintro v wk ⟨rfl, qk⟩
  refine go TD_ok 200 rfl ?_
  exact ret (ret1 (v := .bool true) Try.results10 rfl ⟨rfl, q.trans qk⟩)
 | true =>
 refine go TD_ok 200 rfl ?_
 repeat ((first | refine ldA TD_ok rfl rfl rfl rfl rfl (Bk.all B3) ?_ | refine ldA TD_ok rfl rfl rfl rfl rfl (Bk.all B4) ?_ | refine ld TD_ok rfl rfl rfl rfl (Bk.get B3 rfl) ?_ | refine ld TD_ok rfl rfl rfl rfl (Bk.get B4 rfl) ?_ | refine gT rfl rfl rfl rfl ?_ | refine gF rfl rfl rfl rfl ?_ | refine condT rfl rfl ?_ | refine condF rfl rfl ?_); refine go TD_ok 200 rfl ?_)
 refine call rfl rfl rfl (ok _ (by decide) rfl) (states_any m2 20 _ _ Hb) ?_
 rintro x w ⟨⟨b, rfl, hsb⟩, qk⟩
 have B3 := B3.no qk
 have B4 := B4.no qk
 have So := So.no qk
 have Ha := Ha.no qk
 have Hb := Hb.no qk
 have q := q.trans qk
 cases b with
 | false =>
  refine go TD_ok 200 rfl ?_
  repeat ((first | refine ldA TD_ok rfl rfl rfl rfl rfl (Bk.all B3) ?_ | refine ldA TD_ok rfl rfl rfl rfl rfl (Bk.all B4) ?_ | refine ld TD_ok rfl rfl rfl rfl (Bk.get B3 rfl) ?_ | refine ld TD_ok rfl rfl rfl rfl (Bk.get B4 rfl) ?_ | refine gT rfl rfl rfl rfl ?_ | refine gF rfl rfl rfl rfl ?_ | refine condT rfl rfl ?_ | refine condF rfl rfl ?_); refine go TD_ok 200 rfl ?_)
  refine call rfl rfl rfl (ok _ (by decide) rfl) (known_any _) ?_
  rintro v wk ⟨rfl, qk⟩
  refine go TD_ok 200 rfl ?_
  exact ret (ret1 (v := .bool true) Try.results10 rfl ⟨rfl, q.trans qk⟩)
 | true =>
 refine go TD_ok 200 rfl ?_
 repeat ((first | refine ldA TD_ok rfl rfl rfl rfl rfl (Bk.all B3) ?_ | refine ldA TD_ok rfl rfl rfl rfl rfl (Bk.all B4) ?_ | refine ld TD_ok rfl rfl rfl rfl (Bk.get B3 rfl) ?_ | refine ld TD_ok rfl rfl rfl rfl (Bk.get B4 rfl) ?_ | refine gT rfl rfl rfl rfl ?_ | refine gF rfl rfl rfl rfl ?_ | refine condT rfl rfl ?_ | refine condF rfl rfl ?_); refine go TD_ok 200 rfl ?_)
 by_cases h100 : 100 < (o.l.length : Int)
 ·rw [decide_eq_true h100]
  refine go TD_ok 200 rfl ?_
  repeat ((first | refine ldA TD_ok rfl rfl rfl rfl rfl (Bk.all B3) ?_ | refine ldA TD_ok rfl rfl rfl rfl rfl (Bk.all B4) ?_ | refine ld TD_ok rfl rfl rfl rfl (Bk.get B3 rfl) ?_ | refine ld TD_ok rfl rfl rfl rfl (Bk.get B4 rfl) ?_ | refine gT rfl rfl rfl rfl ?_ | refine gF rfl rfl rfl rfl ?_ | refine condT rfl rfl ?_ | refine condF rfl rfl ?_); refine go TD_ok 200 rfl ?_)
  refine call rfl rfl rfl (ok _ (by decide) rfl) (known_any _) ?_
  rintro v wk ⟨rfl, qk⟩
  refine go TD_ok 200 rfl ?_
  exact ret (ret1 (v := .bool true) Try.results10 rfl ⟨rfl, q.trans qk⟩)
 rw [decide_eq_false h100]
 refine go TD_ok 200 rfl ?_
 repeat ((first | refine ldA TD_ok rfl rfl rfl rfl rfl (Bk.all B3) ?_ | refine ldA TD_ok rfl rfl rfl rfl rfl (Bk.all B4) ?_ | refine ld TD_ok rfl rfl rfl rfl (Bk.get B3 rfl) ?_ | refine ld TD_ok rfl rfl rfl rfl (Bk.get B4 rfl) ?_ | refine gT rfl rfl rfl rfl ?_ | refine gF rfl rfl rfl rfl ?_ | refine condT rfl rfl ?_ | refine condF rfl rfl ?_); refine go TD_ok 200 rfl ?_)
 refine call rfl rfl rfl (ok _ (by decide) rfl) (rScanner_any m1 _ _ Ha) ?_
 rintro x w ⟨⟨b, rfl, hb⟩, qk⟩
 have B3 := B3.no qk
 have B4 := B4.no qk
 have So := So.no qk
 have Ha := Ha.no qk
 have Hb := Hb.no qk
 have q := q.trans qk
 cases b with
 | false =>
  refine go TD_ok 200 rfl ?_
  repeat ((first | refine ldA TD_ok rfl rfl rfl rfl rfl (Bk.all B3) ?_ | refine ldA TD_ok rfl rfl rfl rfl rfl (Bk.all B4) ?_ | refine ld TD_ok rfl rfl rfl rfl (Bk.get B3 rfl) ?_ | refine ld TD_ok rfl rfl rfl rfl (Bk.get B4 rfl) ?_ | refine gT rfl rfl rfl rfl ?_ | refine gF rfl rfl rfl rfl ?_ | refine condT rfl rfl ?_ | refine condF rfl rfl ?_); refine go TD_ok 200 rfl ?_)
  refine call rfl rfl rfl (ok _ (by decide) rfl) (known_any _) ?_
  rintro v wk ⟨rfl, qk⟩
  refine go TD_ok 200 rfl ?_
  exact ret (ret1 (v := .bool true) Try.results10 rfl ⟨rfl, q.trans qk⟩)
 | true =>
 have ha8 := hb.1 rfl
 refine go TD_ok 200 rfl ?_
 repeat ((first | refine ldA TD_ok rfl rfl rfl rfl rfl (Bk.all B3) ?_ | refine ldA TD_ok rfl rfl rfl rfl rfl (Bk.all B4) ?_ | refine ld TD_ok rfl rfl rfl rfl (Bk.get B3 rfl) ?_ | refine ld TD_ok rfl rfl rfl rfl (Bk.get B4 rfl) ?_ | refine gT rfl rfl rfl rfl ?_ | refine gF rfl rfl rfl rfl ?_ | refine condT rfl rfl ?_ | refine condF rfl rfl ?_); refine go TD_ok 200 rfl ?_)
 refine call rfl rfl rfl (ok _ (by decide) rfl) (rScanner_any m2 _ _ Hb) ?_
 rintro x w ⟨⟨b, rfl, hb⟩, qk⟩
 have B3 := B3.no qk
 have B4 := B4.no qk
 have So := So.no qk
 have Ha := Ha.no qk
 have Hb := Hb.no qk
 have q := q.trans qk
 cases b with
 | false =>
  refine go TD_ok 200 rfl ?_
  repeat ((first | refine ldA TD_ok rfl rfl rfl rfl rfl (Bk.all B3) ?_ | refine ldA TD_ok rfl rfl rfl rfl rfl (Bk.all B4) ?_ | refine ld TD_ok rfl rfl rfl rfl (Bk.get B3 rfl) ?_ | refine ld TD_ok rfl rfl rfl rfl (Bk.get B4 rfl) ?_ | refine gT rfl rfl rfl rfl ?_ | refine gF rfl rfl rfl rfl ?_ | refine condT rfl rfl ?_ | refine condF rfl rfl ?_); refine go TD_ok 200 rfl ?_)
  refine call rfl rfl rfl (ok _ (by decide) rfl) (known_any _) ?_
  rintro v wk ⟨rfl, qk⟩
  refine go TD_ok 200 rfl ?_
  exact ret (ret1 (v := .bool true) Try.results10 rfl ⟨rfl, q.trans qk⟩)
 | true =>
 have hb8 := hb.1 rfl
 have na : m1.N.l.length ≤ 20 := by have := (hsa rfl).1; have e : m1.N.l.length ≤ 128 := ha8.2; omega
 have nb : m2.N.l.length ≤ 20 := by have := (hsb rfl).1; have e : m2.N.l.length ≤ 128 := hb8.2; omega
 have ea1 : (scP m1).nx.length = m1.N.l.length := rfl
 have eb1 : (scP m2).nx.length = m2.N.l.length := rfl
 obtain ⟨k1, k2, k3, _⟩ := small_ok ha8.1
 refine go TD_ok 200 rfl ?_
 repeat ((first | refine ldA TD_ok rfl rfl rfl rfl rfl (Bk.all B3) ?_ | refine ldA TD_ok rfl rfl rfl rfl rfl (Bk.all B4) ?_ | refine ld TD_ok rfl rfl rfl rfl (Bk.get B3 rfl) ?_ | refine ld TD_ok rfl rfl rfl rfl (Bk.get B4 rfl) ?_ | refine gT rfl rfl rfl rfl ?_ | refine gF rfl rfl rfl rfl ?_ | refine condT rfl rfl ?_ | refine condF rfl rfl ?_); refine go TD_ok 200 rfl ?_)
 refine call rfl rfl rfl (ok _ (by decide) rfl) (Smallest_any m1 _ _ Ha) ?_
 rintro x w ⟨qk, hX⟩
 have B3 := B3.no qk
 have B4 := B4.no qk
 have So := So.no qk
 have Ha := Ha.no qk
 have Hb := Hb.no qk
 have q := q.trans qk
 obtain ⟨x, rfl, hV⟩ := (hX.resolve_left (fun h => h.1 ha8)).2
 obtain ⟨mx, hmx, rfl, HX⟩ := hV.m k1.al (by omega)
 clear hX hV
 refine go TD_ok 200 rfl ?_
 refine nw rfl rfl (z := .agg #[.slice none 0 0, .slice none 0 0]) (by kernel_rfl) (cs := [.slice none 0 0, .slice none 0 0]) rfl ?_
 intro g7 w hg7 hs7 qk B7
 have l3 := B3.lt
 have l4 := B4.lt
 have lq := q.size
 have lX := HX.n.2.1
 have B3 := B3.no qk
 have B4 := B4.no qk
 have So := So.no qk
 have Ha := Ha.no qk
 have Hb := Hb.no qk
 have HX := HX.no qk
 have q := q.trans qk
 refine go TD_ok 200 rfl ?_
 refine stA TD_ok rfl rfl rfl rfl (vs := scL mx) rfl rfl rfl B7 rfl ?_
 intro w qk B7 hz7
 have B7 : Bk w g7 77 (scL mx) := B7
 have B3 := B3.keep qk (by omega)
 have B4 := B4.keep qk (by omega)
 have So := So.keep qk (fun k hk e => by omega)
 have Ha := Ha.keep qk (fun k hk e => by omega)
 have Hb := Hb.keep qk (fun k hk e => by omega)
 have HX := HX.keep qk (fun k hk e => by omega)
 have q := q.step qk (fun k hk e => by omega)
 have ex : scP mx = smallP (scP m1) := hmx
 have ex1 : (scP mx).nx.length = mx.N.l.length := rfl
 have hxN : mx.N.l.length ≤ m1.N.l.length := by rw [ex] at ex1; omega
 have hx8 : Sc8 (scP mx) := by rw [ex]; exact ⟨k1, by omega⟩
 have hEq : Eq2 (scP mx) (scP m1) 0 0 := by rw [ex]; exact k3
 have hLe : Eq2 (scP m1) (scP m2) 0 0 → mx.N.l.length ≤ m2.N.l.length := fun h => by
  have := small_least ha8.1 hb8.1 h
  rw [← ex] at this
  exact this
 clear ex hmx hz7 hg7 hs7 l3 l4 lX lq
 refine go TD_ok 200 rfl ?_
 repeat ((first | refine ldA TD_ok rfl rfl rfl rfl rfl (Bk.all B3) ?_ | refine ldA TD_ok rfl rfl rfl rfl rfl (Bk.all B4) ?_ | refine ldA TD_ok rfl rfl rfl rfl rfl (Bk.all B7) ?_ | refine ld TD_ok rfl rfl rfl rfl (Bk.get B3 rfl) ?_ | refine ld TD_ok rfl rfl rfl rfl (Bk.get B4 rfl) ?_ | refine ld TD_ok rfl rfl rfl rfl (Bk.get B7 rfl) ?_ | refine gT rfl rfl rfl rfl ?_ | refine gF rfl rfl rfl rfl ?_ | refine condT rfl rfl ?_ | refine condF rfl rfl ?_); refine go TD_ok 200 rfl ?_)
 refine call rfl rfl rfl (ok _ (by decide) rfl) (rScanner_any mx _ _ HX) ?_
 rintro x w ⟨⟨b, rfl, hb⟩, qk⟩
 have B3 := B3.no qk
 have B4 := B4.no qk
 have B7 := B7.no qk
 have So := So.no qk
 have Ha := Ha.no qk
 have Hb := Hb.no qk
 have HX := HX.no qk
 have q := q.trans qk
 obtain rfl : b = true := hb.2 hx8
 refine go TD_ok 200 rfl ?_
 repeat ((first | refine ldA TD_ok rfl rfl rfl rfl rfl (Bk.all B3) ?_ | refine ldA TD_ok rfl rfl rfl rfl rfl (Bk.all B4) ?_ | refine ldA TD_ok rfl rfl rfl rfl rfl (Bk.all B7) ?_ | refine ld TD_ok rfl rfl rfl rfl (Bk.get B3 rfl) ?_ | refine ld TD_ok rfl rfl rfl rfl (Bk.get B4 rfl) ?_ | refine ld TD_ok rfl rfl rfl rfl (Bk.get B7 rfl) ?_ | refine gT rfl rfl rfl rfl ?_ | refine gF rfl rfl rfl rfl ?_ | refine condT rfl rfl ?_ | refine condF rfl rfl ?_); refine go TD_ok 200 rfl ?_)
 rw [decide_eq_false (show ¬ (m1.N.l.length : Int) < (mx.N.l.length : Int) by omega)]
 refine go TD_ok 200 rfl ?_
 repeat ((first | refine ldA TD_ok rfl rfl rfl rfl rfl (Bk.all B3) ?_ | refine ldA TD_ok rfl rfl rfl rfl rfl (Bk.all B4) ?_ | refine ldA TD_ok rfl rfl rfl rfl rfl (Bk.all B7) ?_ | refine ld TD_ok rfl rfl rfl rfl (Bk.get B3 rfl) ?_ | refine ld TD_ok rfl rfl rfl rfl (Bk.get B4 rfl) ?_ | refine ld TD_ok rfl rfl rfl rfl (Bk.get B7 rfl) ?_ | refine gT rfl rfl rfl rfl ?_ | refine gF rfl rfl rfl rfl ?_ | refine condT rfl rfl ?_ | refine condF rfl rfl ?_); refine go TD_ok 200 rfl ?_)
 refine call rfl rfl rfl (ok _ (by decide) rfl) (Differ_any m1 mx _ _ (Ha.more Ha.n.2.1 (Nat.le_refl _)) (HX.more HX.n.2.1 (Nat.le_refl _))) ?_
 rintro x w ⟨qk, hD⟩
 have B3 := B3.no qk
 have B4 := B4.no qk
 have B7 := B7.no qk
 have So := So.no qk
 have Ha := Ha.no qk
 have Hb := Hb.no qk
 have HX := HX.no qk
 have q := q.trans qk
 obtain rfl : x = .tuple #[.slice none 0 0, I 5] := by
  rcases hD with ⟨h, _⟩ | ⟨_, _, h⟩ | ⟨_, cs, A, c, h, _⟩
  ·exact absurd ⟨ha8, hx8⟩ h
  ·exact h
  ·rw [Go.Camp.dif_none ha8.1 hx8.1 hEq.symm] at h; cases h
 refine go TD_ok 200 rfl ?_
 repeat ((first | refine ldA TD_ok rfl rfl rfl rfl rfl (Bk.all B3) ?_ | refine ldA TD_ok rfl rfl rfl rfl rfl (Bk.all B4) ?_ | refine ldA TD_ok rfl rfl rfl rfl rfl (Bk.all B7) ?_ | refine ld TD_ok rfl rfl rfl rfl (Bk.get B3 rfl) ?_ | refine ld TD_ok rfl rfl rfl rfl (Bk.get B4 rfl) ?_ | refine ld TD_ok rfl rfl rfl rfl (Bk.get B7 rfl) ?_ | refine gT rfl rfl rfl rfl ?_ | refine gF rfl rfl rfl rfl ?_ | refine condT rfl rfl ?_ | refine condF rfl rfl ?_); refine go TD_ok 200 rfl ?_)
 refine call rfl rfl rfl (ok _ (by decide) rfl) (Scan_any m1 o.l o.A o.c _ _ _ Ha So (by omega)) ?_
 rintro x w ⟨qk, hS⟩
 have B3 := B3.no qk
 have B4 := B4.no qk
 have B7 := B7.no qk
 have So := So.no qk
 have Ha := Ha.no qk
 have Hb := Hb.no qk
 have HX := HX.no qk
 have q := q.trans qk
 obtain ⟨A11, c11, rfl, U11⟩ : ∃ A c, x = .tuple #[.slice A (o.l).length c, I 0] ∧ OwB w A c (o.l).length (runS (scP m1) 0 o.l) := by
  rcases hS with ⟨h, _⟩ | ⟨_, h, _⟩ | ⟨_, _, A, c, h, own⟩
  ·exact absurd ha8 h
  ·omega
  ·exact ⟨A, c, h, OwB.of own⟩
 clear hS
 refine go TD_ok 200 rfl ?_
 repeat ((first | refine ldA TD_ok rfl rfl rfl rfl rfl (Bk.all B3) ?_ | refine ldA TD_ok rfl rfl rfl rfl rfl (Bk.all B4) ?_ | refine ldA TD_ok rfl rfl rfl rfl rfl (Bk.all B7) ?_ | refine ld TD_ok rfl rfl rfl rfl (Bk.get B3 rfl) ?_ | refine ld TD_ok rfl rfl rfl rfl (Bk.get B4 rfl) ?_ | refine ld TD_ok rfl rfl rfl rfl (Bk.get B7 rfl) ?_ | refine gT rfl rfl rfl rfl ?_ | refine gF rfl rfl rfl rfl ?_ | refine condT rfl rfl ?_ | refine condF rfl rfl ?_); refine go TD_ok 200 rfl ?_)
 refine call rfl rfl rfl (ok _ (by decide) rfl) (Scan_any mx o.l o.A o.c _ _ _ HX So (by omega)) ?_
 rintro x w ⟨qk, hS⟩
 have B3 := B3.no qk
 have B4 := B4.no qk
 have B7 := B7.no qk
 have So := So.no qk
 have Ha := Ha.no qk
 have Hb := Hb.no qk
 have HX := HX.no qk
 have U11 := U11.no qk
 have q := q.trans qk
 obtain ⟨A13, c13, rfl, U13⟩ : ∃ A c, x = .tuple #[.slice A (o.l).length c, I 0] ∧ OwB w A c (o.l).length (runS (scP mx) 0 o.l) := by
  rcases hS with ⟨h, _⟩ | ⟨_, h, _⟩ | ⟨_, _, A, c, h, own⟩
  ·exact absurd hx8 h
  ·omega
  ·exact ⟨A, c, h, OwB.of own⟩
 clear hS
 refine go TD_ok 200 rfl ?_
 repeat ((first | refine ldA TD_ok rfl rfl rfl rfl rfl (Bk.all B3) ?_ | refine ldA TD_ok rfl rfl rfl rfl rfl (Bk.all B4) ?_ | refine ldA TD_ok rfl rfl rfl rfl rfl (Bk.all B7) ?_ | refine ld TD_ok rfl rfl rfl rfl (Bk.get B3 rfl) ?_ | refine ld TD_ok rfl rfl rfl rfl (Bk.get B4 rfl) ?_ | refine ld TD_ok rfl rfl rfl rfl (Bk.get B7 rfl) ?_ | refine gT rfl rfl rfl rfl ?_ | refine gF rfl rfl rfl rfl ?_ | refine condT rfl rfl ?_ | refine condF rfl rfl ?_); refine go TD_ok 200 rfl ?_)
 refine call rfl rfl rfl (ok _ (by decide) rfl) (Scan_any m2 o.l o.A o.c _ _ _ Hb So (by omega)) ?_
 rintro x w ⟨qk, hS⟩
 have B3 := B3.no qk
 have B4 := B4.no qk
 have B7 := B7.no qk
 have So := So.no qk
 have Ha := Ha.no qk
 have Hb := Hb.no qk
 have HX := HX.no qk
 have U11 := U11.no qk
 have U13 := U13.no qk
 have q := q.trans qk
 obtain ⟨A15, c15, rfl, U15⟩ : ∃ A c, x = .tuple #[.slice A (o.l).length c, I 0] ∧ OwB w A c (o.l).length (runS (scP m2) 0 o.l) := by
  rcases hS with ⟨h, _⟩ | ⟨_, h, _⟩ | ⟨_, _, A, c, h, own⟩
  ·exact absurd hb8 h
  ·omega
  ·exact ⟨A, c, h, OwB.of own⟩
 clear hS
 refine go TD_ok 200 rfl ?_
 repeat ((first | refine ldA TD_ok rfl rfl rfl rfl rfl (Bk.all B3) ?_ | refine ldA TD_ok rfl rfl rfl rfl rfl (Bk.all B4) ?_ | refine ldA TD_ok rfl rfl rfl rfl rfl (Bk.all B7) ?_ | refine ld TD_ok rfl rfl rfl rfl (Bk.get B3 rfl) ?_ | refine ld TD_ok rfl rfl rfl rfl (Bk.get B4 rfl) ?_ | refine ld TD_ok rfl rfl rfl rfl (Bk.get B7 rfl) ?_ | refine gT rfl rfl rfl rfl ?_ | refine gF rfl rfl rfl rfl ?_ | refine condT rfl rfl ?_ | refine condF rfl rfl ?_); refine go TD_ok 200 rfl ?_)
 have r1 : runS (scP m1) 0 o.l = runS (scP mx) 0 o.l := (hEq o.l).symm
 have X := SameCells_any (runS (scP m1) 0 o.l) (runS (scP mx) 0 o.l) A11 A13 c11 c13 _ _ w (by rw [runS_len]; exact U11.sl) (by rw [runS_len]; exact U13.sl) (by rw [runS_len]; omega)
 rw [runS_len, runS_len] at X
 refine call rfl rfl rfl (ok _ (by decide) rfl) X ?_
 clear X
 rintro x w ⟨rfl, qk⟩
 have B3 := B3.no qk
 have B4 := B4.no qk
 have B7 := B7.no qk
 have So := So.no qk
 have Ha := Ha.no qk
 have Hb := Hb.no qk
 have HX := HX.no qk
 have U11 := U11.no qk
 have U13 := U13.no qk
 have U15 := U15.no qk
 have q := q.trans qk
 rw [← r1, show (runS (scP m1) 0 o.l == runS (scP m1) 0 o.l) = true from beq_self_eq_true _]
 refine go TD_ok 200 rfl ?_
 repeat ((first | refine ldA TD_ok rfl rfl rfl rfl rfl (Bk.all B3) ?_ | refine ldA TD_ok rfl rfl rfl rfl rfl (Bk.all B4) ?_ | refine ldA TD_ok rfl rfl rfl rfl rfl (Bk.all B7) ?_ | refine ld TD_ok rfl rfl rfl rfl (Bk.get B3 rfl) ?_ | refine ld TD_ok rfl rfl rfl rfl (Bk.get B4 rfl) ?_ | refine ld TD_ok rfl rfl rfl rfl (Bk.get B7 rfl) ?_ | refine gT rfl rfl rfl rfl ?_ | refine gF rfl rfl rfl rfl ?_ | refine condT rfl rfl ?_ | refine condF rfl rfl ?_); refine go TD_ok 200 rfl ?_)
 refine call rfl rfl rfl (ok _ (by decide) rfl) (Differ_any m1 m2 _ _ (Ha.more Ha.n.2.1 (Nat.le_refl _)) (Hb.more Hb.n.2.1 (Nat.le_refl _))) ?_
 rintro x w ⟨qk, hD⟩
 have B3 := B3.no qk
 have B4 := B4.no qk
 have B7 := B7.no qk
 have So := So.no qk
 have Ha := Ha.no qk
 have Hb := Hb.no qk
 have HX := HX.no qk
 have U11 := U11.no qk
 have U15 := U15.no qk
 have q := q.trans qk
 obtain ⟨s1, s2⟩ := dif_spec ha8.1 hb8.1
 have s3 := fun d => dif_len ha8.1 hb8.1 (d := d)
 have hnm : (scP m1).nx.length * (scP m2).nx.length ≤ 20 * 20 := Nat.mul_le_mul na nb
 cases hdp : difP (scP m1) (scP m2) with
 | none =>
  have he := s1 hdp
  obtain rfl : x = .tuple #[.slice none 0 0, I 5] := by
   rcases hD with ⟨h, _⟩ | ⟨_, _, h⟩ | ⟨_, cs, A, c, h, _⟩
   ·exact absurd ⟨ha8, hb8⟩ h
   ·exact h
   ·rw [hdp] at h; cases h
  have hle := hLe he
  refine go TD_ok 200 rfl ?_
  repeat ((first | refine ldA TD_ok rfl rfl rfl rfl rfl (Bk.all B3) ?_ | refine ldA TD_ok rfl rfl rfl rfl rfl (Bk.all B4) ?_ | refine ldA TD_ok rfl rfl rfl rfl rfl (Bk.all B7) ?_ | refine ld TD_ok rfl rfl rfl rfl (Bk.get B3 rfl) ?_ | refine ld TD_ok rfl rfl rfl rfl (Bk.get B4 rfl) ?_ | refine ld TD_ok rfl rfl rfl rfl (Bk.get B7 rfl) ?_ | refine gT rfl rfl rfl rfl ?_ | refine gF rfl rfl rfl rfl ?_ | refine condT rfl rfl ?_ | refine condF rfl rfl ?_); refine go TD_ok 200 rfl ?_)
  have r2 : runS (scP m1) 0 o.l = runS (scP m2) 0 o.l := he o.l
  have X := SameCells_any (runS (scP m1) 0 o.l) (runS (scP m2) 0 o.l) A11 A15 c11 c15 _ _ w (by rw [runS_len]; exact U11.sl) (by rw [runS_len]; exact U15.sl) (by rw [runS_len]; omega)
  rw [runS_len, runS_len] at X
  refine call rfl rfl rfl (ok _ (by decide) rfl) X ?_
  clear X
  rintro x w ⟨rfl, qk⟩
  have B3 := B3.no qk
  have B4 := B4.no qk
  have B7 := B7.no qk
  have So := So.no qk
  have Ha := Ha.no qk
  have Hb := Hb.no qk
  have HX := HX.no qk
  have U11 := U11.no qk
  have U15 := U15.no qk
  have q := q.trans qk
  rw [← r2, show (runS (scP m1) 0 o.l == runS (scP m1) 0 o.l) = true from beq_self_eq_true _]
  refine go TD_ok 200 rfl ?_
  repeat ((first | refine ldA TD_ok rfl rfl rfl rfl rfl (Bk.all B3) ?_ | refine ldA TD_ok rfl rfl rfl rfl rfl (Bk.all B4) ?_ | refine ldA TD_ok rfl rfl rfl rfl rfl (Bk.all B7) ?_ | refine ld TD_ok rfl rfl rfl rfl (Bk.get B3 rfl) ?_ | refine ld TD_ok rfl rfl rfl rfl (Bk.get B4 rfl) ?_ | refine ld TD_ok rfl rfl rfl rfl (Bk.get B7 rfl) ?_ | refine gT rfl rfl rfl rfl ?_ | refine gF rfl rfl rfl rfl ?_ | refine condT rfl rfl ?_ | refine condF rfl rfl ?_); refine go TD_ok 200 rfl ?_)
  rw [decide_eq_true (show (mx.N.l.length : Int) ≤ (m2.N.l.length : Int) by omega)]
  refine go TD_ok 200 rfl ?_
  repeat ((first | refine ldA TD_ok rfl rfl rfl rfl rfl (Bk.all B3) ?_ | refine ldA TD_ok rfl rfl rfl rfl rfl (Bk.all B4) ?_ | refine ldA TD_ok rfl rfl rfl rfl rfl (Bk.all B7) ?_ | refine ld TD_ok rfl rfl rfl rfl (Bk.get B3 rfl) ?_ | refine ld TD_ok rfl rfl rfl rfl (Bk.get B4 rfl) ?_ | refine ld TD_ok rfl rfl rfl rfl (Bk.get B7 rfl) ?_ | refine gT rfl rfl rfl rfl ?_ | refine gF rfl rfl rfl rfl ?_ | refine condT rfl rfl ?_ | refine condF rfl rfl ?_); refine go TD_ok 200 rfl ?_)
  refine call rfl rfl rfl (ok _ (by decide) rfl) (known_any _) ?_
  rintro v wk ⟨rfl, qk⟩
  refine go TD_ok 200 rfl ?_
  exact ret (ret1 (v := .bool true) Try.results10 rfl ⟨rfl, q.trans qk⟩)
 | some d =>
  obtain ⟨cs, cb, rfl, hrun, hne⟩ := s2 d hdp
  have hdl := s3 _ hdp
  obtain ⟨A17, c17, rfl, U17⟩ : ∃ A c, x = .tuple #[.slice A (cs ++ [cb]).length c, I 0] ∧ OwB w A c (cs ++ [cb]).length (cs ++ [cb]) := by
   rcases hD with ⟨h, _⟩ | ⟨_, h, _⟩ | ⟨_, cs', A, c, h, hv, own⟩
   ·exact absurd ⟨ha8, hb8⟩ h
   ·rw [hdp] at h; cases h
   ·rw [hdp] at h; cases h
    exact ⟨A, c, hv, OwB.of own⟩
  obtain ⟨D, hDD⟩ : ∃ D, D = cs ++ [cb] := ⟨_, rfl⟩
  have hDl : D.length = cs.length + 1 := by rw [hDD]; simp
  have hr1 : runS (scP m1) 0 D = runS (scP m1) 0 cs ++ [Go.Camp.alC (scP m1) (desS (scP m1) 0 cs) cb] := by rw [hDD]; exact runS_snoc _ _ _ _
  have hr2 : runS (scP m2) 0 D = runS (scP m2) 0 cs ++ [Go.Camp.alC (scP m2) (desS (scP m2) 0 cs) cb] := by rw [hDD]; exact runS_snoc _ _ _ _
  rw [← hDD] at hdl U17 ⊢
  clear hDD hD hdp
  refine go TD_ok 200 rfl ?_
  repeat ((first | refine ldA TD_ok rfl rfl rfl rfl rfl (Bk.all B3) ?_ | refine ldA TD_ok rfl rfl rfl rfl rfl (Bk.all B4) ?_ | refine ldA TD_ok rfl rfl rfl rfl rfl (Bk.all B7) ?_ | refine ld TD_ok rfl rfl rfl rfl (Bk.get B3 rfl) ?_ | refine ld TD_ok rfl rfl rfl rfl (Bk.get B4 rfl) ?_ | refine ld TD_ok rfl rfl rfl rfl (Bk.get B7 rfl) ?_ | refine gT rfl rfl rfl rfl ?_ | refine gF rfl rfl rfl rfl ?_ | refine condT rfl rfl ?_ | refine condF rfl rfl ?_); refine go TD_ok 200 rfl ?_)
  have e0 : ((D.length : Int) == 0) = false := beq_eq_false_iff_ne.2 (by omega)
  rw [e0]
  refine go TD_ok 200 rfl ?_
  repeat ((first | refine ldA TD_ok rfl rfl rfl rfl rfl (Bk.all B3) ?_ | refine ldA TD_ok rfl rfl rfl rfl rfl (Bk.all B4) ?_ | refine ldA TD_ok rfl rfl rfl rfl rfl (Bk.all B7) ?_ | refine ld TD_ok rfl rfl rfl rfl (Bk.get B3 rfl) ?_ | refine ld TD_ok rfl rfl rfl rfl (Bk.get B4 rfl) ?_ | refine ld TD_ok rfl rfl rfl rfl (Bk.get B7 rfl) ?_ | refine gT rfl rfl rfl rfl ?_ | refine gF rfl rfl rfl rfl ?_ | refine condT rfl rfl ?_ | refine condF rfl rfl ?_); refine go TD_ok 200 rfl ?_)
  refine call rfl rfl rfl (ok _ (by decide) rfl) (Scan_any m1 D A17 c17 _ _ _ Ha U17.sl (by omega)) ?_
  rintro x w ⟨qk, hS⟩
  have B3 := B3.no qk
  have B4 := B4.no qk
  have B7 := B7.no qk
  have So := So.no qk
  have Ha := Ha.no qk
  have Hb := Hb.no qk
  have HX := HX.no qk
  have U17 := U17.no qk
  have q := q.trans qk
  obtain ⟨A19, c19, rfl, U19⟩ : ∃ A c, x = .tuple #[.slice A (D).length c, I 0] ∧ OwB w A c (D).length (runS (scP m1) 0 D) := by
   rcases hS with ⟨h, _⟩ | ⟨_, h, _⟩ | ⟨_, _, A, c, h, own⟩
   ·exact absurd ha8 h
   ·omega
   ·exact ⟨A, c, h, OwB.of own⟩
  clear hS
  refine go TD_ok 200 rfl ?_
  repeat ((first | refine ldA TD_ok rfl rfl rfl rfl rfl (Bk.all B3) ?_ | refine ldA TD_ok rfl rfl rfl rfl rfl (Bk.all B4) ?_ | refine ldA TD_ok rfl rfl rfl rfl rfl (Bk.all B7) ?_ | refine ld TD_ok rfl rfl rfl rfl (Bk.get B3 rfl) ?_ | refine ld TD_ok rfl rfl rfl rfl (Bk.get B4 rfl) ?_ | refine ld TD_ok rfl rfl rfl rfl (Bk.get B7 rfl) ?_ | refine gT rfl rfl rfl rfl ?_ | refine gF rfl rfl rfl rfl ?_ | refine condT rfl rfl ?_ | refine condF rfl rfl ?_); refine go TD_ok 200 rfl ?_)
  refine call rfl rfl rfl (ok _ (by decide) rfl) (Scan_any m2 D A17 c17 _ _ _ Hb U17.sl (by omega)) ?_
  rintro x w ⟨qk, hS⟩
  have B3 := B3.no qk
  have B4 := B4.no qk
  have B7 := B7.no qk
  have So := So.no qk
  have Ha := Ha.no qk
  have Hb := Hb.no qk
  have HX := HX.no qk
  have U17 := U17.no qk
  have U19 := U19.no qk
  have q := q.trans qk
  obtain ⟨A21, c21, rfl, U21⟩ : ∃ A c, x = .tuple #[.slice A (D).length c, I 0] ∧ OwB w A c (D).length (runS (scP m2) 0 D) := by
   rcases hS with ⟨h, _⟩ | ⟨_, h, _⟩ | ⟨_, _, A, c, h, own⟩
   ·exact absurd hb8 h
   ·omega
   ·exact ⟨A, c, h, OwB.of own⟩
  clear hS
  refine go TD_ok 200 rfl ?_
  have S19 : Sl w w.heap.size 1 A19 (runS (scP m1) 0 D).length (bL (runS (scP m1) 0 D)) := by rw [runS_len]; exact U19.sl
  have S21 : Sl w w.heap.size 1 A21 (runS (scP m2) 0 D).length (bL (runS (scP m2) 0 D)) := by rw [runS_len]; exact U21.sl
  have g19 : (runS (scP m1) 0 D)[cs.length]? = some (Go.Camp.alC (scP m1) (desS (scP m1) 0 cs) cb) := by rw [hr1, List.getElem?_append_right (by rw [runS_len]; exact Nat.le_refl _), runS_len, Nat.sub_self]; rfl
  have g21 : (runS (scP m2) 0 D)[cs.length]? = some (Go.Camp.alC (scP m2) (desS (scP m2) 0 cs) cb) := by rw [hr2, List.getElem?_append_right (by rw [runS_len]; exact Nat.le_refl _), runS_len, Nat.sub_self]; rfl
  obtain ⟨b1, o1, hA1, hb1, hc1⟩ := Sl_elB S19 g19
  obtain ⟨b2, o2, hA2, hb2, hc2⟩ := Sl_elB S21 g21
  have T19 := U19.sl.take cs.length (by omega)
  have T21 := U21.sl.take cs.length (by omega)
  have et1 : (bL (runS (scP m1) 0 D)).take (cs.length * 1) = bL (runS (scP m1) 0 cs) := by
   rw [hr1, Nat.mul_one, show bL (runS (scP m1) 0 cs ++ [Go.Camp.alC (scP m1) (desS (scP m1) 0 cs) cb]) = bL (runS (scP m1) 0 cs) ++ bL [Go.Camp.alC (scP m1) (desS (scP m1) 0 cs) cb] by simp [bL]]
   exact List.take_left' (by rw [bL_len, runS_len])
  have et2 : (bL (runS (scP m2) 0 D)).take (cs.length * 1) = bL (runS (scP m2) 0 cs) := by
   rw [hr2, Nat.mul_one, show bL (runS (scP m2) 0 cs ++ [Go.Camp.alC (scP m2) (desS (scP m2) 0 cs) cb]) = bL (runS (scP m2) 0 cs) ++ bL [Go.Camp.alC (scP m2) (desS (scP m2) 0 cs) cb] by simp [bL]]
   exact List.take_left' (by rw [bL_len, runS_len])
  rw [et1] at T19
  rw [et2] at T21
  have cp1 := U19.cap
  have cp2 := U21.cap
  refine draw mixed (fun w' => Chg No w w') ([0,1,2,3,4,5,6,7,8,9,10,11,12,13,14,15,16,17,18,19,20,21,22,23,24,25,26,27,28,29,30,31,32,33,34,35,36,37,38,39].map (fun i => (i, true)) ++ [(40, false)] ++ [41,42].map (fun i => (i, true)) ++ [(43, false)] ++ [44,45].map (fun i => (i, true))) rfl (by kernel_rfl) (Chg.drew _) ?_
  have qd := Chg.drew w
  have w1 : w64 ((D.length : Int) - 1) = (cs.length : Int) := by rw [w64_id (by omega) (by omega)]; omega
  refine goH TD_ok 200 rfl ?_
  repeat (first | (refine gTH rfl rfl rfl rfl ?_; refine goH TD_ok 200 rfl ?_) | (refine gFH rfl rfl rfl rfl ?_; refine goH TD_ok 200 rfl ?_))
  rw [show ((D.length : Int) == (D.length : Int)) = true from beq_self_eq_true _]
  refine goH TD_ok 200 rfl ?_
  repeat (first | (refine gTH rfl rfl rfl rfl ?_; refine goH TD_ok 200 rfl ?_) | (refine gFH rfl rfl rfl rfl ?_; refine goH TD_ok 200 rfl ?_))
  rw [show ((D.length : Int) == (D.length : Int)) = true from beq_self_eq_true _]
  refine goH TD_ok 200 rfl ?_
  repeat (first | (refine gTH rfl rfl rfl rfl ?_; refine goH TD_ok 200 rfl ?_) | (refine gFH rfl rfl rfl rfl ?_; refine goH TD_ok 200 rfl ?_))
  rw [w1, hA1]
  refine quietH rfl (fun w' hS => r_idx TD_ok rfl rfl rfl rfl cs.length rfl (by omega)) ?_
  refine goH TD_ok 200 rfl ?_
  repeat (first | (refine gTH rfl rfl rfl rfl ?_; refine goH TD_ok 200 rfl ?_) | (refine gFH rfl rfl rfl rfl ?_; refine goH TD_ok 200 rfl ?_))
  refine quietH rfl (fun w' hS => r_load TD_ok rfl rfl rfl ((hS.cell (a := ⟨b1, o1 + cs.length * 1, none⟩) (by show b1 < _; omega) (fun h => h)).trans hc1)) ?_
  rw [← hA1]
  refine goH TD_ok 200 rfl ?_
  repeat (first | (refine gTH rfl rfl rfl rfl ?_; refine goH TD_ok 200 rfl ?_) | (refine gFH rfl rfl rfl rfl ?_; refine goH TD_ok 200 rfl ?_))
  rw [w1, hA2]
  refine quietH rfl (fun w' hS => r_idx TD_ok rfl rfl rfl rfl cs.length rfl (by omega)) ?_
  refine goH TD_ok 200 rfl ?_
  repeat (first | (refine gTH rfl rfl rfl rfl ?_; refine goH TD_ok 200 rfl ?_) | (refine gFH rfl rfl rfl rfl ?_; refine goH TD_ok 200 rfl ?_))
  refine quietH rfl (fun w' hS => r_load TD_ok rfl rfl rfl ((hS.cell (a := ⟨b2, o2 + cs.length * 1, none⟩) (by show b2 < _; omega) (fun h => h)).trans hc2)) ?_
  rw [← hA2]
  refine goH TD_ok 200 rfl ?_
  repeat (first | (refine gTH rfl rfl rfl rfl ?_; refine goH TD_ok 200 rfl ?_) | (refine gFH rfl rfl rfl rfl ?_; refine goH TD_ok 200 rfl ?_))
  refine quietH rfl (fun w' hS => r_neqB rfl Try.underlying4 rfl rfl) ?_
  rw [show (Go.Camp.alC (scP m1) (desS (scP m1) 0 cs) cb != Go.Camp.alC (scP m2) (desS (scP m2) 0 cs) cb) = true from bne_iff_ne.2 hne]
  refine goH TD_ok 200 rfl ?_
  repeat (first | (refine gTH rfl rfl rfl rfl ?_; refine goH TD_ok 200 rfl ?_) | (refine gFH rfl rfl rfl rfl ?_; refine goH TD_ok 200 rfl ?_))
  rw [w1]
  refine quietH rfl (fun w' hS => r_slcHi TD_ok rfl rfl rfl rfl cs.length rfl (by omega)) ?_
  refine goH TD_ok 200 rfl ?_
  repeat (first | (refine gTH rfl rfl rfl rfl ?_; refine goH TD_ok 200 rfl ?_) | (refine gFH rfl rfl rfl rfl ?_; refine goH TD_ok 200 rfl ?_))
  rw [w1]
  refine quietH rfl (fun w' hS => r_slcHi TD_ok rfl rfl rfl rfl cs.length rfl (by omega)) ?_
  refine goH TD_ok 200 rfl ?_
  repeat (first | (refine gTH rfl rfl rfl rfl ?_; refine goH TD_ok 200 rfl ?_) | (refine gFH rfl rfl rfl rfl ?_; refine goH TD_ok 200 rfl ?_))
  have X := SameCells_any (runS (scP m1) 0 cs) (runS (scP m2) 0 cs) A19 A21 c19 c21 _ _ _ (by rw [runS_len]; exact T19.no qd) (by rw [runS_len]; exact T21.no qd) (by rw [runS_len]; omega)
  rw [runS_len, runS_len] at X
  refine callE rfl rfl rfl (ok _ (by decide) rfl) X ?_
  clear X
  rintro x w2 ⟨rfl, qk⟩
  have qd := qd.trans qk
  refine ⟨qd, ?_⟩
  rw [← hrun, show (runS (scP m1) 0 cs == runS (scP m1) 0 cs) = true from beq_self_eq_true _]
  refine goH TD_ok 200 rfl ?_
  repeat (first | (refine gTH rfl rfl rfl rfl ?_; refine goH TD_ok 200 rfl ?_) | (refine gFH rfl rfl rfl rfl ?_; refine goH TD_ok 200 rfl ?_))
  refine callE rfl rfl rfl (ok _ (by decide) rfl) (known_any _) ?_
  rintro x w3 ⟨rfl, qk⟩
  have qd := qd.trans qk
  refine ⟨qd, ?_⟩
  refine goH TD_ok 200 rfl ?_
  repeat (first | (refine gTH rfl rfl rfl rfl ?_; refine goH TD_ok 200 rfl ?_) | (refine gFH rfl rfl rfl rfl ?_; refine goH TD_ok 200 rfl ?_))
  refine endH ?_
  refine go TD_ok 200 rfl ?_
  exact ret (ret1 (v := .bool true) Try.results10 rfl ⟨rfl, q.trans qd⟩)
end Go.Proofs.Yteenhfnamjbaiaa
