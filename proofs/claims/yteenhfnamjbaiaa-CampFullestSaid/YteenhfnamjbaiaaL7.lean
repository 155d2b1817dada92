/- The walk of CampFullest. -/
import Derived.Test.YteenhfnamjbaiaaK1
import Derived.Test.YteenhfnamjbaiaaR2
import Derived.Test.YteenhfnamjbaiaaE4
namespace Go.Proofs.Yteenhfnamjbaiaa
open Go.Ev Go.Proofs
open Go.Camp (Stk Sup SupOk DyOk okN nextN safeN runs sooner best most)
attribute [local irreducible] At AtH
set_option maxRecDepth 20000 in
set_option maxHeartbeats 8000000 in
theorem walk_CampFullest (m : Sm) (o : Sli Bool) (w0 : World) (hm : InS w0 m) (ho : InB w0 o) :
    Ret Try.prog 7 [.agg (suL m).toArray, .slice o.A o.l.length o.c] w0 fun x w' => x = .bool true ∧ Chg No w0 w' := by
  have So := ho.sl
  have Hm := hm.m
  refine enter Try.func7 rfl Try.ntmps7 rfl ?_
  refine go TK_ok 200 rfl ?_
  refine bx rfl rfl rfl (cs := suL m) rfl ?_
  intro g2 u2 hg2 hs2 q2 B2
  have q := q2
  have So := So.no q
  have Hm := Hm.no q
  refine go TK_ok 200 rfl ?_
  repeat (first | (refine ldA TK_ok rfl rfl rfl rfl rfl (Bk.all B2) ?_; refine go TK_ok 200 rfl ?_) | (refine ld TK_ok rfl rfl rfl rfl (Bk.get B2 rfl) ?_; refine go TK_ok 200 rfl ?_) | (refine guardA (b := true) rfl rfl rfl rfl (fun _ => ?_) (fun e => by cases e); refine go TK_ok 200 rfl ?_) | (refine guardA (b := false) rfl rfl rfl rfl (fun e => by cases e) (fun _ => ?_); refine go TK_ok 200 rfl ?_) | (refine condT rfl rfl ?_; refine go TK_ok 200 rfl ?_) | (refine condF rfl rfl ?_; refine go TK_ok 200 rfl ?_))
  by_cases h12 : 12 < (m.a.days.length : Int)
  case pos =>
    rw [decide_eq_true h12]
    refine go TK_ok 200 rfl ?_
    repeat (first | (refine ldA TK_ok rfl rfl rfl rfl rfl (Bk.all B2) ?_; refine go TK_ok 200 rfl ?_) | (refine ld TK_ok rfl rfl rfl rfl (Bk.get B2 rfl) ?_; refine go TK_ok 200 rfl ?_) | (refine guardA (b := true) rfl rfl rfl rfl (fun _ => ?_) (fun e => by cases e); refine go TK_ok 200 rfl ?_) | (refine guardA (b := false) rfl rfl rfl rfl (fun e => by cases e) (fun _ => ?_); refine go TK_ok 200 rfl ?_) | (refine condT rfl rfl ?_; refine go TK_ok 200 rfl ?_) | (refine condF rfl rfl ?_; refine go TK_ok 200 rfl ?_))
    refine call rfl rfl rfl (ok _ (by decide) rfl) (known_any _) ?_
    rintro v wk ⟨rfl, qk⟩
    refine go TK_ok 200 rfl ?_
    exact ret (ret1 (v := .bool true) Try.results7 rfl ⟨rfl, q.trans qk⟩)
  rw [decide_eq_false h12]
  refine go TK_ok 200 rfl ?_
  repeat (first | (refine ldA TK_ok rfl rfl rfl rfl rfl (Bk.all B2) ?_; refine go TK_ok 200 rfl ?_) | (refine ld TK_ok rfl rfl rfl rfl (Bk.get B2 rfl) ?_; refine go TK_ok 200 rfl ?_) | (refine guardA (b := true) rfl rfl rfl rfl (fun _ => ?_) (fun e => by cases e); refine go TK_ok 200 rfl ?_) | (refine guardA (b := false) rfl rfl rfl rfl (fun e => by cases e) (fun _ => ?_); refine go TK_ok 200 rfl ?_) | (refine condT rfl rfl ?_; refine go TK_ok 200 rfl ?_) | (refine condF rfl rfl ?_; refine go TK_ok 200 rfl ?_))
  refine call rfl rfl rfl (ok _ (by decide) rfl) (rSupply_any m _ Hm) ?_
  rintro x w ⟨⟨b, rfl, hb⟩, qk⟩
  have B2 := B2.no qk
  have So := So.no qk
  have Hm := Hm.no qk
  have q := q.trans qk
  by_cases hbb : b = true
  case neg =>
    have e := Bool.eq_false_iff.2 hbb
    subst e
    refine go TK_ok 200 rfl ?_
    repeat (first | (refine ldA TK_ok rfl rfl rfl rfl rfl (Bk.all B2) ?_; refine go TK_ok 200 rfl ?_) | (refine ld TK_ok rfl rfl rfl rfl (Bk.get B2 rfl) ?_; refine go TK_ok 200 rfl ?_) | (refine guardA (b := true) rfl rfl rfl rfl (fun _ => ?_) (fun e => by cases e); refine go TK_ok 200 rfl ?_) | (refine guardA (b := false) rfl rfl rfl rfl (fun e => by cases e) (fun _ => ?_); refine go TK_ok 200 rfl ?_) | (refine condT rfl rfl ?_; refine go TK_ok 200 rfl ?_) | (refine condF rfl rfl ?_; refine go TK_ok 200 rfl ?_))
    refine call rfl rfl rfl (ok _ (by decide) rfl) (known_any _) ?_
    rintro v wk ⟨rfl, qk⟩
    refine go TK_ok 200 rfl ?_
    exact ret (ret1 (v := .bool true) Try.results7 rfl ⟨rfl, q.trans qk⟩)
  subst hbb
  have ha := hb.1 rfl
  refine go TK_ok 200 rfl ?_
  repeat (first | (refine ldA TK_ok rfl rfl rfl rfl rfl (Bk.all B2) ?_; refine go TK_ok 200 rfl ?_) | (refine ld TK_ok rfl rfl rfl rfl (Bk.get B2 rfl) ?_; refine go TK_ok 200 rfl ?_) | (refine guardA (b := true) rfl rfl rfl rfl (fun _ => ?_) (fun e => by cases e); refine go TK_ok 200 rfl ?_) | (refine guardA (b := false) rfl rfl rfl rfl (fun e => by cases e) (fun _ => ?_); refine go TK_ok 200 rfl ?_) | (refine condT rfl rfl ?_; refine go TK_ok 200 rfl ?_) | (refine condF rfl rfl ?_; refine go TK_ok 200 rfl ?_))
  by_cases hL : o.l.length = m.a.days.length
  case neg =>
    have e : ((o.l.length : Int) != (m.a.days.length : Int)) = true := bne_iff_ne.2 (by omega)
    rw [e]
    refine go TK_ok 200 rfl ?_
    repeat (first | (refine ldA TK_ok rfl rfl rfl rfl rfl (Bk.all B2) ?_; refine go TK_ok 200 rfl ?_) | (refine ld TK_ok rfl rfl rfl rfl (Bk.get B2 rfl) ?_; refine go TK_ok 200 rfl ?_) | (refine guardA (b := true) rfl rfl rfl rfl (fun _ => ?_) (fun e => by cases e); refine go TK_ok 200 rfl ?_) | (refine guardA (b := false) rfl rfl rfl rfl (fun e => by cases e) (fun _ => ?_); refine go TK_ok 200 rfl ?_) | (refine condT rfl rfl ?_; refine go TK_ok 200 rfl ?_) | (refine condF rfl rfl ?_; refine go TK_ok 200 rfl ?_))
    refine call rfl rfl rfl (ok _ (by decide) rfl) (known_any _) ?_
    rintro v wk ⟨rfl, qk⟩
    refine go TK_ok 200 rfl ?_
    exact ret (ret1 (v := .bool true) Try.results7 rfl ⟨rfl, q.trans qk⟩)
  have e : ((o.l.length : Int) != (m.a.days.length : Int)) = false := bne_eq_false_iff_eq.2 (by omega)
  rw [e]
  refine go TK_ok 200 rfl ?_
  repeat (first | (refine ldA TK_ok rfl rfl rfl rfl rfl (Bk.all B2) ?_; refine go TK_ok 200 rfl ?_) | (refine ld TK_ok rfl rfl rfl rfl (Bk.get B2 rfl) ?_; refine go TK_ok 200 rfl ?_) | (refine guardA (b := true) rfl rfl rfl rfl (fun _ => ?_) (fun e => by cases e); refine go TK_ok 200 rfl ?_) | (refine guardA (b := false) rfl rfl rfl rfl (fun e => by cases e) (fun _ => ?_); refine go TK_ok 200 rfl ?_) | (refine condT rfl rfl ?_; refine go TK_ok 200 rfl ?_) | (refine condF rfl rfl ?_; refine go TK_ok 200 rfl ?_))
  refine call rfl rfl rfl (ok _ (by decide) rfl) (Schedule_any m _ Hm) ?_
  rintro x w ⟨A5, c5, e6, l5, rfl, qk, S5, _, hs2, hs3⟩
  have B2 := B2.no qk
  have So := So.no qk
  have Hm := Hm.no qk
  have q := q.trans qk
  have S5 := own_sl S5
  refine go TK_ok 200 rfl ?_
  repeat (first | (refine ldA TK_ok rfl rfl rfl rfl rfl (Bk.all B2) ?_; refine go TK_ok 200 rfl ?_) | (refine ld TK_ok rfl rfl rfl rfl (Bk.get B2 rfl) ?_; refine go TK_ok 200 rfl ?_) | (refine guardA (b := true) rfl rfl rfl rfl (fun _ => ?_) (fun e => by cases e); refine go TK_ok 200 rfl ?_) | (refine guardA (b := false) rfl rfl rfl rfl (fun e => by cases e) (fun _ => ?_); refine go TK_ok 200 rfl ?_) | (refine condT rfl rfl ?_; refine go TK_ok 200 rfl ?_) | (refine condF rfl rfl ?_; refine go TK_ok 200 rfl ?_))
  refine call rfl rfl rfl (ok _ (by decide) rfl) (Safe_any m o.l o.A o.c _ _ Hm So) ?_
  rintro x w ⟨qk, hR⟩
  have B2 := B2.no qk
  have So := So.no qk
  have Hm := Hm.no qk
  have S5 := S5.no qk
  have q := q.trans qk
  obtain rfl : x = .tuple #[.bool (safeN m.a m.a.days o.l m.a.b), I 0] := by
    rcases hR with ⟨h, _⟩ | ⟨_, h⟩
    · exact absurd ⟨ha, hL⟩ h
    · exact h
  clear hR
  by_cases hmo : mostD m.a 0 m.a.b < 0
  · obtain ⟨rfl, rfl⟩ := hs2 ha hmo
    have hns : safeN m.a m.a.days o.l m.a.b = false := by
      cases h : safeN m.a m.a.days o.l m.a.b with
      | false => rfl
      | true =>
        have := Go.Camp.most_up m.a m.a.days m.a.b o.l hL h
        have hmo : most m.a m.a.days m.a.b < 0 := hmo
        omega
    rw [hns]
    refine go TK_ok 200 rfl ?_
    repeat (first | (refine ldA TK_ok rfl rfl rfl rfl rfl (Bk.all B2) ?_; refine go TK_ok 200 rfl ?_) | (refine ld TK_ok rfl rfl rfl rfl (Bk.get B2 rfl) ?_; refine go TK_ok 200 rfl ?_) | (refine guardA (b := true) rfl rfl rfl rfl (fun _ => ?_) (fun e => by cases e); refine go TK_ok 200 rfl ?_) | (refine guardA (b := false) rfl rfl rfl rfl (fun e => by cases e) (fun _ => ?_); refine go TK_ok 200 rfl ?_) | (refine condT rfl rfl ?_; refine go TK_ok 200 rfl ?_) | (refine condF rfl rfl ?_; refine go TK_ok 200 rfl ?_))
    refine call rfl rfl rfl (ok _ (by decide) rfl) (known_any _) ?_
    rintro v wk ⟨rfl, qk⟩
    refine go TK_ok 200 rfl ?_
    exact ret (ret1 (v := .bool true) Try.results7 rfl ⟨rfl, q.trans qk⟩)
  have hmo : 0 ≤ mostD m.a 0 m.a.b := by omega
  obtain ⟨rfl, rfl⟩ := hs3 ha hmo
  have hmo : 0 ≤ most m.a m.a.days m.a.b := hmo
  obtain ⟨hb1, hb2⟩ := Go.Camp.best_ok m.a m.a.days m.a.b hmo
  have hbl := Go.Camp.best_len m.a m.a.days m.a.b
  have h30 := ha.len
  refine go TK_ok 200 rfl ?_
  repeat (first | (refine ldA TK_ok rfl rfl rfl rfl rfl (Bk.all B2) ?_; refine go TK_ok 200 rfl ?_) | (refine ld TK_ok rfl rfl rfl rfl (Bk.get B2 rfl) ?_; refine go TK_ok 200 rfl ?_) | (refine guardA (b := true) rfl rfl rfl rfl (fun _ => ?_) (fun e => by cases e); refine go TK_ok 200 rfl ?_) | (refine guardA (b := false) rfl rfl rfl rfl (fun e => by cases e) (fun _ => ?_); refine go TK_ok 200 rfl ?_) | (refine condT rfl rfl ?_; refine go TK_ok 200 rfl ?_) | (refine condF rfl rfl ?_; refine go TK_ok 200 rfl ?_))
  refine call rfl rfl rfl (ok _ (by decide) rfl) (Safe_any m (best m.a m.a.days m.a.b) A5 c5 _ _ Hm S5) ?_
  rintro x w ⟨qk, hR⟩
  have B2 := B2.no qk
  have So := So.no qk
  have Hm := Hm.no qk
  have S5 := S5.no qk
  have q := q.trans qk
  obtain rfl : x = .tuple #[.bool true, I 0] := by
    rcases hR with ⟨h, _⟩ | ⟨_, h⟩
    · exact absurd ⟨ha, hbl⟩ h
    · rw [h, hb1]
  clear hR
  refine go TK_ok 200 rfl ?_
  repeat (first | (refine ldA TK_ok rfl rfl rfl rfl rfl (Bk.all B2) ?_; refine go TK_ok 200 rfl ?_) | (refine ld TK_ok rfl rfl rfl rfl (Bk.get B2 rfl) ?_; refine go TK_ok 200 rfl ?_) | (refine guardA (b := true) rfl rfl rfl rfl (fun _ => ?_) (fun e => by cases e); refine go TK_ok 200 rfl ?_) | (refine guardA (b := false) rfl rfl rfl rfl (fun e => by cases e) (fun _ => ?_); refine go TK_ok 200 rfl ?_) | (refine condT rfl rfl ?_; refine go TK_ok 200 rfl ?_) | (refine condF rfl rfl ?_; refine go TK_ok 200 rfl ?_))
  cases hso : safeN m.a m.a.days o.l m.a.b with
  | false =>
    refine go TK_ok 200 rfl ?_
    repeat (first | (refine ldA TK_ok rfl rfl rfl rfl rfl (Bk.all B2) ?_; refine go TK_ok 200 rfl ?_) | (refine ld TK_ok rfl rfl rfl rfl (Bk.get B2 rfl) ?_; refine go TK_ok 200 rfl ?_) | (refine guardA (b := true) rfl rfl rfl rfl (fun _ => ?_) (fun e => by cases e); refine go TK_ok 200 rfl ?_) | (refine guardA (b := false) rfl rfl rfl rfl (fun e => by cases e) (fun _ => ?_); refine go TK_ok 200 rfl ?_) | (refine condT rfl rfl ?_; refine go TK_ok 200 rfl ?_) | (refine condF rfl rfl ?_; refine go TK_ok 200 rfl ?_))
    refine call rfl rfl rfl (ok _ (by decide) rfl) (known_any _) ?_
    rintro v wk ⟨rfl, qk⟩
    refine go TK_ok 200 rfl ?_
    exact ret (ret1 (v := .bool true) Try.results7 rfl ⟨rfl, q.trans qk⟩)
  | true =>
    have hup := Go.Camp.most_up m.a m.a.days m.a.b o.l hL hso
    refine go TK_ok 200 rfl ?_
    repeat (first | (refine ldA TK_ok rfl rfl rfl rfl rfl (Bk.all B2) ?_; refine go TK_ok 200 rfl ?_) | (refine ld TK_ok rfl rfl rfl rfl (Bk.get B2 rfl) ?_; refine go TK_ok 200 rfl ?_) | (refine guardA (b := true) rfl rfl rfl rfl (fun _ => ?_) (fun e => by cases e); refine go TK_ok 200 rfl ?_) | (refine guardA (b := false) rfl rfl rfl rfl (fun e => by cases e) (fun _ => ?_); refine go TK_ok 200 rfl ?_) | (refine condT rfl rfl ?_; refine go TK_ok 200 rfl ?_) | (refine condF rfl rfl ?_; refine go TK_ok 200 rfl ?_))
    refine call rfl rfl rfl (ok _ (by decide) rfl) (Runs_any o.l o.A o.c _ _ So (by omega)) ?_
    rintro x w ⟨rfl, rfl⟩
    refine go TK_ok 200 rfl ?_
    repeat (first | (refine ldA TK_ok rfl rfl rfl rfl rfl (Bk.all B2) ?_; refine go TK_ok 200 rfl ?_) | (refine ld TK_ok rfl rfl rfl rfl (Bk.get B2 rfl) ?_; refine go TK_ok 200 rfl ?_) | (refine guardA (b := true) rfl rfl rfl rfl (fun _ => ?_) (fun e => by cases e); refine go TK_ok 200 rfl ?_) | (refine guardA (b := false) rfl rfl rfl rfl (fun e => by cases e) (fun _ => ?_); refine go TK_ok 200 rfl ?_) | (refine condT rfl rfl ?_; refine go TK_ok 200 rfl ?_) | (refine condF rfl rfl ?_; refine go TK_ok 200 rfl ?_))
    refine call rfl rfl rfl (ok _ (by decide) rfl) (Runs_any (best m.a m.a.days m.a.b) A5 c5 _ _ S5 (by omega)) ?_
    rintro x w ⟨rfl, rfl⟩
    refine go TK_ok 200 rfl ?_
    repeat (first | (refine ldA TK_ok rfl rfl rfl rfl rfl (Bk.all B2) ?_; refine go TK_ok 200 rfl ?_) | (refine ld TK_ok rfl rfl rfl rfl (Bk.get B2 rfl) ?_; refine go TK_ok 200 rfl ?_) | (refine guardA (b := true) rfl rfl rfl rfl (fun _ => ?_) (fun e => by cases e); refine go TK_ok 200 rfl ?_) | (refine guardA (b := false) rfl rfl rfl rfl (fun e => by cases e) (fun _ => ?_); refine go TK_ok 200 rfl ?_) | (refine condT rfl rfl ?_; refine go TK_ok 200 rfl ?_) | (refine condF rfl rfl ?_; refine go TK_ok 200 rfl ?_))
    by_cases h1 : (runs o.l : Int) < (runs (best m.a m.a.days m.a.b) : Int)
    case pos =>
      rw [decide_eq_true h1]
      refine go TK_ok 200 rfl ?_
      repeat (first | (refine ldA TK_ok rfl rfl rfl rfl rfl (Bk.all B2) ?_; refine go TK_ok 200 rfl ?_) | (refine ld TK_ok rfl rfl rfl rfl (Bk.get B2 rfl) ?_; refine go TK_ok 200 rfl ?_) | (refine guardA (b := true) rfl rfl rfl rfl (fun _ => ?_) (fun e => by cases e); refine go TK_ok 200 rfl ?_) | (refine guardA (b := false) rfl rfl rfl rfl (fun e => by cases e) (fun _ => ?_); refine go TK_ok 200 rfl ?_) | (refine condT rfl rfl ?_; refine go TK_ok 200 rfl ?_) | (refine condF rfl rfl ?_; refine go TK_ok 200 rfl ?_))
      refine call rfl rfl rfl (ok _ (by decide) rfl) (known_any _) ?_
      rintro v wk ⟨rfl, qk⟩
      refine go TK_ok 200 rfl ?_
      exact ret (ret1 (v := .bool true) Try.results7 rfl ⟨rfl, q.trans qk⟩)
    rw [decide_eq_false h1]
    have heq : runs o.l = runs (best m.a m.a.days m.a.b) := by omega
    refine go TK_ok 200 rfl ?_
    repeat (first | (refine ldA TK_ok rfl rfl rfl rfl rfl (Bk.all B2) ?_; refine go TK_ok 200 rfl ?_) | (refine ld TK_ok rfl rfl rfl rfl (Bk.get B2 rfl) ?_; refine go TK_ok 200 rfl ?_) | (refine guardA (b := true) rfl rfl rfl rfl (fun _ => ?_) (fun e => by cases e); refine go TK_ok 200 rfl ?_) | (refine guardA (b := false) rfl rfl rfl rfl (fun e => by cases e) (fun _ => ?_); refine go TK_ok 200 rfl ?_) | (refine condT rfl rfl ?_; refine go TK_ok 200 rfl ?_) | (refine condF rfl rfl ?_; refine go TK_ok 200 rfl ?_))
    refine call rfl rfl rfl (ok _ (by decide) rfl) (Runs_any o.l o.A o.c _ _ So (by omega)) ?_
    rintro x w ⟨rfl, rfl⟩
    refine go TK_ok 200 rfl ?_
    repeat (first | (refine ldA TK_ok rfl rfl rfl rfl rfl (Bk.all B2) ?_; refine go TK_ok 200 rfl ?_) | (refine ld TK_ok rfl rfl rfl rfl (Bk.get B2 rfl) ?_; refine go TK_ok 200 rfl ?_) | (refine guardA (b := true) rfl rfl rfl rfl (fun _ => ?_) (fun e => by cases e); refine go TK_ok 200 rfl ?_) | (refine guardA (b := false) rfl rfl rfl rfl (fun e => by cases e) (fun _ => ?_); refine go TK_ok 200 rfl ?_) | (refine condT rfl rfl ?_; refine go TK_ok 200 rfl ?_) | (refine condF rfl rfl ?_; refine go TK_ok 200 rfl ?_))
    refine call rfl rfl rfl (ok _ (by decide) rfl) (Runs_any (best m.a m.a.days m.a.b) A5 c5 _ _ S5 (by omega)) ?_
    rintro x w ⟨rfl, rfl⟩
    have e : ((runs o.l : Int) == (runs (best m.a m.a.days m.a.b) : Int)) = true := by simp [heq]
    refine go TK_ok 200 rfl ?_
    repeat (first | (refine ldA TK_ok rfl rfl rfl rfl rfl (Bk.all B2) ?_; refine go TK_ok 200 rfl ?_) | (refine ld TK_ok rfl rfl rfl rfl (Bk.get B2 rfl) ?_; refine go TK_ok 200 rfl ?_) | (refine guardA (b := true) rfl rfl rfl rfl (fun _ => ?_) (fun e => by cases e); refine go TK_ok 200 rfl ?_) | (refine guardA (b := false) rfl rfl rfl rfl (fun e => by cases e) (fun _ => ?_); refine go TK_ok 200 rfl ?_) | (refine condT rfl rfl ?_; refine go TK_ok 200 rfl ?_) | (refine condF rfl rfl ?_; refine go TK_ok 200 rfl ?_))
    rw [e]
    refine go TK_ok 200 rfl ?_
    repeat (first | (refine ldA TK_ok rfl rfl rfl rfl rfl (Bk.all B2) ?_; refine go TK_ok 200 rfl ?_) | (refine ld TK_ok rfl rfl rfl rfl (Bk.get B2 rfl) ?_; refine go TK_ok 200 rfl ?_) | (refine guardA (b := true) rfl rfl rfl rfl (fun _ => ?_) (fun e => by cases e); refine go TK_ok 200 rfl ?_) | (refine guardA (b := false) rfl rfl rfl rfl (fun e => by cases e) (fun _ => ?_); refine go TK_ok 200 rfl ?_) | (refine condT rfl rfl ?_; refine go TK_ok 200 rfl ?_) | (refine condF rfl rfl ?_; refine go TK_ok 200 rfl ?_))
    refine call rfl rfl rfl (ok _ (by decide) rfl) (Sooner_any o.l (best m.a m.a.days m.a.b) o.A A5 o.c c5 _ _ _ So S5 (by omega)) ?_
    rintro x w ⟨rfl, qk⟩
    have B2 := B2.no qk
    have So := So.no qk
    have Hm := Hm.no qk
    have S5 := S5.no qk
    have q := q.trans qk
    rw [Go.Camp.best_first m.a m.a.days m.a.b o.l hL hso (by omega)]
    refine go TK_ok 200 rfl ?_
    repeat (first | (refine ldA TK_ok rfl rfl rfl rfl rfl (Bk.all B2) ?_; refine go TK_ok 200 rfl ?_) | (refine ld TK_ok rfl rfl rfl rfl (Bk.get B2 rfl) ?_; refine go TK_ok 200 rfl ?_) | (refine guardA (b := true) rfl rfl rfl rfl (fun _ => ?_) (fun e => by cases e); refine go TK_ok 200 rfl ?_) | (refine guardA (b := false) rfl rfl rfl rfl (fun e => by cases e) (fun _ => ?_); refine go TK_ok 200 rfl ?_) | (refine condT rfl rfl ?_; refine go TK_ok 200 rfl ?_) | (refine condF rfl rfl ?_; refine go TK_ok 200 rfl ?_))
    refine call rfl rfl rfl (ok _ (by decide) rfl) (known_any _) ?_
    rintro v wk ⟨rfl, qk⟩
    refine go TK_ok 200 rfl ?_
    exact ret (ret1 (v := .bool true) Try.results7 rfl ⟨rfl, q.trans qk⟩)
end Go.Proofs.Yteenhfnamjbaiaa
