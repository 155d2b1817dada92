/- The walk of CampTours. -/
import Derived.Test.YteenhfnamjbaiaaK1
import Derived.Test.YteenhfnamjbaiaaT6
import Derived.Test.YteenhfnamjbaiaaE4
namespace Go.Proofs.Yteenhfnamjbaiaa
open Go.Ev Go.Proofs
open Go.Camp (Cl wayT stopT TrOk begT okT leaveT endT begs)
attribute [local irreducible] At AtH
theorem begs_len (t : Go.Camp.Tr) : ∀ (k : List Nat) (p : Nat) (x : Int), (begs t k p x).length = k.length := by
 intro k
 induction k with
 | nil => intro p x; rfl
 | cons i k ih => intro p x; simp only [begs, List.length_cons, ih]
set_option maxRecDepth 20000 in
set_option maxHeartbeats 16000000 in
theorem walk_CampTours (m : Tm) (o : Sli Int) (x0 : Int) (w0 : World) (hm : InT w0 m) (ho : InI w0 o) (hx : I64 x0) :
  Ret Try.prog 16 [.agg (tmL m).toArray, .slice o.A o.l.length o.c, I x0] w0 fun x w' => x = .bool true ∧ Chg No w0 w' := by
 have So := ho.sl
 have Hm := hm.m
 refine enter Try.func16 rfl Try.ntmps16 rfl ?_
 refine go TL_ok 200 rfl ?_
 refine bx rfl rfl rfl (cs := tmL m) rfl ?_
 intro g3 u3 hg3 hs3 q3 B3
 have q := q3
 have So := So.no q
 have Hm := Hm.no q
 refine go TL_ok 200 rfl ?_
 repeat ((first | refine ldA TL_ok rfl rfl rfl rfl rfl (Bk.all B3) ?_ | refine ld TL_ok rfl rfl rfl rfl (Bk.get B3 rfl) ?_ | refine guardA (b := true) rfl rfl rfl rfl (fun _ => ?_) (fun e => by cases e) | refine guardA (b := false) rfl rfl rfl rfl (fun e => by cases e) (fun _ => ?_) | refine condT rfl rfl ?_ | refine condF rfl rfl ?_); refine go TL_ok 200 rfl ?_)
 by_cases f1 : 12 < (m.S.l.length : Int)
 case pos =>
  rw [decide_eq_true f1]
  refine go TL_ok 200 rfl ?_
  repeat ((first | refine ldA TL_ok rfl rfl rfl rfl rfl (Bk.all B3) ?_ | refine ld TL_ok rfl rfl rfl rfl (Bk.get B3 rfl) ?_ | refine guardA (b := true) rfl rfl rfl rfl (fun _ => ?_) (fun e => by cases e) | refine guardA (b := false) rfl rfl rfl rfl (fun e => by cases e) (fun _ => ?_) | refine condT rfl rfl ?_ | refine condF rfl rfl ?_); refine go TL_ok 200 rfl ?_)
  refine call rfl rfl rfl (ok _ (by decide) rfl) (known_any _) ?_
  rintro v wk ⟨rfl, qk⟩
  refine go TL_ok 200 rfl ?_
  exact ret (ret1 (v := .bool true) Try.results16 rfl ⟨rfl, q.trans qk⟩)
 rw [decide_eq_false f1]
 refine go TL_ok 200 rfl ?_
 repeat ((first | refine ldA TL_ok rfl rfl rfl rfl rfl (Bk.all B3) ?_ | refine ld TL_ok rfl rfl rfl rfl (Bk.get B3 rfl) ?_ | refine guardA (b := true) rfl rfl rfl rfl (fun _ => ?_) (fun e => by cases e) | refine guardA (b := false) rfl rfl rfl rfl (fun e => by cases e) (fun _ => ?_) | refine condT rfl rfl ?_ | refine condF rfl rfl ?_); refine go TL_ok 200 rfl ?_)
 by_cases f2 : 15 < (m.W.l.length : Int)
 case pos =>
  rw [decide_eq_true f2]
  refine go TL_ok 200 rfl ?_
  repeat ((first | refine ldA TL_ok rfl rfl rfl rfl rfl (Bk.all B3) ?_ | refine ld TL_ok rfl rfl rfl rfl (Bk.get B3 rfl) ?_ | refine guardA (b := true) rfl rfl rfl rfl (fun _ => ?_) (fun e => by cases e) | refine guardA (b := false) rfl rfl rfl rfl (fun e => by cases e) (fun _ => ?_) | refine condT rfl rfl ?_ | refine condF rfl rfl ?_); refine go TL_ok 200 rfl ?_)
  refine call rfl rfl rfl (ok _ (by decide) rfl) (known_any _) ?_
  rintro v wk ⟨rfl, qk⟩
  refine go TL_ok 200 rfl ?_
  exact ret (ret1 (v := .bool true) Try.results16 rfl ⟨rfl, q.trans qk⟩)
 rw [decide_eq_false f2]
 refine go TL_ok 200 rfl ?_
 repeat ((first | refine ldA TL_ok rfl rfl rfl rfl rfl (Bk.all B3) ?_ | refine ld TL_ok rfl rfl rfl rfl (Bk.get B3 rfl) ?_ | refine guardA (b := true) rfl rfl rfl rfl (fun _ => ?_) (fun e => by cases e) | refine guardA (b := false) rfl rfl rfl rfl (fun e => by cases e) (fun _ => ?_) | refine condT rfl rfl ?_ | refine condF rfl rfl ?_); refine go TL_ok 200 rfl ?_)
 by_cases f3 : 12 < (o.l.length : Int)
 case pos =>
  rw [decide_eq_true f3]
  refine go TL_ok 200 rfl ?_
  repeat ((first | refine ldA TL_ok rfl rfl rfl rfl rfl (Bk.all B3) ?_ | refine ld TL_ok rfl rfl rfl rfl (Bk.get B3 rfl) ?_ | refine guardA (b := true) rfl rfl rfl rfl (fun _ => ?_) (fun e => by cases e) | refine guardA (b := false) rfl rfl rfl rfl (fun e => by cases e) (fun _ => ?_) | refine condT rfl rfl ?_ | refine condF rfl rfl ?_); refine go TL_ok 200 rfl ?_)
  refine call rfl rfl rfl (ok _ (by decide) rfl) (known_any _) ?_
  rintro v wk ⟨rfl, qk⟩
  refine go TL_ok 200 rfl ?_
  exact ret (ret1 (v := .bool true) Try.results16 rfl ⟨rfl, q.trans qk⟩)
 rw [decide_eq_false f3]
 refine go TL_ok 200 rfl ?_
 repeat ((first | refine ldA TL_ok rfl rfl rfl rfl rfl (Bk.all B3) ?_ | refine ld TL_ok rfl rfl rfl rfl (Bk.get B3 rfl) ?_ | refine guardA (b := true) rfl rfl rfl rfl (fun _ => ?_) (fun e => by cases e) | refine guardA (b := false) rfl rfl rfl rfl (fun e => by cases e) (fun _ => ?_) | refine condT rfl rfl ?_ | refine condF rfl rfl ?_); refine go TL_ok 200 rfl ?_)
 refine call rfl rfl rfl (ok _ (by decide) rfl) (Times_any m o.l x0 o.A o.c _ _ _ Hm So) ?_
 rintro x w ⟨qk, hC⟩
 have B3 := B3.no qk
 have So := So.no qk
 have Hm := Hm.no qk
 have q := q.trans qk
 by_cases ha : TrOk (trP m)
 case neg =>
  obtain rfl : x = .tuple #[.slice none 0 0, I 0, I 2] := by
   rcases hC with ⟨_, h⟩ | ⟨h, _⟩
   ·exact h
   ·exact absurd h.1 ha
  refine go TL_ok 200 rfl ?_
  repeat ((first | refine ldA TL_ok rfl rfl rfl rfl rfl (Bk.all B3) ?_ | refine ld TL_ok rfl rfl rfl rfl (Bk.get B3 rfl) ?_ | refine guardA (b := true) rfl rfl rfl rfl (fun _ => ?_) (fun e => by cases e) | refine guardA (b := false) rfl rfl rfl rfl (fun e => by cases e) (fun _ => ?_) | refine condT rfl rfl ?_ | refine condF rfl rfl ?_); refine go TL_ok 200 rfl ?_)
  refine call rfl rfl rfl (ok _ (by decide) rfl) (Slack_any m o.l o.A o.c _ _ _ Hm So) ?_
  rintro x w ⟨qk, hS⟩
  have B3 := B3.no qk
  have So := So.no qk
  have Hm := Hm.no qk
  have q := q.trans qk
  obtain rfl : x = .tuple #[I 0, I 2] := by
   rcases hS with ⟨_, h⟩ | ⟨h, _⟩
   ·exact h
   ·exact absurd h.1 ha
  refine go TL_ok 200 rfl ?_
  repeat ((first | refine ldA TL_ok rfl rfl rfl rfl rfl (Bk.all B3) ?_ | refine ld TL_ok rfl rfl rfl rfl (Bk.get B3 rfl) ?_ | refine guardA (b := true) rfl rfl rfl rfl (fun _ => ?_) (fun e => by cases e) | refine guardA (b := false) rfl rfl rfl rfl (fun e => by cases e) (fun _ => ?_) | refine condT rfl rfl ?_ | refine condF rfl rfl ?_); refine go TL_ok 200 rfl ?_)
  refine call rfl rfl rfl (ok _ (by decide) rfl) (rTour_any m _ _ Hm) ?_
  rintro x w ⟨⟨b, rfl, hb⟩, qk⟩
  have B3 := B3.no qk
  have So := So.no qk
  have Hm := Hm.no qk
  have q := q.trans qk
  obtain rfl : b = false := Bool.eq_false_iff.2 fun h => ha (hb.1 h)
  refine go TL_ok 200 rfl ?_
  repeat ((first | refine ldA TL_ok rfl rfl rfl rfl rfl (Bk.all B3) ?_ | refine ld TL_ok rfl rfl rfl rfl (Bk.get B3 rfl) ?_ | refine guardA (b := true) rfl rfl rfl rfl (fun _ => ?_) (fun e => by cases e) | refine guardA (b := false) rfl rfl rfl rfl (fun e => by cases e) (fun _ => ?_) | refine condT rfl rfl ?_ | refine condF rfl rfl ?_); refine go TL_ok 200 rfl ?_)
  refine call rfl rfl rfl (ok _ (by decide) rfl) (Tours_any m _ _ Hm) ?_
  rintro x w ⟨hx, qk⟩
  have B3 := B3.no qk
  have So := So.no qk
  have Hm := Hm.no qk
  have q := q.trans qk
  obtain rfl : x = I 2 := by
   rcases hx with ⟨h, _⟩ | ⟨_, h⟩
   ·exact absurd h ha
   ·exact h
  refine go TL_ok 200 rfl ?_
  repeat ((first | refine ldA TL_ok rfl rfl rfl rfl rfl (Bk.all B3) ?_ | refine ld TL_ok rfl rfl rfl rfl (Bk.get B3 rfl) ?_ | refine guardA (b := true) rfl rfl rfl rfl (fun _ => ?_) (fun e => by cases e) | refine guardA (b := false) rfl rfl rfl rfl (fun e => by cases e) (fun _ => ?_) | refine condT rfl rfl ?_ | refine condF rfl rfl ?_); refine go TL_ok 200 rfl ?_)
  refine call rfl rfl rfl (ok _ (by decide) rfl) (known_any _) ?_
  rintro v wk ⟨rfl, qk⟩
  refine go TL_ok 200 rfl ?_
  exact ret (ret1 (v := .bool true) Try.results16 rfl ⟨rfl, q.trans qk⟩)
 have n8 : m.S.l.length ≤ 8 := ha.n8
 have n1 : 1 ≤ m.S.l.length := ha.n1
 by_cases hL : OrdOk m.S.l.length o.l
 case neg =>
  obtain rfl : x = .tuple #[.slice none 0 0, I 0, I 2] := by
   rcases hC with ⟨_, h⟩ | ⟨h, _⟩
   ·exact h
   ·exact absurd h.2.1 hL
  refine go TL_ok 200 rfl ?_
  repeat ((first | refine ldA TL_ok rfl rfl rfl rfl rfl (Bk.all B3) ?_ | refine ld TL_ok rfl rfl rfl rfl (Bk.get B3 rfl) ?_ | refine guardA (b := true) rfl rfl rfl rfl (fun _ => ?_) (fun e => by cases e) | refine guardA (b := false) rfl rfl rfl rfl (fun e => by cases e) (fun _ => ?_) | refine condT rfl rfl ?_ | refine condF rfl rfl ?_); refine go TL_ok 200 rfl ?_)
  refine call rfl rfl rfl (ok _ (by decide) rfl) (Slack_any m o.l o.A o.c _ _ _ Hm So) ?_
  rintro x w ⟨qk, hS⟩
  have B3 := B3.no qk
  have So := So.no qk
  have Hm := Hm.no qk
  have q := q.trans qk
  obtain rfl : x = .tuple #[I 0, I 2] := by
   rcases hS with ⟨_, h⟩ | ⟨h, _⟩
   ·exact h
   ·exact absurd h.2 hL
  refine go TL_ok 200 rfl ?_
  repeat ((first | refine ldA TL_ok rfl rfl rfl rfl rfl (Bk.all B3) ?_ | refine ld TL_ok rfl rfl rfl rfl (Bk.get B3 rfl) ?_ | refine guardA (b := true) rfl rfl rfl rfl (fun _ => ?_) (fun e => by cases e) | refine guardA (b := false) rfl rfl rfl rfl (fun e => by cases e) (fun _ => ?_) | refine condT rfl rfl ?_ | refine condF rfl rfl ?_); refine go TL_ok 200 rfl ?_)
  refine call rfl rfl rfl (ok _ (by decide) rfl) (rTour_any m _ _ Hm) ?_
  rintro x w ⟨⟨b, rfl, hb⟩, qk⟩
  have B3 := B3.no qk
  have So := So.no qk
  have Hm := Hm.no qk
  have q := q.trans qk
  obtain rfl : b = true := hb.2 ha
  refine go TL_ok 200 rfl ?_
  repeat ((first | refine ldA TL_ok rfl rfl rfl rfl rfl (Bk.all B3) ?_ | refine ld TL_ok rfl rfl rfl rfl (Bk.get B3 rfl) ?_ | refine guardA (b := true) rfl rfl rfl rfl (fun _ => ?_) (fun e => by cases e) | refine guardA (b := false) rfl rfl rfl rfl (fun e => by cases e) (fun _ => ?_) | refine condT rfl rfl ?_ | refine condF rfl rfl ?_); refine go TL_ok 200 rfl ?_)
  refine call rfl rfl rfl (ok _ (by decide) rfl) (Tours_any m _ _ Hm) ?_
  rintro x w ⟨hx, qk⟩
  have B3 := B3.no qk
  have So := So.no qk
  have Hm := Hm.no qk
  have q := q.trans qk
  obtain rfl : x = I 0 := by
   rcases hx with ⟨_, h⟩ | ⟨h, _⟩
   ·exact h
   ·exact absurd ha h
  refine go TL_ok 200 rfl ?_
  repeat ((first | refine ldA TL_ok rfl rfl rfl rfl rfl (Bk.all B3) ?_ | refine ld TL_ok rfl rfl rfl rfl (Bk.get B3 rfl) ?_ | refine guardA (b := true) rfl rfl rfl rfl (fun _ => ?_) (fun e => by cases e) | refine guardA (b := false) rfl rfl rfl rfl (fun e => by cases e) (fun _ => ?_) | refine condT rfl rfl ?_ | refine condF rfl rfl ?_); refine go TL_ok 200 rfl ?_)
  refine call rfl rfl rfl (ok _ (by decide) rfl) (rOrder_any m.S.l.length o.l o.A o.c _ _ So (by omega) (by omega)) ?_
  rintro x w ⟨⟨b, rfl, hb⟩, qk⟩
  have B3 := B3.no qk
  have So := So.no qk
  have Hm := Hm.no qk
  have q := q.trans qk
  obtain rfl : b = false := Bool.eq_false_iff.2 fun h => hL (hb.1 h)
  refine go TL_ok 200 rfl ?_
  repeat ((first | refine ldA TL_ok rfl rfl rfl rfl rfl (Bk.all B3) ?_ | refine ld TL_ok rfl rfl rfl rfl (Bk.get B3 rfl) ?_ | refine guardA (b := true) rfl rfl rfl rfl (fun _ => ?_) (fun e => by cases e) | refine guardA (b := false) rfl rfl rfl rfl (fun e => by cases e) (fun _ => ?_) | refine condT rfl rfl ?_ | refine condF rfl rfl ?_); refine go TL_ok 200 rfl ?_)
  refine call rfl rfl rfl (ok _ (by decide) rfl) (known_any _) ?_
  rintro v wk ⟨rfl, qk⟩
  refine go TL_ok 200 rfl ?_
  exact ret (ret1 (v := .bool true) Try.results16 rfl ⟨rfl, q.trans qk⟩)
 obtain ⟨k, hok, hkl, hkn⟩ := ord_nat hL
 have hlk : o.l.length = k.length := by rw [hok]; simp [iN]
 have Sok : ∀ {W : World} {C : Nat}, Sl W C 1 o.A o.l.length (iL o.l) → Sl W C 1 o.A k.length (iL (iN k)) := fun h => by rw [← hok, ← hlk]; exact h
 -- the slack
 by_cases hr : 0 ≤ x0 ∧ x0 ≤ 1000000
 case neg =>
  obtain rfl : x = .tuple #[.slice none 0 0, I 0, I 2] := by
   rcases hC with ⟨_, h⟩ | ⟨h, _⟩
   ·exact h
   ·exact absurd h.2.2 hr
  refine go TL_ok 200 rfl ?_
  repeat ((first | refine ldA TL_ok rfl rfl rfl rfl rfl (Bk.all B3) ?_ | refine ld TL_ok rfl rfl rfl rfl (Bk.get B3 rfl) ?_ | refine guardA (b := true) rfl rfl rfl rfl (fun _ => ?_) (fun e => by cases e) | refine guardA (b := false) rfl rfl rfl rfl (fun e => by cases e) (fun _ => ?_) | refine condT rfl rfl ?_ | refine condF rfl rfl ?_); refine go TL_ok 200 rfl ?_)
  refine call rfl rfl rfl (ok _ (by decide) rfl) (Slack_any m o.l o.A o.c _ _ _ Hm So) ?_
  rintro x w ⟨qk, hS⟩
  have B3 := B3.no qk
  have So := So.no qk
  have Hm := Hm.no qk
  have q := q.trans qk
  have hS := fun hh => (hS.resolve_left (fun h => h.1 ⟨ha, hL⟩)).2 k hh
  have hS := hS hok
  have R0 := fun W (h1 : TrM W w0.heap.size m) (h2 : Sl W w0.heap.size 1 o.A o.l.length (iL o.l)) => rTimes_any m k 0 o.A o.c w0.heap.size w0.heap.size W h1 ha (Sok h2) hkn (by omega) (by omega) (by omega)
  rw [← hlk] at R0
  have Rs := fun W (h1 : TrM W w0.heap.size m) (h2 : Sl W w0.heap.size 1 o.A o.l.length (iL o.l)) => rSlack_any m k o.A o.c w0.heap.size w0.heap.size W h1 ha (Sok h2) hkn hkl
  rw [← hlk] at Rs
  cases he0 : endT (trP m) k 0 0 with
  | none =>
   obtain rfl : x = .tuple #[I 0, I 7] := by
    rcases hS with ⟨_, h⟩ | ⟨e, h, _⟩
    ·exact h
    ·rw [he0] at h; cases h
   refine go TL_ok 200 rfl ?_
   repeat ((first | refine ldA TL_ok rfl rfl rfl rfl rfl (Bk.all B3) ?_ | refine ld TL_ok rfl rfl rfl rfl (Bk.get B3 rfl) ?_ | refine guardA (b := true) rfl rfl rfl rfl (fun _ => ?_) (fun e => by cases e) | refine guardA (b := false) rfl rfl rfl rfl (fun e => by cases e) (fun _ => ?_) | refine condT rfl rfl ?_ | refine condF rfl rfl ?_); refine go TL_ok 200 rfl ?_)
   refine call rfl rfl rfl (ok _ (by decide) rfl) (rTour_any m _ _ Hm) ?_
   rintro x w ⟨⟨b, rfl, hb⟩, qk⟩
   have B3 := B3.no qk
   have So := So.no qk
   have Hm := Hm.no qk
   have q := q.trans qk
   obtain rfl : b = true := hb.2 ha
   refine go TL_ok 200 rfl ?_
   repeat ((first | refine ldA TL_ok rfl rfl rfl rfl rfl (Bk.all B3) ?_ | refine ld TL_ok rfl rfl rfl rfl (Bk.get B3 rfl) ?_ | refine guardA (b := true) rfl rfl rfl rfl (fun _ => ?_) (fun e => by cases e) | refine guardA (b := false) rfl rfl rfl rfl (fun e => by cases e) (fun _ => ?_) | refine condT rfl rfl ?_ | refine condF rfl rfl ?_); refine go TL_ok 200 rfl ?_)
   refine call rfl rfl rfl (ok _ (by decide) rfl) (Tours_any m _ _ Hm) ?_
   rintro x w ⟨hx, qk⟩
   have B3 := B3.no qk
   have So := So.no qk
   have Hm := Hm.no qk
   have q := q.trans qk
   obtain rfl : x = I 0 := by
    rcases hx with ⟨_, h⟩ | ⟨h, _⟩
    ·exact h
    ·exact absurd ha h
   refine go TL_ok 200 rfl ?_
   repeat ((first | refine ldA TL_ok rfl rfl rfl rfl rfl (Bk.all B3) ?_ | refine ld TL_ok rfl rfl rfl rfl (Bk.get B3 rfl) ?_ | refine guardA (b := true) rfl rfl rfl rfl (fun _ => ?_) (fun e => by cases e) | refine guardA (b := false) rfl rfl rfl rfl (fun e => by cases e) (fun _ => ?_) | refine condT rfl rfl ?_ | refine condF rfl rfl ?_); refine go TL_ok 200 rfl ?_)
   refine call rfl rfl rfl (ok _ (by decide) rfl) (rOrder_any m.S.l.length o.l o.A o.c _ _ So (by omega) (by omega)) ?_
   rintro x w ⟨⟨b, rfl, hb⟩, qk⟩
   have B3 := B3.no qk
   have So := So.no qk
   have Hm := Hm.no qk
   have q := q.trans qk
   obtain rfl : b = true := hb.2 hL
   refine go TL_ok 200 rfl ?_
   repeat ((first | refine ldA TL_ok rfl rfl rfl rfl rfl (Bk.all B3) ?_ | refine ld TL_ok rfl rfl rfl rfl (Bk.get B3 rfl) ?_ | refine guardA (b := true) rfl rfl rfl rfl (fun _ => ?_) (fun e => by cases e) | refine guardA (b := false) rfl rfl rfl rfl (fun e => by cases e) (fun _ => ?_) | refine condT rfl rfl ?_ | refine condF rfl rfl ?_); refine go TL_ok 200 rfl ?_)
   refine call rfl rfl rfl (ok _ (by decide) rfl) (R0 _ Hm So) ?_
   rintro v w ⟨qk, hv⟩
   have B3 := B3.no qk
   have So := So.no qk
   have Hm := Hm.no qk
   have q := q.trans qk
   obtain rfl : v = .tuple #[.slice none 0 0, I 0, .bool false] := by
    rcases hv with ⟨_, h⟩ | ⟨e, A, c, h, _⟩
    ·exact h
    ·rw [he0] at h; cases h
   refine go TL_ok 200 rfl ?_
   repeat ((first | refine ldA TL_ok rfl rfl rfl rfl rfl (Bk.all B3) ?_ | refine ld TL_ok rfl rfl rfl rfl (Bk.get B3 rfl) ?_ | refine guardA (b := true) rfl rfl rfl rfl (fun _ => ?_) (fun e => by cases e) | refine guardA (b := false) rfl rfl rfl rfl (fun e => by cases e) (fun _ => ?_) | refine condT rfl rfl ?_ | refine condF rfl rfl ?_); refine go TL_ok 200 rfl ?_)
   by_cases h1 : x0 < 0
   ·rw [decide_eq_true h1]
    refine go TL_ok 200 rfl ?_
    repeat ((first | refine ldA TL_ok rfl rfl rfl rfl rfl (Bk.all B3) ?_ | refine ld TL_ok rfl rfl rfl rfl (Bk.get B3 rfl) ?_ | refine guardA (b := true) rfl rfl rfl rfl (fun _ => ?_) (fun e => by cases e) | refine guardA (b := false) rfl rfl rfl rfl (fun e => by cases e) (fun _ => ?_) | refine condT rfl rfl ?_ | refine condF rfl rfl ?_); refine go TL_ok 200 rfl ?_)
    refine call rfl rfl rfl (ok _ (by decide) rfl) (known_any _) ?_
    rintro v wk ⟨rfl, qk⟩
    refine go TL_ok 200 rfl ?_
    exact ret (ret1 (v := .bool true) Try.results16 rfl ⟨rfl, q.trans qk⟩)
   ·rw [decide_eq_false h1]
    refine go TL_ok 200 rfl ?_
    repeat ((first | refine ldA TL_ok rfl rfl rfl rfl rfl (Bk.all B3) ?_ | refine ld TL_ok rfl rfl rfl rfl (Bk.get B3 rfl) ?_ | refine guardA (b := true) rfl rfl rfl rfl (fun _ => ?_) (fun e => by cases e) | refine guardA (b := false) rfl rfl rfl rfl (fun e => by cases e) (fun _ => ?_) | refine condT rfl rfl ?_ | refine condF rfl rfl ?_); refine go TL_ok 200 rfl ?_)
    rw [decide_eq_true (show 1000000 < x0 by omega)]
    refine go TL_ok 200 rfl ?_
    repeat ((first | refine ldA TL_ok rfl rfl rfl rfl rfl (Bk.all B3) ?_ | refine ld TL_ok rfl rfl rfl rfl (Bk.get B3 rfl) ?_ | refine guardA (b := true) rfl rfl rfl rfl (fun _ => ?_) (fun e => by cases e) | refine guardA (b := false) rfl rfl rfl rfl (fun e => by cases e) (fun _ => ?_) | refine condT rfl rfl ?_ | refine condF rfl rfl ?_); refine go TL_ok 200 rfl ?_)
    refine call rfl rfl rfl (ok _ (by decide) rfl) (known_any _) ?_
    rintro v wk ⟨rfl, qk⟩
    refine go TL_ok 200 rfl ?_
    exact ret (ret1 (v := .bool true) Try.results16 rfl ⟨rfl, q.trans qk⟩)
  | some e0 =>
   obtain rfl : x = .tuple #[I (Go.Proofs.Yteenhfnamjbaiaa.latT (trP m) k - wayT (trP m) 0 (k.getD 0 0 + 1)), I 0] := by
    rcases hS with ⟨h, _⟩ | ⟨e, _, h⟩
    ·rw [he0] at h; cases h
    ·exact h
   refine go TL_ok 200 rfl ?_
   repeat ((first | refine ldA TL_ok rfl rfl rfl rfl rfl (Bk.all B3) ?_ | refine ld TL_ok rfl rfl rfl rfl (Bk.get B3 rfl) ?_ | refine guardA (b := true) rfl rfl rfl rfl (fun _ => ?_) (fun e => by cases e) | refine guardA (b := false) rfl rfl rfl rfl (fun e => by cases e) (fun _ => ?_) | refine condT rfl rfl ?_ | refine condF rfl rfl ?_); refine go TL_ok 200 rfl ?_)
   refine call rfl rfl rfl (ok _ (by decide) rfl) (rTour_any m _ _ Hm) ?_
   rintro x w ⟨⟨b, rfl, hb⟩, qk⟩
   have B3 := B3.no qk
   have So := So.no qk
   have Hm := Hm.no qk
   have q := q.trans qk
   obtain rfl : b = true := hb.2 ha
   refine go TL_ok 200 rfl ?_
   repeat ((first | refine ldA TL_ok rfl rfl rfl rfl rfl (Bk.all B3) ?_ | refine ld TL_ok rfl rfl rfl rfl (Bk.get B3 rfl) ?_ | refine guardA (b := true) rfl rfl rfl rfl (fun _ => ?_) (fun e => by cases e) | refine guardA (b := false) rfl rfl rfl rfl (fun e => by cases e) (fun _ => ?_) | refine condT rfl rfl ?_ | refine condF rfl rfl ?_); refine go TL_ok 200 rfl ?_)
   refine call rfl rfl rfl (ok _ (by decide) rfl) (Tours_any m _ _ Hm) ?_
   rintro x w ⟨hx, qk⟩
   have B3 := B3.no qk
   have So := So.no qk
   have Hm := Hm.no qk
   have q := q.trans qk
   obtain rfl : x = I 0 := by
    rcases hx with ⟨_, h⟩ | ⟨h, _⟩
    ·exact h
    ·exact absurd ha h
   refine go TL_ok 200 rfl ?_
   repeat ((first | refine ldA TL_ok rfl rfl rfl rfl rfl (Bk.all B3) ?_ | refine ld TL_ok rfl rfl rfl rfl (Bk.get B3 rfl) ?_ | refine guardA (b := true) rfl rfl rfl rfl (fun _ => ?_) (fun e => by cases e) | refine guardA (b := false) rfl rfl rfl rfl (fun e => by cases e) (fun _ => ?_) | refine condT rfl rfl ?_ | refine condF rfl rfl ?_); refine go TL_ok 200 rfl ?_)
   refine call rfl rfl rfl (ok _ (by decide) rfl) (rOrder_any m.S.l.length o.l o.A o.c _ _ So (by omega) (by omega)) ?_
   rintro x w ⟨⟨b, rfl, hb⟩, qk⟩
   have B3 := B3.no qk
   have So := So.no qk
   have Hm := Hm.no qk
   have q := q.trans qk
   obtain rfl : b = true := hb.2 hL
   refine go TL_ok 200 rfl ?_
   repeat ((first | refine ldA TL_ok rfl rfl rfl rfl rfl (Bk.all B3) ?_ | refine ld TL_ok rfl rfl rfl rfl (Bk.get B3 rfl) ?_ | refine guardA (b := true) rfl rfl rfl rfl (fun _ => ?_) (fun e => by cases e) | refine guardA (b := false) rfl rfl rfl rfl (fun e => by cases e) (fun _ => ?_) | refine condT rfl rfl ?_ | refine condF rfl rfl ?_); refine go TL_ok 200 rfl ?_)
   refine call rfl rfl rfl (ok _ (by decide) rfl) (R0 _ Hm So) ?_
   rintro v w ⟨qk, hv⟩
   have B3 := B3.no qk
   have So := So.no qk
   have Hm := Hm.no qk
   have q := q.trans qk
   obtain ⟨A12, c12, rfl⟩ : ∃ A c, v = .tuple #[.slice A (begs (trP m) k 0 0).length c, I e0, .bool true] := by
    rcases hv with ⟨h, _⟩ | ⟨e, A, c, h, hv, _⟩
    ·rw [he0] at h; cases h
    ·rw [he0] at h
     injection h with h
     subst h
     exact ⟨A, c, hv⟩
   refine go TL_ok 200 rfl ?_
   repeat ((first | refine ldA TL_ok rfl rfl rfl rfl rfl (Bk.all B3) ?_ | refine ld TL_ok rfl rfl rfl rfl (Bk.get B3 rfl) ?_ | refine guardA (b := true) rfl rfl rfl rfl (fun _ => ?_) (fun e => by cases e) | refine guardA (b := false) rfl rfl rfl rfl (fun e => by cases e) (fun _ => ?_) | refine condT rfl rfl ?_ | refine condF rfl rfl ?_); refine go TL_ok 200 rfl ?_)
   refine call rfl rfl rfl (ok _ (by decide) rfl) (Rs _ Hm So) ?_
   rintro v w ⟨rfl, qk⟩
   have B3 := B3.no qk
   have So := So.no qk
   have Hm := Hm.no qk
   have q := q.trans qk
   refine go TL_ok 200 rfl ?_
   repeat ((first | refine ldA TL_ok rfl rfl rfl rfl rfl (Bk.all B3) ?_ | refine ld TL_ok rfl rfl rfl rfl (Bk.get B3 rfl) ?_ | refine guardA (b := true) rfl rfl rfl rfl (fun _ => ?_) (fun e => by cases e) | refine guardA (b := false) rfl rfl rfl rfl (fun e => by cases e) (fun _ => ?_) | refine condT rfl rfl ?_ | refine condF rfl rfl ?_); refine go TL_ok 200 rfl ?_)
   rw [show (Go.Proofs.Yteenhfnamjbaiaa.latT (trP m) k - wayT (trP m) 0 (k.getD 0 0 + 1) != Go.Proofs.Yteenhfnamjbaiaa.latT (trP m) k - wayT (trP m) 0 (k.getD 0 0 + 1)) = false by simp]
   refine go TL_ok 200 rfl ?_
   repeat ((first | refine ldA TL_ok rfl rfl rfl rfl rfl (Bk.all B3) ?_ | refine ld TL_ok rfl rfl rfl rfl (Bk.get B3 rfl) ?_ | refine guardA (b := true) rfl rfl rfl rfl (fun _ => ?_) (fun e => by cases e) | refine guardA (b := false) rfl rfl rfl rfl (fun e => by cases e) (fun _ => ?_) | refine condT rfl rfl ?_ | refine condF rfl rfl ?_); refine go TL_ok 200 rfl ?_)
   by_cases h1 : x0 < 0
   ·rw [decide_eq_true h1]
    refine go TL_ok 200 rfl ?_
    repeat ((first | refine ldA TL_ok rfl rfl rfl rfl rfl (Bk.all B3) ?_ | refine ld TL_ok rfl rfl rfl rfl (Bk.get B3 rfl) ?_ | refine guardA (b := true) rfl rfl rfl rfl (fun _ => ?_) (fun e => by cases e) | refine guardA (b := false) rfl rfl rfl rfl (fun e => by cases e) (fun _ => ?_) | refine condT rfl rfl ?_ | refine condF rfl rfl ?_); refine go TL_ok 200 rfl ?_)
    refine call rfl rfl rfl (ok _ (by decide) rfl) (known_any _) ?_
    rintro v wk ⟨rfl, qk⟩
    refine go TL_ok 200 rfl ?_
    exact ret (ret1 (v := .bool true) Try.results16 rfl ⟨rfl, q.trans qk⟩)
   ·rw [decide_eq_false h1]
    refine go TL_ok 200 rfl ?_
    repeat ((first | refine ldA TL_ok rfl rfl rfl rfl rfl (Bk.all B3) ?_ | refine ld TL_ok rfl rfl rfl rfl (Bk.get B3 rfl) ?_ | refine guardA (b := true) rfl rfl rfl rfl (fun _ => ?_) (fun e => by cases e) | refine guardA (b := false) rfl rfl rfl rfl (fun e => by cases e) (fun _ => ?_) | refine condT rfl rfl ?_ | refine condF rfl rfl ?_); refine go TL_ok 200 rfl ?_)
    rw [decide_eq_true (show 1000000 < x0 by omega)]
    refine go TL_ok 200 rfl ?_
    repeat ((first | refine ldA TL_ok rfl rfl rfl rfl rfl (Bk.all B3) ?_ | refine ld TL_ok rfl rfl rfl rfl (Bk.get B3 rfl) ?_ | refine guardA (b := true) rfl rfl rfl rfl (fun _ => ?_) (fun e => by cases e) | refine guardA (b := false) rfl rfl rfl rfl (fun e => by cases e) (fun _ => ?_) | refine condT rfl rfl ?_ | refine condF rfl rfl ?_); refine go TL_ok 200 rfl ?_)
    refine call rfl rfl rfl (ok _ (by decide) rfl) (known_any _) ?_
    rintro v wk ⟨rfl, qk⟩
    refine go TL_ok 200 rfl ?_
    exact ret (ret1 (v := .bool true) Try.results16 rfl ⟨rfl, q.trans qk⟩)
 have hC := (hC.resolve_left (fun h => h.1 ⟨ha, hL, hr⟩)).2 k hok
 have R1 := fun W (h1 : TrM W w0.heap.size m) (h2 : Sl W w0.heap.size 1 o.A o.l.length (iL o.l)) => rTimes_any m k x0 o.A o.c w0.heap.size w0.heap.size W h1 ha (Sok h2) hkn (by omega) hr.1 hr.2
 rw [← hlk] at R1
 cases he1 : endT (trP m) k 0 x0 with
 | none =>
  obtain rfl : x = .tuple #[.slice none 0 0, I 0, I 7] := by
   rcases hC with ⟨_, h⟩ | ⟨e, A, c, h, _⟩
   ·exact h
   ·rw [he1] at h; cases h
  refine go TL_ok 200 rfl ?_
  repeat ((first | refine ldA TL_ok rfl rfl rfl rfl rfl (Bk.all B3) ?_ | refine ld TL_ok rfl rfl rfl rfl (Bk.get B3 rfl) ?_ | refine guardA (b := true) rfl rfl rfl rfl (fun _ => ?_) (fun e => by cases e) | refine guardA (b := false) rfl rfl rfl rfl (fun e => by cases e) (fun _ => ?_) | refine condT rfl rfl ?_ | refine condF rfl rfl ?_); refine go TL_ok 200 rfl ?_)
  refine call rfl rfl rfl (ok _ (by decide) rfl) (Slack_any m o.l o.A o.c _ _ _ Hm So) ?_
  rintro x w ⟨qk, hS⟩
  have B3 := B3.no qk
  have So := So.no qk
  have Hm := Hm.no qk
  have q := q.trans qk
  have hS := fun hh => (hS.resolve_left (fun h => h.1 ⟨ha, hL⟩)).2 k hh
  have hS := hS hok
  have R0 := fun W (h1 : TrM W w0.heap.size m) (h2 : Sl W w0.heap.size 1 o.A o.l.length (iL o.l)) => rTimes_any m k 0 o.A o.c w0.heap.size w0.heap.size W h1 ha (Sok h2) hkn (by omega) (by omega) (by omega)
  rw [← hlk] at R0
  have Rs := fun W (h1 : TrM W w0.heap.size m) (h2 : Sl W w0.heap.size 1 o.A o.l.length (iL o.l)) => rSlack_any m k o.A o.c w0.heap.size w0.heap.size W h1 ha (Sok h2) hkn hkl
  rw [← hlk] at Rs
  cases he0 : endT (trP m) k 0 0 with
  | none =>
   obtain rfl : x = .tuple #[I 0, I 7] := by
    rcases hS with ⟨_, h⟩ | ⟨e, h, _⟩
    ·exact h
    ·rw [he0] at h; cases h
   refine go TL_ok 200 rfl ?_
   repeat ((first | refine ldA TL_ok rfl rfl rfl rfl rfl (Bk.all B3) ?_ | refine ld TL_ok rfl rfl rfl rfl (Bk.get B3 rfl) ?_ | refine guardA (b := true) rfl rfl rfl rfl (fun _ => ?_) (fun e => by cases e) | refine guardA (b := false) rfl rfl rfl rfl (fun e => by cases e) (fun _ => ?_) | refine condT rfl rfl ?_ | refine condF rfl rfl ?_); refine go TL_ok 200 rfl ?_)
   refine call rfl rfl rfl (ok _ (by decide) rfl) (rTour_any m _ _ Hm) ?_
   rintro x w ⟨⟨b, rfl, hb⟩, qk⟩
   have B3 := B3.no qk
   have So := So.no qk
   have Hm := Hm.no qk
   have q := q.trans qk
   obtain rfl : b = true := hb.2 ha
   refine go TL_ok 200 rfl ?_
   repeat ((first | refine ldA TL_ok rfl rfl rfl rfl rfl (Bk.all B3) ?_ | refine ld TL_ok rfl rfl rfl rfl (Bk.get B3 rfl) ?_ | refine guardA (b := true) rfl rfl rfl rfl (fun _ => ?_) (fun e => by cases e) | refine guardA (b := false) rfl rfl rfl rfl (fun e => by cases e) (fun _ => ?_) | refine condT rfl rfl ?_ | refine condF rfl rfl ?_); refine go TL_ok 200 rfl ?_)
   refine call rfl rfl rfl (ok _ (by decide) rfl) (Tours_any m _ _ Hm) ?_
   rintro x w ⟨hx, qk⟩
   have B3 := B3.no qk
   have So := So.no qk
   have Hm := Hm.no qk
   have q := q.trans qk
   obtain rfl : x = I 0 := by
    rcases hx with ⟨_, h⟩ | ⟨h, _⟩
    ·exact h
    ·exact absurd ha h
   refine go TL_ok 200 rfl ?_
   repeat ((first | refine ldA TL_ok rfl rfl rfl rfl rfl (Bk.all B3) ?_ | refine ld TL_ok rfl rfl rfl rfl (Bk.get B3 rfl) ?_ | refine guardA (b := true) rfl rfl rfl rfl (fun _ => ?_) (fun e => by cases e) | refine guardA (b := false) rfl rfl rfl rfl (fun e => by cases e) (fun _ => ?_) | refine condT rfl rfl ?_ | refine condF rfl rfl ?_); refine go TL_ok 200 rfl ?_)
   refine call rfl rfl rfl (ok _ (by decide) rfl) (rOrder_any m.S.l.length o.l o.A o.c _ _ So (by omega) (by omega)) ?_
   rintro x w ⟨⟨b, rfl, hb⟩, qk⟩
   have B3 := B3.no qk
   have So := So.no qk
   have Hm := Hm.no qk
   have q := q.trans qk
   obtain rfl : b = true := hb.2 hL
   refine go TL_ok 200 rfl ?_
   repeat ((first | refine ldA TL_ok rfl rfl rfl rfl rfl (Bk.all B3) ?_ | refine ld TL_ok rfl rfl rfl rfl (Bk.get B3 rfl) ?_ | refine guardA (b := true) rfl rfl rfl rfl (fun _ => ?_) (fun e => by cases e) | refine guardA (b := false) rfl rfl rfl rfl (fun e => by cases e) (fun _ => ?_) | refine condT rfl rfl ?_ | refine condF rfl rfl ?_); refine go TL_ok 200 rfl ?_)
   refine call rfl rfl rfl (ok _ (by decide) rfl) (R0 _ Hm So) ?_
   rintro v w ⟨qk, hv⟩
   have B3 := B3.no qk
   have So := So.no qk
   have Hm := Hm.no qk
   have q := q.trans qk
   obtain rfl : v = .tuple #[.slice none 0 0, I 0, .bool false] := by
    rcases hv with ⟨_, h⟩ | ⟨e, A, c, h, _⟩
    ·exact h
    ·rw [he0] at h; cases h
   refine go TL_ok 200 rfl ?_
   repeat ((first | refine ldA TL_ok rfl rfl rfl rfl rfl (Bk.all B3) ?_ | refine ld TL_ok rfl rfl rfl rfl (Bk.get B3 rfl) ?_ | refine guardA (b := true) rfl rfl rfl rfl (fun _ => ?_) (fun e => by cases e) | refine guardA (b := false) rfl rfl rfl rfl (fun e => by cases e) (fun _ => ?_) | refine condT rfl rfl ?_ | refine condF rfl rfl ?_); refine go TL_ok 200 rfl ?_)
   rw [decide_eq_false (show ¬ x0 < 0 by omega)]
   refine go TL_ok 200 rfl ?_
   repeat ((first | refine ldA TL_ok rfl rfl rfl rfl rfl (Bk.all B3) ?_ | refine ld TL_ok rfl rfl rfl rfl (Bk.get B3 rfl) ?_ | refine guardA (b := true) rfl rfl rfl rfl (fun _ => ?_) (fun e => by cases e) | refine guardA (b := false) rfl rfl rfl rfl (fun e => by cases e) (fun _ => ?_) | refine condT rfl rfl ?_ | refine condF rfl rfl ?_); refine go TL_ok 200 rfl ?_)
   rw [decide_eq_false (show ¬ 1000000 < x0 by omega)]
   refine go TL_ok 200 rfl ?_
   repeat ((first | refine ldA TL_ok rfl rfl rfl rfl rfl (Bk.all B3) ?_ | refine ld TL_ok rfl rfl rfl rfl (Bk.get B3 rfl) ?_ | refine guardA (b := true) rfl rfl rfl rfl (fun _ => ?_) (fun e => by cases e) | refine guardA (b := false) rfl rfl rfl rfl (fun e => by cases e) (fun _ => ?_) | refine condT rfl rfl ?_ | refine condF rfl rfl ?_); refine go TL_ok 200 rfl ?_)
   refine call rfl rfl rfl (ok _ (by decide) rfl) (R1 _ Hm So) ?_
   rintro v w ⟨qk, hv⟩
   have B3 := B3.no qk
   have So := So.no qk
   have Hm := Hm.no qk
   have q := q.trans qk
   obtain rfl : v = .tuple #[.slice none 0 0, I 0, .bool false] := by
    rcases hv with ⟨_, h⟩ | ⟨e, A, c, h, _⟩
    ·exact h
    ·rw [he1] at h; cases h
   refine go TL_ok 200 rfl ?_
   repeat ((first | refine ldA TL_ok rfl rfl rfl rfl rfl (Bk.all B3) ?_ | refine ld TL_ok rfl rfl rfl rfl (Bk.get B3 rfl) ?_ | refine guardA (b := true) rfl rfl rfl rfl (fun _ => ?_) (fun e => by cases e) | refine guardA (b := false) rfl rfl rfl rfl (fun e => by cases e) (fun _ => ?_) | refine condT rfl rfl ?_ | refine condF rfl rfl ?_); refine go TL_ok 200 rfl ?_)
   refine call rfl rfl rfl (ok _ (by decide) rfl) (known_any _) ?_
   rintro v wk ⟨rfl, qk⟩
   refine go TL_ok 200 rfl ?_
   exact ret (ret1 (v := .bool true) Try.results16 rfl ⟨rfl, q.trans qk⟩)
  | some e0 =>
   obtain rfl : x = .tuple #[I (Go.Proofs.Yteenhfnamjbaiaa.latT (trP m) k - wayT (trP m) 0 (k.getD 0 0 + 1)), I 0] := by
    rcases hS with ⟨h, _⟩ | ⟨e, _, h⟩
    ·rw [he0] at h; cases h
    ·exact h
   refine go TL_ok 200 rfl ?_
   repeat ((first | refine ldA TL_ok rfl rfl rfl rfl rfl (Bk.all B3) ?_ | refine ld TL_ok rfl rfl rfl rfl (Bk.get B3 rfl) ?_ | refine guardA (b := true) rfl rfl rfl rfl (fun _ => ?_) (fun e => by cases e) | refine guardA (b := false) rfl rfl rfl rfl (fun e => by cases e) (fun _ => ?_) | refine condT rfl rfl ?_ | refine condF rfl rfl ?_); refine go TL_ok 200 rfl ?_)
   refine call rfl rfl rfl (ok _ (by decide) rfl) (rTour_any m _ _ Hm) ?_
   rintro x w ⟨⟨b, rfl, hb⟩, qk⟩
   have B3 := B3.no qk
   have So := So.no qk
   have Hm := Hm.no qk
   have q := q.trans qk
   obtain rfl : b = true := hb.2 ha
   refine go TL_ok 200 rfl ?_
   repeat ((first | refine ldA TL_ok rfl rfl rfl rfl rfl (Bk.all B3) ?_ | refine ld TL_ok rfl rfl rfl rfl (Bk.get B3 rfl) ?_ | refine guardA (b := true) rfl rfl rfl rfl (fun _ => ?_) (fun e => by cases e) | refine guardA (b := false) rfl rfl rfl rfl (fun e => by cases e) (fun _ => ?_) | refine condT rfl rfl ?_ | refine condF rfl rfl ?_); refine go TL_ok 200 rfl ?_)
   refine call rfl rfl rfl (ok _ (by decide) rfl) (Tours_any m _ _ Hm) ?_
   rintro x w ⟨hx, qk⟩
   have B3 := B3.no qk
   have So := So.no qk
   have Hm := Hm.no qk
   have q := q.trans qk
   obtain rfl : x = I 0 := by
    rcases hx with ⟨_, h⟩ | ⟨h, _⟩
    ·exact h
    ·exact absurd ha h
   refine go TL_ok 200 rfl ?_
   repeat ((first | refine ldA TL_ok rfl rfl rfl rfl rfl (Bk.all B3) ?_ | refine ld TL_ok rfl rfl rfl rfl (Bk.get B3 rfl) ?_ | refine guardA (b := true) rfl rfl rfl rfl (fun _ => ?_) (fun e => by cases e) | refine guardA (b := false) rfl rfl rfl rfl (fun e => by cases e) (fun _ => ?_) | refine condT rfl rfl ?_ | refine condF rfl rfl ?_); refine go TL_ok 200 rfl ?_)
   refine call rfl rfl rfl (ok _ (by decide) rfl) (rOrder_any m.S.l.length o.l o.A o.c _ _ So (by omega) (by omega)) ?_
   rintro x w ⟨⟨b, rfl, hb⟩, qk⟩
   have B3 := B3.no qk
   have So := So.no qk
   have Hm := Hm.no qk
   have q := q.trans qk
   obtain rfl : b = true := hb.2 hL
   refine go TL_ok 200 rfl ?_
   repeat ((first | refine ldA TL_ok rfl rfl rfl rfl rfl (Bk.all B3) ?_ | refine ld TL_ok rfl rfl rfl rfl (Bk.get B3 rfl) ?_ | refine guardA (b := true) rfl rfl rfl rfl (fun _ => ?_) (fun e => by cases e) | refine guardA (b := false) rfl rfl rfl rfl (fun e => by cases e) (fun _ => ?_) | refine condT rfl rfl ?_ | refine condF rfl rfl ?_); refine go TL_ok 200 rfl ?_)
   refine call rfl rfl rfl (ok _ (by decide) rfl) (R0 _ Hm So) ?_
   rintro v w ⟨qk, hv⟩
   have B3 := B3.no qk
   have So := So.no qk
   have Hm := Hm.no qk
   have q := q.trans qk
   obtain ⟨A12, c12, rfl⟩ : ∃ A c, v = .tuple #[.slice A (begs (trP m) k 0 0).length c, I e0, .bool true] := by
    rcases hv with ⟨h, _⟩ | ⟨e, A, c, h, hv, _⟩
    ·rw [he0] at h; cases h
    ·rw [he0] at h
     injection h with h
     subst h
     exact ⟨A, c, hv⟩
   refine go TL_ok 200 rfl ?_
   repeat ((first | refine ldA TL_ok rfl rfl rfl rfl rfl (Bk.all B3) ?_ | refine ld TL_ok rfl rfl rfl rfl (Bk.get B3 rfl) ?_ | refine guardA (b := true) rfl rfl rfl rfl (fun _ => ?_) (fun e => by cases e) | refine guardA (b := false) rfl rfl rfl rfl (fun e => by cases e) (fun _ => ?_) | refine condT rfl rfl ?_ | refine condF rfl rfl ?_); refine go TL_ok 200 rfl ?_)
   refine call rfl rfl rfl (ok _ (by decide) rfl) (Rs _ Hm So) ?_
   rintro v w ⟨rfl, qk⟩
   have B3 := B3.no qk
   have So := So.no qk
   have Hm := Hm.no qk
   have q := q.trans qk
   refine go TL_ok 200 rfl ?_
   repeat ((first | refine ldA TL_ok rfl rfl rfl rfl rfl (Bk.all B3) ?_ | refine ld TL_ok rfl rfl rfl rfl (Bk.get B3 rfl) ?_ | refine guardA (b := true) rfl rfl rfl rfl (fun _ => ?_) (fun e => by cases e) | refine guardA (b := false) rfl rfl rfl rfl (fun e => by cases e) (fun _ => ?_) | refine condT rfl rfl ?_ | refine condF rfl rfl ?_); refine go TL_ok 200 rfl ?_)
   rw [show (Go.Proofs.Yteenhfnamjbaiaa.latT (trP m) k - wayT (trP m) 0 (k.getD 0 0 + 1) != Go.Proofs.Yteenhfnamjbaiaa.latT (trP m) k - wayT (trP m) 0 (k.getD 0 0 + 1)) = false by simp]
   refine go TL_ok 200 rfl ?_
   repeat ((first | refine ldA TL_ok rfl rfl rfl rfl rfl (Bk.all B3) ?_ | refine ld TL_ok rfl rfl rfl rfl (Bk.get B3 rfl) ?_ | refine guardA (b := true) rfl rfl rfl rfl (fun _ => ?_) (fun e => by cases e) | refine guardA (b := false) rfl rfl rfl rfl (fun e => by cases e) (fun _ => ?_) | refine condT rfl rfl ?_ | refine condF rfl rfl ?_); refine go TL_ok 200 rfl ?_)
   rw [decide_eq_false (show ¬ x0 < 0 by omega)]
   refine go TL_ok 200 rfl ?_
   repeat ((first | refine ldA TL_ok rfl rfl rfl rfl rfl (Bk.all B3) ?_ | refine ld TL_ok rfl rfl rfl rfl (Bk.get B3 rfl) ?_ | refine guardA (b := true) rfl rfl rfl rfl (fun _ => ?_) (fun e => by cases e) | refine guardA (b := false) rfl rfl rfl rfl (fun e => by cases e) (fun _ => ?_) | refine condT rfl rfl ?_ | refine condF rfl rfl ?_); refine go TL_ok 200 rfl ?_)
   rw [decide_eq_false (show ¬ 1000000 < x0 by omega)]
   refine go TL_ok 200 rfl ?_
   repeat ((first | refine ldA TL_ok rfl rfl rfl rfl rfl (Bk.all B3) ?_ | refine ld TL_ok rfl rfl rfl rfl (Bk.get B3 rfl) ?_ | refine guardA (b := true) rfl rfl rfl rfl (fun _ => ?_) (fun e => by cases e) | refine guardA (b := false) rfl rfl rfl rfl (fun e => by cases e) (fun _ => ?_) | refine condT rfl rfl ?_ | refine condF rfl rfl ?_); refine go TL_ok 200 rfl ?_)
   refine call rfl rfl rfl (ok _ (by decide) rfl) (R1 _ Hm So) ?_
   rintro v w ⟨qk, hv⟩
   have B3 := B3.no qk
   have So := So.no qk
   have Hm := Hm.no qk
   have q := q.trans qk
   obtain rfl : v = .tuple #[.slice none 0 0, I 0, .bool false] := by
    rcases hv with ⟨_, h⟩ | ⟨e, A, c, h, _⟩
    ·exact h
    ·rw [he1] at h; cases h
   refine go TL_ok 200 rfl ?_
   repeat ((first | refine ldA TL_ok rfl rfl rfl rfl rfl (Bk.all B3) ?_ | refine ld TL_ok rfl rfl rfl rfl (Bk.get B3 rfl) ?_ | refine guardA (b := true) rfl rfl rfl rfl (fun _ => ?_) (fun e => by cases e) | refine guardA (b := false) rfl rfl rfl rfl (fun e => by cases e) (fun _ => ?_) | refine condT rfl rfl ?_ | refine condF rfl rfl ?_); refine go TL_ok 200 rfl ?_)
   refine call rfl rfl rfl (ok _ (by decide) rfl) (known_any _) ?_
   rintro v wk ⟨rfl, qk⟩
   refine go TL_ok 200 rfl ?_
   exact ret (ret1 (v := .bool true) Try.results16 rfl ⟨rfl, q.trans qk⟩)
 | some e1 =>
  obtain ⟨A7, c7, rfl, S7⟩ : ∃ A c, x = .tuple #[.slice A (begs (trP m) k 0 x0).length c, I e1, I 0] ∧ Sl w w.heap.size 1 A (begs (trP m) k 0 x0).length (iL (begs (trP m) k 0 x0)) := by
   rcases hC with ⟨h, _⟩ | ⟨e, A, c, h, hv, hown⟩
   ·rw [he1] at h; cases h
   ·rw [he1] at h
    injection h with h
    subst h
    exact ⟨A, c, hv, own_sl hown⟩
  have hbl := begs_len (trP m) k 0 x0
  refine go TL_ok 200 rfl ?_
  repeat ((first | refine ldA TL_ok rfl rfl rfl rfl rfl (Bk.all B3) ?_ | refine ld TL_ok rfl rfl rfl rfl (Bk.get B3 rfl) ?_ | refine guardA (b := true) rfl rfl rfl rfl (fun _ => ?_) (fun e => by cases e) | refine guardA (b := false) rfl rfl rfl rfl (fun e => by cases e) (fun _ => ?_) | refine condT rfl rfl ?_ | refine condF rfl rfl ?_); refine go TL_ok 200 rfl ?_)
  refine call rfl rfl rfl (ok _ (by decide) rfl) (Slack_any m o.l o.A o.c _ _ _ Hm So) ?_
  rintro x w ⟨qk, hS⟩
  have B3 := B3.no qk
  have So := So.no qk
  have Hm := Hm.no qk
  have S7 := S7.no qk
  have q := q.trans qk
  have hS := fun hh => (hS.resolve_left (fun h => h.1 ⟨ha, hL⟩)).2 k hh
  have hS := hS hok
  have R0 := fun W (h1 : TrM W w0.heap.size m) (h2 : Sl W w0.heap.size 1 o.A o.l.length (iL o.l)) => rTimes_any m k 0 o.A o.c w0.heap.size w0.heap.size W h1 ha (Sok h2) hkn (by omega) (by omega) (by omega)
  rw [← hlk] at R0
  have Rs := fun W (h1 : TrM W w0.heap.size m) (h2 : Sl W w0.heap.size 1 o.A o.l.length (iL o.l)) => rSlack_any m k o.A o.c w0.heap.size w0.heap.size W h1 ha (Sok h2) hkn hkl
  rw [← hlk] at Rs
  cases he0 : endT (trP m) k 0 0 with
  | none =>
   obtain rfl : x = .tuple #[I 0, I 7] := by
    rcases hS with ⟨_, h⟩ | ⟨e, h, _⟩
    ·exact h
    ·rw [he0] at h; cases h
   refine go TL_ok 200 rfl ?_
   repeat ((first | refine ldA TL_ok rfl rfl rfl rfl rfl (Bk.all B3) ?_ | refine ld TL_ok rfl rfl rfl rfl (Bk.get B3 rfl) ?_ | refine guardA (b := true) rfl rfl rfl rfl (fun _ => ?_) (fun e => by cases e) | refine guardA (b := false) rfl rfl rfl rfl (fun e => by cases e) (fun _ => ?_) | refine condT rfl rfl ?_ | refine condF rfl rfl ?_); refine go TL_ok 200 rfl ?_)
   refine call rfl rfl rfl (ok _ (by decide) rfl) (rTour_any m _ _ Hm) ?_
   rintro x w ⟨⟨b, rfl, hb⟩, qk⟩
   have B3 := B3.no qk
   have So := So.no qk
   have Hm := Hm.no qk
   have S7 := S7.no qk
   have q := q.trans qk
   obtain rfl : b = true := hb.2 ha
   refine go TL_ok 200 rfl ?_
   repeat ((first | refine ldA TL_ok rfl rfl rfl rfl rfl (Bk.all B3) ?_ | refine ld TL_ok rfl rfl rfl rfl (Bk.get B3 rfl) ?_ | refine guardA (b := true) rfl rfl rfl rfl (fun _ => ?_) (fun e => by cases e) | refine guardA (b := false) rfl rfl rfl rfl (fun e => by cases e) (fun _ => ?_) | refine condT rfl rfl ?_ | refine condF rfl rfl ?_); refine go TL_ok 200 rfl ?_)
   refine call rfl rfl rfl (ok _ (by decide) rfl) (Tours_any m _ _ Hm) ?_
   rintro x w ⟨hx, qk⟩
   have B3 := B3.no qk
   have So := So.no qk
   have Hm := Hm.no qk
   have S7 := S7.no qk
   have q := q.trans qk
   obtain rfl : x = I 0 := by
    rcases hx with ⟨_, h⟩ | ⟨h, _⟩
    ·exact h
    ·exact absurd ha h
   refine go TL_ok 200 rfl ?_
   repeat ((first | refine ldA TL_ok rfl rfl rfl rfl rfl (Bk.all B3) ?_ | refine ld TL_ok rfl rfl rfl rfl (Bk.get B3 rfl) ?_ | refine guardA (b := true) rfl rfl rfl rfl (fun _ => ?_) (fun e => by cases e) | refine guardA (b := false) rfl rfl rfl rfl (fun e => by cases e) (fun _ => ?_) | refine condT rfl rfl ?_ | refine condF rfl rfl ?_); refine go TL_ok 200 rfl ?_)
   refine call rfl rfl rfl (ok _ (by decide) rfl) (rOrder_any m.S.l.length o.l o.A o.c _ _ So (by omega) (by omega)) ?_
   rintro x w ⟨⟨b, rfl, hb⟩, qk⟩
   have B3 := B3.no qk
   have So := So.no qk
   have Hm := Hm.no qk
   have S7 := S7.no qk
   have q := q.trans qk
   obtain rfl : b = true := hb.2 hL
   refine go TL_ok 200 rfl ?_
   repeat ((first | refine ldA TL_ok rfl rfl rfl rfl rfl (Bk.all B3) ?_ | refine ld TL_ok rfl rfl rfl rfl (Bk.get B3 rfl) ?_ | refine guardA (b := true) rfl rfl rfl rfl (fun _ => ?_) (fun e => by cases e) | refine guardA (b := false) rfl rfl rfl rfl (fun e => by cases e) (fun _ => ?_) | refine condT rfl rfl ?_ | refine condF rfl rfl ?_); refine go TL_ok 200 rfl ?_)
   refine call rfl rfl rfl (ok _ (by decide) rfl) (R0 _ Hm So) ?_
   rintro v w ⟨qk, hv⟩
   have B3 := B3.no qk
   have So := So.no qk
   have Hm := Hm.no qk
   have S7 := S7.no qk
   have q := q.trans qk
   obtain rfl : v = .tuple #[.slice none 0 0, I 0, .bool false] := by
    rcases hv with ⟨_, h⟩ | ⟨e, A, c, h, _⟩
    ·exact h
    ·rw [he0] at h; cases h
   refine go TL_ok 200 rfl ?_
   repeat ((first | refine ldA TL_ok rfl rfl rfl rfl rfl (Bk.all B3) ?_ | refine ld TL_ok rfl rfl rfl rfl (Bk.get B3 rfl) ?_ | refine guardA (b := true) rfl rfl rfl rfl (fun _ => ?_) (fun e => by cases e) | refine guardA (b := false) rfl rfl rfl rfl (fun e => by cases e) (fun _ => ?_) | refine condT rfl rfl ?_ | refine condF rfl rfl ?_); refine go TL_ok 200 rfl ?_)
   rw [decide_eq_false (show ¬ x0 < 0 by omega)]
   refine go TL_ok 200 rfl ?_
   repeat ((first | refine ldA TL_ok rfl rfl rfl rfl rfl (Bk.all B3) ?_ | refine ld TL_ok rfl rfl rfl rfl (Bk.get B3 rfl) ?_ | refine guardA (b := true) rfl rfl rfl rfl (fun _ => ?_) (fun e => by cases e) | refine guardA (b := false) rfl rfl rfl rfl (fun e => by cases e) (fun _ => ?_) | refine condT rfl rfl ?_ | refine condF rfl rfl ?_); refine go TL_ok 200 rfl ?_)
   rw [decide_eq_false (show ¬ 1000000 < x0 by omega)]
   refine go TL_ok 200 rfl ?_
   repeat ((first | refine ldA TL_ok rfl rfl rfl rfl rfl (Bk.all B3) ?_ | refine ld TL_ok rfl rfl rfl rfl (Bk.get B3 rfl) ?_ | refine guardA (b := true) rfl rfl rfl rfl (fun _ => ?_) (fun e => by cases e) | refine guardA (b := false) rfl rfl rfl rfl (fun e => by cases e) (fun _ => ?_) | refine condT rfl rfl ?_ | refine condF rfl rfl ?_); refine go TL_ok 200 rfl ?_)
   refine call rfl rfl rfl (ok _ (by decide) rfl) (R1 _ Hm So) ?_
   rintro v w ⟨qk, hv⟩
   have B3 := B3.no qk
   have So := So.no qk
   have Hm := Hm.no qk
   have S7 := S7.no qk
   have q := q.trans qk
   obtain ⟨A15, c15, rfl, S15⟩ : ∃ A c, v = .tuple #[.slice A (begs (trP m) k 0 x0).length c, I e1, .bool true] ∧ Sl w w.heap.size 1 A (begs (trP m) k 0 x0).length (iL (begs (trP m) k 0 x0)) := by
    rcases hv with ⟨h, _⟩ | ⟨e, A, c, h, hv, hown⟩
    ·rw [he1] at h; cases h
    ·rw [he1] at h
     injection h with h
     subst h
     exact ⟨A, c, hv, own_sl hown⟩
   refine go TL_ok 200 rfl ?_
   repeat ((first | refine ldA TL_ok rfl rfl rfl rfl rfl (Bk.all B3) ?_ | refine ld TL_ok rfl rfl rfl rfl (Bk.get B3 rfl) ?_ | refine guardA (b := true) rfl rfl rfl rfl (fun _ => ?_) (fun e => by cases e) | refine guardA (b := false) rfl rfl rfl rfl (fun e => by cases e) (fun _ => ?_) | refine condT rfl rfl ?_ | refine condF rfl rfl ?_); refine go TL_ok 200 rfl ?_)
   refine call rfl rfl rfl (ok _ (by decide) rfl) (Q.Same_any (begs (trP m) k 0 x0) (begs (trP m) k 0 x0) A7 A15 c7 c15 _ _ _ S7 S15 (by omega)) ?_
   rintro x w ⟨rfl, qk⟩
   have B3 := B3.no qk
   have So := So.no qk
   have Hm := Hm.no qk
   have S7 := S7.no qk
   have q := q.trans qk
   refine go TL_ok 200 rfl ?_
   repeat ((first | refine ldA TL_ok rfl rfl rfl rfl rfl (Bk.all B3) ?_ | refine ld TL_ok rfl rfl rfl rfl (Bk.get B3 rfl) ?_ | refine guardA (b := true) rfl rfl rfl rfl (fun _ => ?_) (fun e => by cases e) | refine guardA (b := false) rfl rfl rfl rfl (fun e => by cases e) (fun _ => ?_) | refine condT rfl rfl ?_ | refine condF rfl rfl ?_); refine go TL_ok 200 rfl ?_)
   rw [show (begs (trP m) k 0 x0 == begs (trP m) k 0 x0) = true by simp]
   refine go TL_ok 200 rfl ?_
   repeat ((first | refine ldA TL_ok rfl rfl rfl rfl rfl (Bk.all B3) ?_ | refine ld TL_ok rfl rfl rfl rfl (Bk.get B3 rfl) ?_ | refine guardA (b := true) rfl rfl rfl rfl (fun _ => ?_) (fun e => by cases e) | refine guardA (b := false) rfl rfl rfl rfl (fun e => by cases e) (fun _ => ?_) | refine condT rfl rfl ?_ | refine condF rfl rfl ?_); refine go TL_ok 200 rfl ?_)
   rw [show (e1 == e1) = true by simp]
   refine go TL_ok 200 rfl ?_
   repeat ((first | refine ldA TL_ok rfl rfl rfl rfl rfl (Bk.all B3) ?_ | refine ld TL_ok rfl rfl rfl rfl (Bk.get B3 rfl) ?_ | refine guardA (b := true) rfl rfl rfl rfl (fun _ => ?_) (fun e => by cases e) | refine guardA (b := false) rfl rfl rfl rfl (fun e => by cases e) (fun _ => ?_) | refine condT rfl rfl ?_ | refine condF rfl rfl ?_); refine go TL_ok 200 rfl ?_)
   refine call rfl rfl rfl (ok _ (by decide) rfl) (known_any _) ?_
   rintro v wk ⟨rfl, qk⟩
   refine go TL_ok 200 rfl ?_
   exact ret (ret1 (v := .bool true) Try.results16 rfl ⟨rfl, q.trans qk⟩)
  | some e0 =>
   obtain rfl : x = .tuple #[I (Go.Proofs.Yteenhfnamjbaiaa.latT (trP m) k - wayT (trP m) 0 (k.getD 0 0 + 1)), I 0] := by
    rcases hS with ⟨h, _⟩ | ⟨e, _, h⟩
    ·rw [he0] at h; cases h
    ·exact h
   refine go TL_ok 200 rfl ?_
   repeat ((first | refine ldA TL_ok rfl rfl rfl rfl rfl (Bk.all B3) ?_ | refine ld TL_ok rfl rfl rfl rfl (Bk.get B3 rfl) ?_ | refine guardA (b := true) rfl rfl rfl rfl (fun _ => ?_) (fun e => by cases e) | refine guardA (b := false) rfl rfl rfl rfl (fun e => by cases e) (fun _ => ?_) | refine condT rfl rfl ?_ | refine condF rfl rfl ?_); refine go TL_ok 200 rfl ?_)
   refine call rfl rfl rfl (ok _ (by decide) rfl) (rTour_any m _ _ Hm) ?_
   rintro x w ⟨⟨b, rfl, hb⟩, qk⟩
   have B3 := B3.no qk
   have So := So.no qk
   have Hm := Hm.no qk
   have S7 := S7.no qk
   have q := q.trans qk
   obtain rfl : b = true := hb.2 ha
   refine go TL_ok 200 rfl ?_
   repeat ((first | refine ldA TL_ok rfl rfl rfl rfl rfl (Bk.all B3) ?_ | refine ld TL_ok rfl rfl rfl rfl (Bk.get B3 rfl) ?_ | refine guardA (b := true) rfl rfl rfl rfl (fun _ => ?_) (fun e => by cases e) | refine guardA (b := false) rfl rfl rfl rfl (fun e => by cases e) (fun _ => ?_) | refine condT rfl rfl ?_ | refine condF rfl rfl ?_); refine go TL_ok 200 rfl ?_)
   refine call rfl rfl rfl (ok _ (by decide) rfl) (Tours_any m _ _ Hm) ?_
   rintro x w ⟨hx, qk⟩
   have B3 := B3.no qk
   have So := So.no qk
   have Hm := Hm.no qk
   have S7 := S7.no qk
   have q := q.trans qk
   obtain rfl : x = I 0 := by
    rcases hx with ⟨_, h⟩ | ⟨h, _⟩
    ·exact h
    ·exact absurd ha h
   refine go TL_ok 200 rfl ?_
   repeat ((first | refine ldA TL_ok rfl rfl rfl rfl rfl (Bk.all B3) ?_ | refine ld TL_ok rfl rfl rfl rfl (Bk.get B3 rfl) ?_ | refine guardA (b := true) rfl rfl rfl rfl (fun _ => ?_) (fun e => by cases e) | refine guardA (b := false) rfl rfl rfl rfl (fun e => by cases e) (fun _ => ?_) | refine condT rfl rfl ?_ | refine condF rfl rfl ?_); refine go TL_ok 200 rfl ?_)
   refine call rfl rfl rfl (ok _ (by decide) rfl) (rOrder_any m.S.l.length o.l o.A o.c _ _ So (by omega) (by omega)) ?_
   rintro x w ⟨⟨b, rfl, hb⟩, qk⟩
   have B3 := B3.no qk
   have So := So.no qk
   have Hm := Hm.no qk
   have S7 := S7.no qk
   have q := q.trans qk
   obtain rfl : b = true := hb.2 hL
   refine go TL_ok 200 rfl ?_
   repeat ((first | refine ldA TL_ok rfl rfl rfl rfl rfl (Bk.all B3) ?_ | refine ld TL_ok rfl rfl rfl rfl (Bk.get B3 rfl) ?_ | refine guardA (b := true) rfl rfl rfl rfl (fun _ => ?_) (fun e => by cases e) | refine guardA (b := false) rfl rfl rfl rfl (fun e => by cases e) (fun _ => ?_) | refine condT rfl rfl ?_ | refine condF rfl rfl ?_); refine go TL_ok 200 rfl ?_)
   refine call rfl rfl rfl (ok _ (by decide) rfl) (R0 _ Hm So) ?_
   rintro v w ⟨qk, hv⟩
   have B3 := B3.no qk
   have So := So.no qk
   have Hm := Hm.no qk
   have S7 := S7.no qk
   have q := q.trans qk
   obtain ⟨A12, c12, rfl⟩ : ∃ A c, v = .tuple #[.slice A (begs (trP m) k 0 0).length c, I e0, .bool true] := by
    rcases hv with ⟨h, _⟩ | ⟨e, A, c, h, hv, _⟩
    ·rw [he0] at h; cases h
    ·rw [he0] at h
     injection h with h
     subst h
     exact ⟨A, c, hv⟩
   refine go TL_ok 200 rfl ?_
   repeat ((first | refine ldA TL_ok rfl rfl rfl rfl rfl (Bk.all B3) ?_ | refine ld TL_ok rfl rfl rfl rfl (Bk.get B3 rfl) ?_ | refine guardA (b := true) rfl rfl rfl rfl (fun _ => ?_) (fun e => by cases e) | refine guardA (b := false) rfl rfl rfl rfl (fun e => by cases e) (fun _ => ?_) | refine condT rfl rfl ?_ | refine condF rfl rfl ?_); refine go TL_ok 200 rfl ?_)
   refine call rfl rfl rfl (ok _ (by decide) rfl) (Rs _ Hm So) ?_
   rintro v w ⟨rfl, qk⟩
   have B3 := B3.no qk
   have So := So.no qk
   have Hm := Hm.no qk
   have S7 := S7.no qk
   have q := q.trans qk
   refine go TL_ok 200 rfl ?_
   repeat ((first | refine ldA TL_ok rfl rfl rfl rfl rfl (Bk.all B3) ?_ | refine ld TL_ok rfl rfl rfl rfl (Bk.get B3 rfl) ?_ | refine guardA (b := true) rfl rfl rfl rfl (fun _ => ?_) (fun e => by cases e) | refine guardA (b := false) rfl rfl rfl rfl (fun e => by cases e) (fun _ => ?_) | refine condT rfl rfl ?_ | refine condF rfl rfl ?_); refine go TL_ok 200 rfl ?_)
   rw [show (Go.Proofs.Yteenhfnamjbaiaa.latT (trP m) k - wayT (trP m) 0 (k.getD 0 0 + 1) != Go.Proofs.Yteenhfnamjbaiaa.latT (trP m) k - wayT (trP m) 0 (k.getD 0 0 + 1)) = false by simp]
   refine go TL_ok 200 rfl ?_
   repeat ((first | refine ldA TL_ok rfl rfl rfl rfl rfl (Bk.all B3) ?_ | refine ld TL_ok rfl rfl rfl rfl (Bk.get B3 rfl) ?_ | refine guardA (b := true) rfl rfl rfl rfl (fun _ => ?_) (fun e => by cases e) | refine guardA (b := false) rfl rfl rfl rfl (fun e => by cases e) (fun _ => ?_) | refine condT rfl rfl ?_ | refine condF rfl rfl ?_); refine go TL_ok 200 rfl ?_)
   rw [decide_eq_false (show ¬ x0 < 0 by omega)]
   refine go TL_ok 200 rfl ?_
   repeat ((first | refine ldA TL_ok rfl rfl rfl rfl rfl (Bk.all B3) ?_ | refine ld TL_ok rfl rfl rfl rfl (Bk.get B3 rfl) ?_ | refine guardA (b := true) rfl rfl rfl rfl (fun _ => ?_) (fun e => by cases e) | refine guardA (b := false) rfl rfl rfl rfl (fun e => by cases e) (fun _ => ?_) | refine condT rfl rfl ?_ | refine condF rfl rfl ?_); refine go TL_ok 200 rfl ?_)
   rw [decide_eq_false (show ¬ 1000000 < x0 by omega)]
   refine go TL_ok 200 rfl ?_
   repeat ((first | refine ldA TL_ok rfl rfl rfl rfl rfl (Bk.all B3) ?_ | refine ld TL_ok rfl rfl rfl rfl (Bk.get B3 rfl) ?_ | refine guardA (b := true) rfl rfl rfl rfl (fun _ => ?_) (fun e => by cases e) | refine guardA (b := false) rfl rfl rfl rfl (fun e => by cases e) (fun _ => ?_) | refine condT rfl rfl ?_ | refine condF rfl rfl ?_); refine go TL_ok 200 rfl ?_)
   refine call rfl rfl rfl (ok _ (by decide) rfl) (R1 _ Hm So) ?_
   rintro v w ⟨qk, hv⟩
   have B3 := B3.no qk
   have So := So.no qk
   have Hm := Hm.no qk
   have S7 := S7.no qk
   have q := q.trans qk
   obtain ⟨A15, c15, rfl, S15⟩ : ∃ A c, v = .tuple #[.slice A (begs (trP m) k 0 x0).length c, I e1, .bool true] ∧ Sl w w.heap.size 1 A (begs (trP m) k 0 x0).length (iL (begs (trP m) k 0 x0)) := by
    rcases hv with ⟨h, _⟩ | ⟨e, A, c, h, hv, hown⟩
    ·rw [he1] at h; cases h
    ·rw [he1] at h
     injection h with h
     subst h
     exact ⟨A, c, hv, own_sl hown⟩
   refine go TL_ok 200 rfl ?_
   repeat ((first | refine ldA TL_ok rfl rfl rfl rfl rfl (Bk.all B3) ?_ | refine ld TL_ok rfl rfl rfl rfl (Bk.get B3 rfl) ?_ | refine guardA (b := true) rfl rfl rfl rfl (fun _ => ?_) (fun e => by cases e) | refine guardA (b := false) rfl rfl rfl rfl (fun e => by cases e) (fun _ => ?_) | refine condT rfl rfl ?_ | refine condF rfl rfl ?_); refine go TL_ok 200 rfl ?_)
   refine call rfl rfl rfl (ok _ (by decide) rfl) (Q.Same_any (begs (trP m) k 0 x0) (begs (trP m) k 0 x0) A7 A15 c7 c15 _ _ _ S7 S15 (by omega)) ?_
   rintro x w ⟨rfl, qk⟩
   have B3 := B3.no qk
   have So := So.no qk
   have Hm := Hm.no qk
   have S7 := S7.no qk
   have q := q.trans qk
   refine go TL_ok 200 rfl ?_
   repeat ((first | refine ldA TL_ok rfl rfl rfl rfl rfl (Bk.all B3) ?_ | refine ld TL_ok rfl rfl rfl rfl (Bk.get B3 rfl) ?_ | refine guardA (b := true) rfl rfl rfl rfl (fun _ => ?_) (fun e => by cases e) | refine guardA (b := false) rfl rfl rfl rfl (fun e => by cases e) (fun _ => ?_) | refine condT rfl rfl ?_ | refine condF rfl rfl ?_); refine go TL_ok 200 rfl ?_)
   rw [show (begs (trP m) k 0 x0 == begs (trP m) k 0 x0) = true by simp]
   refine go TL_ok 200 rfl ?_
   repeat ((first | refine ldA TL_ok rfl rfl rfl rfl rfl (Bk.all B3) ?_ | refine ld TL_ok rfl rfl rfl rfl (Bk.get B3 rfl) ?_ | refine guardA (b := true) rfl rfl rfl rfl (fun _ => ?_) (fun e => by cases e) | refine guardA (b := false) rfl rfl rfl rfl (fun e => by cases e) (fun _ => ?_) | refine condT rfl rfl ?_ | refine condF rfl rfl ?_); refine go TL_ok 200 rfl ?_)
   rw [show (e1 == e1) = true by simp]
   refine go TL_ok 200 rfl ?_
   repeat ((first | refine ldA TL_ok rfl rfl rfl rfl rfl (Bk.all B3) ?_ | refine ld TL_ok rfl rfl rfl rfl (Bk.get B3 rfl) ?_ | refine guardA (b := true) rfl rfl rfl rfl (fun _ => ?_) (fun e => by cases e) | refine guardA (b := false) rfl rfl rfl rfl (fun e => by cases e) (fun _ => ?_) | refine condT rfl rfl ?_ | refine condF rfl rfl ?_); refine go TL_ok 200 rfl ?_)
   refine call rfl rfl rfl (ok _ (by decide) rfl) (known_any _) ?_
   rintro v wk ⟨rfl, qk⟩
   refine go TL_ok 200 rfl ?_
   exact ret (ret1 (v := .bool true) Try.results16 rfl ⟨rfl, q.trans qk⟩)
end Go.Proofs.Yteenhfnamjbaiaa
