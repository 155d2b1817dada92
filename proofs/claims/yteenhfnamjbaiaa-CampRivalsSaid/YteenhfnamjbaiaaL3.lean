/- The walk of CampRivals. -/
import Derived.Test.YteenhfnamjbaiaaK1
import Derived.Test.YteenhfnamjbaiaaV3
import Derived.Test.YteenhfnamjbaiaaE4
namespace Go.Proofs.Yteenhfnamjbaiaa
open Go.Ev Go.Proofs
open Go.Camp (Cp CpOk ChOk Site SiteOk Sites costP siteAt SlOk)
attribute [local irreducible] At AtH
theorem cpm {w : World} {B : Nat} {m : Cm} (S : Sl w B 4 m.A m.c.sites.length (m.c.sites.flatMap siL)) : CpM w m := S.more S.2.1 (Nat.le_refl _)
set_option maxRecDepth 20000 in
set_option maxHeartbeats 16000000 in
theorem walk_CampRivals (m : Cm) (s0 : Int) (o : Sli Int) (more : Int) (w0 : World) (hm : InC w0 m) (hs0 : I64 s0) (ho : InI w0 o) (hx : I64 more) :
  Ret Try.prog 3 [.agg (cpL m).toArray, I s0, .slice o.A o.l.length o.c, I more] w0 fun x w' => x = .bool true ∧ Chg No w0 w' := by
 have So := ho.sl
 have Sm : Sl w0 w0.heap.size 4 m.A m.c.sites.length (m.c.sites.flatMap siL) := hm.m
 refine enter Try.func3 rfl Try.ntmps3 rfl ?_
 refine go T_ok 200 rfl ?_
 refine bx rfl rfl rfl (cs := cpL m) rfl ?_
 intro g4 u4 hg4 hs4 q4 B4
 have q := q4
 have So := So.no q
 have Sm := Sm.no q
 refine go T_ok 200 rfl ?_
 repeat ((first | refine ldA T_ok rfl rfl rfl rfl rfl (Bk.all B4) ?_ | refine ld T_ok rfl rfl rfl rfl (Bk.get B4 rfl) ?_ | refine guardA (b := true) rfl rfl rfl rfl (fun _ => ?_) (fun e => by cases e) | refine guardA (b := false) rfl rfl rfl rfl (fun e => by cases e) (fun _ => ?_) | refine condT rfl rfl ?_ | refine condF rfl rfl ?_); refine go T_ok 200 rfl ?_)
 refine call rfl rfl rfl (ok _ (by decide) rfl) (small_any m 8 _ (by decide)) ?_
 rintro x w ⟨⟨b, rfl, hb⟩, qk⟩
 have B4 := B4.no qk
 have So := So.no qk
 have Sm := Sm.no qk
 have q := q.trans qk
 cases b with
 | false =>
  refine go T_ok 200 rfl ?_
  repeat ((first | refine ldA T_ok rfl rfl rfl rfl rfl (Bk.all B4) ?_ | refine ld T_ok rfl rfl rfl rfl (Bk.get B4 rfl) ?_ | refine guardA (b := true) rfl rfl rfl rfl (fun _ => ?_) (fun e => by cases e) | refine guardA (b := false) rfl rfl rfl rfl (fun e => by cases e) (fun _ => ?_) | refine condT rfl rfl ?_ | refine condF rfl rfl ?_); refine go T_ok 200 rfl ?_)
  refine call rfl rfl rfl (ok _ (by decide) rfl) (known_any _) ?_
  rintro v wk ⟨rfl, qk⟩
  refine go T_ok 200 rfl ?_
  exact ret (ret1 (v := .bool true) Try.results3 rfl ⟨rfl, q.trans qk⟩)
 | true =>
 obtain ⟨n12, p8⟩ := hb rfl
 refine go T_ok 200 rfl ?_
 repeat ((first | refine ldA T_ok rfl rfl rfl rfl rfl (Bk.all B4) ?_ | refine ld T_ok rfl rfl rfl rfl (Bk.get B4 rfl) ?_ | refine guardA (b := true) rfl rfl rfl rfl (fun _ => ?_) (fun e => by cases e) | refine guardA (b := false) rfl rfl rfl rfl (fun e => by cases e) (fun _ => ?_) | refine condT rfl rfl ?_ | refine condF rfl rfl ?_); refine go T_ok 200 rfl ?_)
 by_cases h1 : s0 < 0
 ·rw [decide_eq_true h1]
  refine go T_ok 200 rfl ?_
  repeat ((first | refine ldA T_ok rfl rfl rfl rfl rfl (Bk.all B4) ?_ | refine ld T_ok rfl rfl rfl rfl (Bk.get B4 rfl) ?_ | refine guardA (b := true) rfl rfl rfl rfl (fun _ => ?_) (fun e => by cases e) | refine guardA (b := false) rfl rfl rfl rfl (fun e => by cases e) (fun _ => ?_) | refine condT rfl rfl ?_ | refine condF rfl rfl ?_); refine go T_ok 200 rfl ?_)
  refine call rfl rfl rfl (ok _ (by decide) rfl) (known_any _) ?_
  rintro v wk ⟨rfl, qk⟩
  refine go T_ok 200 rfl ?_
  exact ret (ret1 (v := .bool true) Try.results3 rfl ⟨rfl, q.trans qk⟩)
 rw [decide_eq_false h1]
 refine go T_ok 200 rfl ?_
 repeat ((first | refine ldA T_ok rfl rfl rfl rfl rfl (Bk.all B4) ?_ | refine ld T_ok rfl rfl rfl rfl (Bk.get B4 rfl) ?_ | refine guardA (b := true) rfl rfl rfl rfl (fun _ => ?_) (fun e => by cases e) | refine guardA (b := false) rfl rfl rfl rfl (fun e => by cases e) (fun _ => ?_) | refine condT rfl rfl ?_ | refine condF rfl rfl ?_); refine go T_ok 200 rfl ?_)
 by_cases h2 : 2 < s0
 ·rw [decide_eq_true h2]
  refine go T_ok 200 rfl ?_
  repeat ((first | refine ldA T_ok rfl rfl rfl rfl rfl (Bk.all B4) ?_ | refine ld T_ok rfl rfl rfl rfl (Bk.get B4 rfl) ?_ | refine guardA (b := true) rfl rfl rfl rfl (fun _ => ?_) (fun e => by cases e) | refine guardA (b := false) rfl rfl rfl rfl (fun e => by cases e) (fun _ => ?_) | refine condT rfl rfl ?_ | refine condF rfl rfl ?_); refine go T_ok 200 rfl ?_)
  refine call rfl rfl rfl (ok _ (by decide) rfl) (known_any _) ?_
  rintro v wk ⟨rfl, qk⟩
  refine go T_ok 200 rfl ?_
  exact ret (ret1 (v := .bool true) Try.results3 rfl ⟨rfl, q.trans qk⟩)
 rw [decide_eq_false h2]
 obtain ⟨s, rfl⟩ : ∃ k : Nat, s0 = (k : Int) := ⟨s0.toNat, by omega⟩
 refine go T_ok 200 rfl ?_
 repeat ((first | refine ldA T_ok rfl rfl rfl rfl rfl (Bk.all B4) ?_ | refine ld T_ok rfl rfl rfl rfl (Bk.get B4 rfl) ?_ | refine guardA (b := true) rfl rfl rfl rfl (fun _ => ?_) (fun e => by cases e) | refine guardA (b := false) rfl rfl rfl rfl (fun e => by cases e) (fun _ => ?_) | refine condT rfl rfl ?_ | refine condF rfl rfl ?_); refine go T_ok 200 rfl ?_)
 by_cases h3 : 10 < (o.l.length : Int)
 ·rw [decide_eq_true h3]
  refine go T_ok 200 rfl ?_
  repeat ((first | refine ldA T_ok rfl rfl rfl rfl rfl (Bk.all B4) ?_ | refine ld T_ok rfl rfl rfl rfl (Bk.get B4 rfl) ?_ | refine guardA (b := true) rfl rfl rfl rfl (fun _ => ?_) (fun e => by cases e) | refine guardA (b := false) rfl rfl rfl rfl (fun e => by cases e) (fun _ => ?_) | refine condT rfl rfl ?_ | refine condF rfl rfl ?_); refine go T_ok 200 rfl ?_)
  refine call rfl rfl rfl (ok _ (by decide) rfl) (known_any _) ?_
  rintro v wk ⟨rfl, qk⟩
  refine go T_ok 200 rfl ?_
  exact ret (ret1 (v := .bool true) Try.results3 rfl ⟨rfl, q.trans qk⟩)
 rw [decide_eq_false h3]
 refine go T_ok 200 rfl ?_
 repeat ((first | refine ldA T_ok rfl rfl rfl rfl rfl (Bk.all B4) ?_ | refine ld T_ok rfl rfl rfl rfl (Bk.get B4 rfl) ?_ | refine guardA (b := true) rfl rfl rfl rfl (fun _ => ?_) (fun e => by cases e) | refine guardA (b := false) rfl rfl rfl rfl (fun e => by cases e) (fun _ => ?_) | refine condT rfl rfl ?_ | refine condF rfl rfl ?_); refine go T_ok 200 rfl ?_)
 refine call rfl rfl rfl (ok _ (by decide) rfl) (rCampaign_any m _ (cpm Sm) (by omega)) ?_
 rintro x w ⟨⟨b, rfl, hb⟩, qk⟩
 have B4 := B4.no qk
 have So := So.no qk
 have Sm := Sm.no qk
 have q := q.trans qk
 cases b with
 | false =>
  refine go T_ok 200 rfl ?_
  repeat ((first | refine ldA T_ok rfl rfl rfl rfl rfl (Bk.all B4) ?_ | refine ld T_ok rfl rfl rfl rfl (Bk.get B4 rfl) ?_ | refine guardA (b := true) rfl rfl rfl rfl (fun _ => ?_) (fun e => by cases e) | refine guardA (b := false) rfl rfl rfl rfl (fun e => by cases e) (fun _ => ?_) | refine condT rfl rfl ?_ | refine condF rfl rfl ?_); refine go T_ok 200 rfl ?_)
  refine call rfl rfl rfl (ok _ (by decide) rfl) (known_any _) ?_
  rintro v wk ⟨rfl, qk⟩
  refine go T_ok 200 rfl ?_
  exact ret (ret1 (v := .bool true) Try.results3 rfl ⟨rfl, q.trans qk⟩)
 | true =>
 have hc := hb.1 rfl
 refine go T_ok 200 rfl ?_
 repeat ((first | refine ldA T_ok rfl rfl rfl rfl rfl (Bk.all B4) ?_ | refine ld T_ok rfl rfl rfl rfl (Bk.get B4 rfl) ?_ | refine guardA (b := true) rfl rfl rfl rfl (fun _ => ?_) (fun e => by cases e) | refine guardA (b := false) rfl rfl rfl rfl (fun e => by cases e) (fun _ => ?_) | refine condT rfl rfl ?_ | refine condF rfl rfl ?_); refine go T_ok 200 rfl ?_)
 refine call rfl rfl rfl (ok _ (by decide) rfl) (rLong_any m s _ hc (by omega)) ?_
 rintro x w ⟨⟨b, rfl, hb⟩, qk⟩
 have B4 := B4.no qk
 have So := So.no qk
 have Sm := Sm.no qk
 have q := q.trans qk
 cases b with
 | true =>
  refine go T_ok 200 rfl ?_
  repeat ((first | refine ldA T_ok rfl rfl rfl rfl rfl (Bk.all B4) ?_ | refine ld T_ok rfl rfl rfl rfl (Bk.get B4 rfl) ?_ | refine guardA (b := true) rfl rfl rfl rfl (fun _ => ?_) (fun e => by cases e) | refine guardA (b := false) rfl rfl rfl rfl (fun e => by cases e) (fun _ => ?_) | refine condT rfl rfl ?_ | refine condF rfl rfl ?_); refine go T_ok 200 rfl ?_)
  refine call rfl rfl rfl (ok _ (by decide) rfl) (known_any _) ?_
  rintro v wk ⟨rfl, qk⟩
  refine go T_ok 200 rfl ?_
  exact ret (ret1 (v := .bool true) Try.results3 rfl ⟨rfl, q.trans qk⟩)
 | false =>
 have hs := hb.1 rfl
 refine go T_ok 200 rfl ?_
 repeat ((first | refine ldA T_ok rfl rfl rfl rfl rfl (Bk.all B4) ?_ | refine ld T_ok rfl rfl rfl rfl (Bk.get B4 rfl) ?_ | refine guardA (b := true) rfl rfl rfl rfl (fun _ => ?_) (fun e => by cases e) | refine guardA (b := false) rfl rfl rfl rfl (fun e => by cases e) (fun _ => ?_) | refine condT rfl rfl ?_ | refine condF rfl rfl ?_); refine go T_ok 200 rfl ?_)
 by_cases h4 : more < 0
 ·rw [decide_eq_true h4]
  refine go T_ok 200 rfl ?_
  repeat ((first | refine ldA T_ok rfl rfl rfl rfl rfl (Bk.all B4) ?_ | refine ld T_ok rfl rfl rfl rfl (Bk.get B4 rfl) ?_ | refine guardA (b := true) rfl rfl rfl rfl (fun _ => ?_) (fun e => by cases e) | refine guardA (b := false) rfl rfl rfl rfl (fun e => by cases e) (fun _ => ?_) | refine condT rfl rfl ?_ | refine condF rfl rfl ?_); refine go T_ok 200 rfl ?_)
  refine call rfl rfl rfl (ok _ (by decide) rfl) (known_any _) ?_
  rintro v wk ⟨rfl, qk⟩
  refine go T_ok 200 rfl ?_
  exact ret (ret1 (v := .bool true) Try.results3 rfl ⟨rfl, q.trans qk⟩)
 rw [decide_eq_false h4]
 refine go T_ok 200 rfl ?_
 repeat ((first | refine ldA T_ok rfl rfl rfl rfl rfl (Bk.all B4) ?_ | refine ld T_ok rfl rfl rfl rfl (Bk.get B4 rfl) ?_ | refine guardA (b := true) rfl rfl rfl rfl (fun _ => ?_) (fun e => by cases e) | refine guardA (b := false) rfl rfl rfl rfl (fun e => by cases e) (fun _ => ?_) | refine condT rfl rfl ?_ | refine condF rfl rfl ?_); refine go T_ok 200 rfl ?_)
 refine call rfl rfl rfl (ok _ (by decide) rfl) (Best_ok m s _ (cpm Sm) hc hs) ?_
 rintro x w ⟨A5, c5, b5, e5, rfl, qk, own5, hls⟩
 have B4 := B4.no qk
 have So := So.no qk
 have Sm := Sm.no qk
 have q := q.trans qk
 obtain ⟨t1, t2⟩ := bestOf_top m.c s (Go.Proofs.Yteenhfnamjbaiaa.moreL m.c 3 0 [])
 rw [← e5] at t1 t2
 have S5 := own_sl own5
 cases b5 with
 | none =>
  have hno : ¬ ChOk m.c o.l := fun h => by
   have := mem_all.2 h
   rw [t1 rfl] at this
   cases this
  refine go T_ok 200 rfl ?_
  repeat ((first | refine ldA T_ok rfl rfl rfl rfl rfl (Bk.all B4) ?_ | refine ld T_ok rfl rfl rfl rfl (Bk.get B4 rfl) ?_ | refine guardA (b := true) rfl rfl rfl rfl (fun _ => ?_) (fun e => by cases e) | refine guardA (b := false) rfl rfl rfl rfl (fun e => by cases e) (fun _ => ?_) | refine condT rfl rfl ?_ | refine condF rfl rfl ?_); refine go T_ok 200 rfl ?_)
  have yB4 := B4.lt
  have ySo := So.2.1
  have ySm := Sm.2.1
  have yq := q.size
  refine nw rfl rfl (z := .agg #[I 0, I 0]) (by kernel_rfl) (cs := [I 0, I 0]) rfl ?_
  intro g10 w hg10 hs10 qk B10
  have B4 := B4.no qk
  have So := So.no qk
  have Sm := Sm.no qk
  have q := q.trans qk
  refine go T_ok 200 rfl ?_
  refine stA T_ok rfl rfl rfl rfl (vs := [I 0, I 0]) rfl rfl rfl B10 rfl ?_
  intro w qk B10 hz10
  have B10 : Bk w g10 30 ([I 0, I 0]) := B10
  have B4 := Bk.keep B4 qk (by omega)
  have So := Sl.keep So qk (fun k hk e => by omega)
  have Sm := Sl.keep Sm qk (fun k hk e => by omega)
  have q := q.step qk (fun k hk e => by omega)
  refine go T_ok 200 rfl ?_
  repeat ((first | refine ldA T_ok rfl rfl rfl rfl rfl (Bk.all B4) ?_ | refine ldA T_ok rfl rfl rfl rfl rfl (Bk.all B10) ?_ | refine ld T_ok rfl rfl rfl rfl (Bk.get B4 rfl) ?_ | refine ld T_ok rfl rfl rfl rfl (Bk.get B10 rfl) ?_ | refine guardA (b := true) rfl rfl rfl rfl (fun _ => ?_) (fun e => by cases e) | refine guardA (b := false) rfl rfl rfl rfl (fun e => by cases e) (fun _ => ?_) | refine condT rfl rfl ?_ | refine condF rfl rfl ?_); refine go T_ok 200 rfl ?_)
  refine call rfl rfl rfl (ok _ (by decide) rfl) (rChoice_any m o.l o.A o.c _ _ (cpm Sm) hc So (by omega)) ?_
  rintro x w ⟨⟨b, rfl, hb⟩, qk⟩
  have B4 := B4.no qk
  have So := So.no qk
  have Sm := Sm.no qk
  have B10 := B10.no qk
  have q := q.trans qk
  obtain rfl : b = false := Bool.eq_false_iff.2 fun h => hno (hb.1 h)
  refine go T_ok 200 rfl ?_
  repeat ((first | refine ldA T_ok rfl rfl rfl rfl rfl (Bk.all B4) ?_ | refine ldA T_ok rfl rfl rfl rfl rfl (Bk.all B10) ?_ | refine ld T_ok rfl rfl rfl rfl (Bk.get B4 rfl) ?_ | refine ld T_ok rfl rfl rfl rfl (Bk.get B10 rfl) ?_ | refine guardA (b := true) rfl rfl rfl rfl (fun _ => ?_) (fun e => by cases e) | refine guardA (b := false) rfl rfl rfl rfl (fun e => by cases e) (fun _ => ?_) | refine condT rfl rfl ?_ | refine condF rfl rfl ?_); refine go T_ok 200 rfl ?_)
  refine call rfl rfl rfl (ok _ (by decide) rfl) (known_any _) ?_
  rintro v wk ⟨rfl, qk⟩
  refine go T_ok 200 rfl ?_
  exact ret (ret1 (v := .bool true) Try.results3 rfl ⟨rfl, q.trans qk⟩)
 | some b5 =>
 obtain ⟨t3, t4⟩ := t2 b5 rfl
 have hch := mem_all.1 t3
 have hl5 := ls_ch hch
 have od5 := odds_od hc hs false hl5
 have S5 : Sl w w.heap.size 1 A5 b5.length (iL b5) := S5
 obtain ⟨o5, ho5⟩ : ∃ x, x = oddsP m.c s false b5 := ⟨_, rfl⟩
 have q51 := od5.w0; have q52 := od5.w1; have q53 := od5.a0; have q54 := od5.a1
 refine go T_ok 200 rfl ?_
 repeat ((first | refine ldA T_ok rfl rfl rfl rfl rfl (Bk.all B4) ?_ | refine ld T_ok rfl rfl rfl rfl (Bk.get B4 rfl) ?_ | refine guardA (b := true) rfl rfl rfl rfl (fun _ => ?_) (fun e => by cases e) | refine guardA (b := false) rfl rfl rfl rfl (fun e => by cases e) (fun _ => ?_) | refine condT rfl rfl ?_ | refine condF rfl rfl ?_); refine go T_ok 200 rfl ?_)
 have yB4 := B4.lt
 have ySo := So.2.1
 have ySm := Sm.2.1
 have yS5 := S5.2.1
 have yq := q.size
 refine nw rfl rfl (z := .agg #[I 0, I 0]) (by kernel_rfl) (cs := [I 0, I 0]) rfl ?_
 intro g10 w hg10 hs10 qk B10
 have B4 := B4.no qk
 have So := So.no qk
 have Sm := Sm.no qk
 have S5 := S5.no qk
 have q := q.trans qk
 refine go T_ok 200 rfl ?_
 refine stA T_ok rfl rfl rfl rfl (vs := odL (oddsP m.c s false b5)) rfl rfl rfl B10 rfl ?_
 intro w qk B10 hz10
 have B10 : Bk w g10 30 (odL (oddsP m.c s false b5)) := B10
 have B4 := Bk.keep B4 qk (by omega)
 have So := Sl.keep So qk (fun k hk e => by omega)
 have Sm := Sl.keep Sm qk (fun k hk e => by omega)
 have S5 := Sl.keep S5 qk (fun k hk e => by omega)
 have q := q.step qk (fun k hk e => by omega)
 refine go T_ok 200 rfl ?_
 repeat ((first | refine ldA T_ok rfl rfl rfl rfl rfl (Bk.all B4) ?_ | refine ldA T_ok rfl rfl rfl rfl rfl (Bk.all B10) ?_ | refine ld T_ok rfl rfl rfl rfl (Bk.get B4 rfl) ?_ | refine ld T_ok rfl rfl rfl rfl (Bk.get B10 rfl) ?_ | refine guardA (b := true) rfl rfl rfl rfl (fun _ => ?_) (fun e => by cases e) | refine guardA (b := false) rfl rfl rfl rfl (fun e => by cases e) (fun _ => ?_) | refine condT rfl rfl ?_ | refine condF rfl rfl ?_); refine go T_ok 200 rfl ?_)
 refine call rfl rfl rfl (ok _ (by decide) rfl) (Power_ok m s b5 A5 c5 _ _ (cpm Sm) hc hs hch S5) ?_
 rintro x w ⟨rfl, qk⟩
 have B4 := B4.no qk
 have B10 := B10.no qk
 have So := So.no qk
 have Sm := Sm.no qk
 have S5 := S5.no qk
 have q := q.trans qk
 refine go T_ok 200 rfl ?_
 repeat ((first | refine ldA T_ok rfl rfl rfl rfl rfl (Bk.all B4) ?_ | refine ldA T_ok rfl rfl rfl rfl rfl (Bk.all B10) ?_ | refine ld T_ok rfl rfl rfl rfl (Bk.get B4 rfl) ?_ | refine ld T_ok rfl rfl rfl rfl (Bk.get B10 rfl) ?_ | refine guardA (b := true) rfl rfl rfl rfl (fun _ => ?_) (fun e => by cases e) | refine guardA (b := false) rfl rfl rfl rfl (fun e => by cases e) (fun _ => ?_) | refine condT rfl rfl ?_ | refine condF rfl rfl ?_); refine go T_ok 200 rfl ?_)
 have yB4 := B4.lt
 have yB10 := B10.lt
 have ySo := So.2.1
 have ySm := Sm.2.1
 have yS5 := S5.2.1
 have yq := q.size
 refine nw rfl rfl (z := .agg #[I 0, I 0]) (by kernel_rfl) (cs := [I 0, I 0]) rfl ?_
 intro g12 w hg12 hs12 qk B12
 have B4 := B4.no qk
 have B10 := B10.no qk
 have So := So.no qk
 have Sm := Sm.no qk
 have S5 := S5.no qk
 have q := q.trans qk
 refine go T_ok 200 rfl ?_
 refine stA T_ok rfl rfl rfl rfl (vs := odL (oddsP m.c s false b5)) rfl rfl rfl B12 rfl ?_
 intro w qk B12 hz12
 have B12 : Bk w g12 30 (odL (oddsP m.c s false b5)) := B12
 have B4 := Bk.keep B4 qk (by omega)
 have B10 := Bk.keep B10 qk (by omega)
 have So := Sl.keep So qk (fun k hk e => by omega)
 have Sm := Sl.keep Sm qk (fun k hk e => by omega)
 have S5 := Sl.keep S5 qk (fun k hk e => by omega)
 have q := q.step qk (fun k hk e => by omega)
 refine go T_ok 200 rfl ?_
 repeat ((first | refine ldA T_ok rfl rfl rfl rfl rfl (Bk.all B4) ?_ | refine ldA T_ok rfl rfl rfl rfl rfl (Bk.all B10) ?_ | refine ldA T_ok rfl rfl rfl rfl rfl (Bk.all B12) ?_ | refine ld T_ok rfl rfl rfl rfl (Bk.get B4 rfl) ?_ | refine ld T_ok rfl rfl rfl rfl (Bk.get B10 rfl) ?_ | refine ld T_ok rfl rfl rfl rfl (Bk.get B12 rfl) ?_ | refine guardA (b := true) rfl rfl rfl rfl (fun _ => ?_) (fun e => by cases e) | refine guardA (b := false) rfl rfl rfl rfl (fun e => by cases e) (fun _ => ?_) | refine condT rfl rfl ?_ | refine condF rfl rfl ?_); refine go T_ok 200 rfl ?_)
 refine neqS (l' := [(oddsP m.c s false b5).1, (oddsP m.c s false b5).2]) (m := [(oddsP m.c s false b5).1, (oddsP m.c s false b5).2]) rfl rfl (by kernel_rfl) rfl rfl rfl ?_
 rw [show (!([(oddsP m.c s false b5).1, (oddsP m.c s false b5).2] == [(oddsP m.c s false b5).1, (oddsP m.c s false b5).2])) = false by simp]
 refine go T_ok 200 rfl ?_
 repeat ((first | refine ldA T_ok rfl rfl rfl rfl rfl (Bk.all B4) ?_ | refine ldA T_ok rfl rfl rfl rfl rfl (Bk.all B10) ?_ | refine ldA T_ok rfl rfl rfl rfl rfl (Bk.all B12) ?_ | refine ld T_ok rfl rfl rfl rfl (Bk.get B4 rfl) ?_ | refine ld T_ok rfl rfl rfl rfl (Bk.get B10 rfl) ?_ | refine ld T_ok rfl rfl rfl rfl (Bk.get B12 rfl) ?_ | refine guardA (b := true) rfl rfl rfl rfl (fun _ => ?_) (fun e => by cases e) | refine guardA (b := false) rfl rfl rfl rfl (fun e => by cases e) (fun _ => ?_) | refine condT rfl rfl ?_ | refine condF rfl rfl ?_); refine go T_ok 200 rfl ?_)
 rw [decide_eq_false (show ¬ (oddsP m.c s false b5).2 < 1 by omega)]
 refine go T_ok 200 rfl ?_
 repeat ((first | refine ldA T_ok rfl rfl rfl rfl rfl (Bk.all B4) ?_ | refine ldA T_ok rfl rfl rfl rfl rfl (Bk.all B10) ?_ | refine ldA T_ok rfl rfl rfl rfl rfl (Bk.all B12) ?_ | refine ld T_ok rfl rfl rfl rfl (Bk.get B4 rfl) ?_ | refine ld T_ok rfl rfl rfl rfl (Bk.get B10 rfl) ?_ | refine ld T_ok rfl rfl rfl rfl (Bk.get B12 rfl) ?_ | refine guardA (b := true) rfl rfl rfl rfl (fun _ => ?_) (fun e => by cases e) | refine guardA (b := false) rfl rfl rfl rfl (fun e => by cases e) (fun _ => ?_) | refine condT rfl rfl ?_ | refine condF rfl rfl ?_); refine go T_ok 200 rfl ?_)
 refine call rfl rfl rfl (ok _ (by decide) rfl) (rChoice_any m o.l o.A o.c _ _ (cpm Sm) hc So (by omega)) ?_
 rintro x w ⟨⟨b, rfl, hb⟩, qk⟩
 have B4 := B4.no qk
 have B10 := B10.no qk
 have B12 := B12.no qk
 have So := So.no qk
 have Sm := Sm.no qk
 have S5 := S5.no qk
 have q := q.trans qk
 cases b with
 | false =>
  refine go T_ok 200 rfl ?_
  repeat ((first | refine ldA T_ok rfl rfl rfl rfl rfl (Bk.all B4) ?_ | refine ldA T_ok rfl rfl rfl rfl rfl (Bk.all B10) ?_ | refine ldA T_ok rfl rfl rfl rfl rfl (Bk.all B12) ?_ | refine ld T_ok rfl rfl rfl rfl (Bk.get B4 rfl) ?_ | refine ld T_ok rfl rfl rfl rfl (Bk.get B10 rfl) ?_ | refine ld T_ok rfl rfl rfl rfl (Bk.get B12 rfl) ?_ | refine guardA (b := true) rfl rfl rfl rfl (fun _ => ?_) (fun e => by cases e) | refine guardA (b := false) rfl rfl rfl rfl (fun e => by cases e) (fun _ => ?_) | refine condT rfl rfl ?_ | refine condF rfl rfl ?_); refine go T_ok 200 rfl ?_)
  have y4 := B4.lt; have y10 := B10.lt; have yo := So.2.1; have ym := Sm.2.1; have y5 := S5.2.1; have yq := q.size
  refine nw rfl rfl (z := .agg #[I 0, I 0, I 0, .slice none 0 0]) (by kernel_rfl) (cs := [I 0, I 0, I 0, .slice none 0 0]) rfl ?_
  intro g16 w hg16 hs16 qk B16
  have B4 := B4.no qk
  have B10 := B10.no qk
  have So := So.no qk
  have Sm := Sm.no qk
  have S5 := S5.no qk
  have q := q.trans qk
  refine go T_ok 200 rfl ?_
  refine stA T_ok rfl rfl rfl rfl (vs := cpL m) rfl rfl rfl B16 rfl ?_
  intro w qk B16 hz16
  have B16 : Bk w g16 24 (cpL m) := B16
  have B4 := Bk.keep B4 qk (by omega)
  have B10 := Bk.keep B10 qk (by omega)
  have So := Sl.keep So qk (fun k hk e => by omega)
  have Sm := Sl.keep Sm qk (fun k hk e => by omega)
  have S5 := Sl.keep S5 qk (fun k hk e => by omega)
  have q := q.step qk (fun k hk e => by omega)
  refine go T_ok 200 rfl ?_
  repeat ((first | refine ldA T_ok rfl rfl rfl rfl rfl (Bk.all B4) ?_ | refine ldA T_ok rfl rfl rfl rfl rfl (Bk.all B10) ?_ | refine ldA T_ok rfl rfl rfl rfl rfl (Bk.all B16) ?_ | refine ld T_ok rfl rfl rfl rfl (Bk.get B4 rfl) ?_ | refine ld T_ok rfl rfl rfl rfl (Bk.get B10 rfl) ?_ | refine ld T_ok rfl rfl rfl rfl (Bk.get B16 rfl) ?_ | refine guardA (b := true) rfl rfl rfl rfl (fun _ => ?_) (fun e => by cases e) | refine guardA (b := false) rfl rfl rfl rfl (fun e => by cases e) (fun _ => ?_) | refine condT rfl rfl ?_ | refine condF rfl rfl ?_); refine go T_ok 200 rfl ?_)
  have v0 := hc.b0; have v1 := hc.b1
  rw [w64_id (x := 8000000 - m.c.budget) (by omega) (by omega)]
  obtain ⟨bb, hbb⟩ : ∃ b, b = m.c.budget + min more (8000000 - m.c.budget) := ⟨_, rfl⟩
  rw [w64_id (x := m.c.budget + min more (8000000 - m.c.budget)) (by omega) (by omega), ← hbb]
  refine st T_ok rfl rfl rfl rfl (v := I bb) rfl rfl B16 rfl ?_
  intro w qk B16 hzz
  have B16 : Bk w g16 24 (cpL ⟨richC m.c bb, m.A, m.cap⟩) := B16
  have B4 := Bk.keep B4 qk (by omega)
  have B10 := Bk.keep B10 qk (by omega)
  have So := Sl.keep So qk (fun k hk e => by omega)
  have Sm := Sl.keep Sm qk (fun k hk e => by omega)
  have S5 := Sl.keep S5 qk (fun k hk e => by omega)
  have q := q.step qk (fun k hk e => by omega)
  have hr := rich_ok hc (b := bb) (by omega) (by omega)
  refine go T_ok 200 rfl ?_
  repeat ((first | refine ldA T_ok rfl rfl rfl rfl rfl (Bk.all B4) ?_ | refine ldA T_ok rfl rfl rfl rfl rfl (Bk.all B10) ?_ | refine ldA T_ok rfl rfl rfl rfl rfl (Bk.all B16) ?_ | refine ld T_ok rfl rfl rfl rfl (Bk.get B4 rfl) ?_ | refine ld T_ok rfl rfl rfl rfl (Bk.get B10 rfl) ?_ | refine ld T_ok rfl rfl rfl rfl (Bk.get B16 rfl) ?_ | refine guardA (b := true) rfl rfl rfl rfl (fun _ => ?_) (fun e => by cases e) | refine guardA (b := false) rfl rfl rfl rfl (fun e => by cases e) (fun _ => ?_) | refine condT rfl rfl ?_ | refine condF rfl rfl ?_); refine go T_ok 200 rfl ?_)
  refine call rfl rfl rfl (ok _ (by decide) rfl) (Best_ok ⟨richC m.c bb, m.A, m.cap⟩ s _ (cpm Sm) hr ⟨hs.n, hs.w⟩) ?_
  rintro x w ⟨A7, c7, b7, e7, rfl, qk, own7, hl7⟩
  have B4 := B4.no qk
  have B10 := B10.no qk
  have So := So.no qk
  have Sm := Sm.no qk
  have S5 := S5.no qk
  have B16 := B16.no qk
  have q := q.trans qk
  obtain ⟨t5, t6⟩ := bestOf_top (richC m.c bb) s (Go.Proofs.Yteenhfnamjbaiaa.moreL (richC m.c bb) 3 0 [])
  rw [← e7] at t5 t6
  have hin : b5 ∈ Go.Proofs.Yteenhfnamjbaiaa.moreL (richC m.c bb) 3 0 [] := mem_all.2 (rich_ch (by omega) hch)
  cases b7 with
  | none => rw [t5 rfl] at hin; cases hin
  | some b7 =>
  have hl7 : LsOk m.c b7 := hl7 b7 rfl
  have hv7 : valP m.c s b5 ≤ valP m.c s b7 := ((t6 b7 rfl).2 b5 hin).1
  have od7 := odds_od hc hs false hl7
  have q71 := od7.a0
  refine go T_ok 200 rfl ?_
  repeat ((first | refine ldA T_ok rfl rfl rfl rfl rfl (Bk.all B4) ?_ | refine ldA T_ok rfl rfl rfl rfl rfl (Bk.all B10) ?_ | refine ldA T_ok rfl rfl rfl rfl rfl (Bk.all B16) ?_ | refine ld T_ok rfl rfl rfl rfl (Bk.get B4 rfl) ?_ | refine ld T_ok rfl rfl rfl rfl (Bk.get B10 rfl) ?_ | refine ld T_ok rfl rfl rfl rfl (Bk.get B16 rfl) ?_ | refine guardA (b := true) rfl rfl rfl rfl (fun _ => ?_) (fun e => by cases e) | refine guardA (b := false) rfl rfl rfl rfl (fun e => by cases e) (fun _ => ?_) | refine condT rfl rfl ?_ | refine condF rfl rfl ?_); refine go T_ok 200 rfl ?_)
  have yB4 := B4.lt
  have yB10 := B10.lt
  have ySo := So.2.1
  have ySm := Sm.2.1
  have yS5 := S5.2.1
  have yB16 := B16.lt
  have yq := q.size
  refine nw rfl rfl (z := .agg #[I 0, I 0]) (by kernel_rfl) (cs := [I 0, I 0]) rfl ?_
  intro g18 w hg18 hs18 qk B18
  have B4 := B4.no qk
  have B10 := B10.no qk
  have So := So.no qk
  have Sm := Sm.no qk
  have S5 := S5.no qk
  have B16 := B16.no qk
  have q := q.trans qk
  refine go T_ok 200 rfl ?_
  refine stA T_ok rfl rfl rfl rfl (vs := odL (oddsP m.c s false b7)) rfl rfl rfl B18 rfl ?_
  intro w qk B18 hz18
  have B18 : Bk w g18 30 (odL (oddsP m.c s false b7)) := B18
  have B4 := Bk.keep B4 qk (by omega)
  have B10 := Bk.keep B10 qk (by omega)
  have So := Sl.keep So qk (fun k hk e => by omega)
  have Sm := Sl.keep Sm qk (fun k hk e => by omega)
  have S5 := Sl.keep S5 qk (fun k hk e => by omega)
  have B16 := Bk.keep B16 qk (by omega)
  have q := q.step qk (fun k hk e => by omega)
  refine go T_ok 200 rfl ?_
  repeat ((first | refine ldA T_ok rfl rfl rfl rfl rfl (Bk.all B4) ?_ | refine ldA T_ok rfl rfl rfl rfl rfl (Bk.all B10) ?_ | refine ldA T_ok rfl rfl rfl rfl rfl (Bk.all B16) ?_ | refine ldA T_ok rfl rfl rfl rfl rfl (Bk.all B18) ?_ | refine ld T_ok rfl rfl rfl rfl (Bk.get B4 rfl) ?_ | refine ld T_ok rfl rfl rfl rfl (Bk.get B10 rfl) ?_ | refine ld T_ok rfl rfl rfl rfl (Bk.get B16 rfl) ?_ | refine ld T_ok rfl rfl rfl rfl (Bk.get B18 rfl) ?_ | refine guardA (b := true) rfl rfl rfl rfl (fun _ => ?_) (fun e => by cases e) | refine guardA (b := false) rfl rfl rfl rfl (fun e => by cases e) (fun _ => ?_) | refine condT rfl rfl ?_ | refine condF rfl rfl ?_); refine go T_ok 200 rfl ?_)
  rw [decide_eq_true (show 1 ≤ (oddsP m.c s false b7).2 by omega)]
  refine go T_ok 200 rfl ?_
  repeat ((first | refine ldA T_ok rfl rfl rfl rfl rfl (Bk.all B4) ?_ | refine ldA T_ok rfl rfl rfl rfl rfl (Bk.all B10) ?_ | refine ldA T_ok rfl rfl rfl rfl rfl (Bk.all B16) ?_ | refine ldA T_ok rfl rfl rfl rfl rfl (Bk.all B18) ?_ | refine ld T_ok rfl rfl rfl rfl (Bk.get B4 rfl) ?_ | refine ld T_ok rfl rfl rfl rfl (Bk.get B10 rfl) ?_ | refine ld T_ok rfl rfl rfl rfl (Bk.get B16 rfl) ?_ | refine ld T_ok rfl rfl rfl rfl (Bk.get B18 rfl) ?_ | refine guardA (b := true) rfl rfl rfl rfl (fun _ => ?_) (fun e => by cases e) | refine guardA (b := false) rfl rfl rfl rfl (fun e => by cases e) (fun _ => ?_) | refine condT rfl rfl ?_ | refine condF rfl rfl ?_); refine go T_ok 200 rfl ?_)
  refine call rfl rfl rfl (ok _ (by decide) rfl) (rLess_any (oddsP m.c s false b7) (oddsP m.c s false b5) _ od7 od5) ?_
  rintro x w ⟨rfl, qk⟩
  have B4 := B4.no qk
  have B10 := B10.no qk
  have So := So.no qk
  have Sm := Sm.no qk
  have S5 := S5.no qk
  have B16 := B16.no qk
  have B18 := B18.no qk
  have q := q.trans qk
  rw [less_val hc hl7 hl5, decide_eq_false (show ¬ valP m.c s b7 < valP m.c s b5 by omega)]
  refine go T_ok 200 rfl ?_
  repeat ((first | refine ldA T_ok rfl rfl rfl rfl rfl (Bk.all B4) ?_ | refine ldA T_ok rfl rfl rfl rfl rfl (Bk.all B10) ?_ | refine ldA T_ok rfl rfl rfl rfl rfl (Bk.all B16) ?_ | refine ldA T_ok rfl rfl rfl rfl rfl (Bk.all B18) ?_ | refine ld T_ok rfl rfl rfl rfl (Bk.get B4 rfl) ?_ | refine ld T_ok rfl rfl rfl rfl (Bk.get B10 rfl) ?_ | refine ld T_ok rfl rfl rfl rfl (Bk.get B16 rfl) ?_ | refine ld T_ok rfl rfl rfl rfl (Bk.get B18 rfl) ?_ | refine guardA (b := true) rfl rfl rfl rfl (fun _ => ?_) (fun e => by cases e) | refine guardA (b := false) rfl rfl rfl rfl (fun e => by cases e) (fun _ => ?_) | refine condT rfl rfl ?_ | refine condF rfl rfl ?_); refine go T_ok 200 rfl ?_)
  refine call rfl rfl rfl (ok _ (by decide) rfl) (known_any _) ?_
  rintro v wk ⟨rfl, qk⟩
  refine go T_ok 200 rfl ?_
  exact ret (ret1 (v := .bool true) Try.results3 rfl ⟨rfl, q.trans qk⟩)
 | true =>
 have hco := hb.1 rfl
 have hlo := ls_ch hco
 have odo := odds_od hc hs false hlo
 have qo3 := odo.a0
 obtain ⟨v1, v2⟩ := t4 o.l (mem_all.2 hco)
 refine go T_ok 200 rfl ?_
 repeat ((first | refine ldA T_ok rfl rfl rfl rfl rfl (Bk.all B4) ?_ | refine ldA T_ok rfl rfl rfl rfl rfl (Bk.all B10) ?_ | refine ld T_ok rfl rfl rfl rfl (Bk.get B4 rfl) ?_ | refine ld T_ok rfl rfl rfl rfl (Bk.get B10 rfl) ?_ | refine guardA (b := true) rfl rfl rfl rfl (fun _ => ?_) (fun e => by cases e) | refine guardA (b := false) rfl rfl rfl rfl (fun e => by cases e) (fun _ => ?_) | refine condT rfl rfl ?_ | refine condF rfl rfl ?_); refine go T_ok 200 rfl ?_)
 refine call rfl rfl rfl (ok _ (by decide) rfl) (Power_ok m s o.l o.A o.c _ _ (cpm Sm) hc hs hco So) ?_
 rintro x w ⟨rfl, qk⟩
 have B4 := B4.no qk
 have B10 := B10.no qk
 have So := So.no qk
 have Sm := Sm.no qk
 have S5 := S5.no qk
 have q := q.trans qk
 refine go T_ok 200 rfl ?_
 repeat ((first | refine ldA T_ok rfl rfl rfl rfl rfl (Bk.all B4) ?_ | refine ldA T_ok rfl rfl rfl rfl rfl (Bk.all B10) ?_ | refine ld T_ok rfl rfl rfl rfl (Bk.get B4 rfl) ?_ | refine ld T_ok rfl rfl rfl rfl (Bk.get B10 rfl) ?_ | refine guardA (b := true) rfl rfl rfl rfl (fun _ => ?_) (fun e => by cases e) | refine guardA (b := false) rfl rfl rfl rfl (fun e => by cases e) (fun _ => ?_) | refine condT rfl rfl ?_ | refine condF rfl rfl ?_); refine go T_ok 200 rfl ?_)
 have yB4 := B4.lt
 have yB10 := B10.lt
 have ySo := So.2.1
 have ySm := Sm.2.1
 have yS5 := S5.2.1
 have yq := q.size
 refine nw rfl rfl (z := .agg #[I 0, I 0]) (by kernel_rfl) (cs := [I 0, I 0]) rfl ?_
 intro g14 w hg14 hs14 qk B14
 have B4 := B4.no qk
 have B10 := B10.no qk
 have So := So.no qk
 have Sm := Sm.no qk
 have S5 := S5.no qk
 have q := q.trans qk
 refine go T_ok 200 rfl ?_
 refine stA T_ok rfl rfl rfl rfl (vs := odL (oddsP m.c s false o.l)) rfl rfl rfl B14 rfl ?_
 intro w qk B14 hz14
 have B14 : Bk w g14 30 (odL (oddsP m.c s false o.l)) := B14
 have B4 := Bk.keep B4 qk (by omega)
 have B10 := Bk.keep B10 qk (by omega)
 have So := Sl.keep So qk (fun k hk e => by omega)
 have Sm := Sl.keep Sm qk (fun k hk e => by omega)
 have S5 := Sl.keep S5 qk (fun k hk e => by omega)
 have q := q.step qk (fun k hk e => by omega)
 refine go T_ok 200 rfl ?_
 refine draw mixed (fun w' => Chg No w w') ([0,1,2,3,4,5,6,7,8,9].map (fun i => (i, true)) ++ [(10, false)] ++ [11,12,13,14].map (fun i => (i, true)) ++ [(15, false)] ++ [16,17,18,19,21,22].map (fun i => (i, true)) ++ [(20, false)] ++ [(23, false)] ++ [24,25,26].map (fun i => (i, true))) rfl (by kernel_rfl) (Chg.drew _) ?_
 refine goH T_ok 200 rfl ?_
 repeat (first | (refine guardHA (b := true) rfl rfl rfl rfl (fun _ => ?_) (fun h => by cases h); refine goH T_ok 200 rfl ?_) | (refine guardHA (b := false) rfl rfl rfl rfl (fun h => by cases h) (fun _ => ?_); refine goH T_ok 200 rfl ?_))
 refine quietH rfl (fun w' hS => r_load T_ok rfl rfl rfl (Bk.get (B14.no hS) rfl)) ?_
 refine goH T_ok 200 rfl ?_
 repeat (first | (refine guardHA (b := true) rfl rfl rfl rfl (fun _ => ?_) (fun h => by cases h); refine goH T_ok 200 rfl ?_) | (refine guardHA (b := false) rfl rfl rfl rfl (fun h => by cases h) (fun _ => ?_); refine goH T_ok 200 rfl ?_))
 rw [decide_eq_false (show ¬ (oddsP m.c s false o.l).2 < 1 by omega)]
 refine goH T_ok 200 rfl ?_
 repeat (first | (refine guardHA (b := true) rfl rfl rfl rfl (fun _ => ?_) (fun h => by cases h); refine goH T_ok 200 rfl ?_) | (refine guardHA (b := false) rfl rfl rfl rfl (fun h => by cases h) (fun _ => ?_); refine goH T_ok 200 rfl ?_))
 refine quietH rfl (fun w' hS => r_loadA T_ok rfl rfl rfl rfl (B10.no hS).all) ?_
 refine goH T_ok 200 rfl ?_
 repeat (first | (refine guardHA (b := true) rfl rfl rfl rfl (fun _ => ?_) (fun h => by cases h); refine goH T_ok 200 rfl ?_) | (refine guardHA (b := false) rfl rfl rfl rfl (fun h => by cases h) (fun _ => ?_); refine goH T_ok 200 rfl ?_))
 refine quietH rfl (fun w' hS => r_loadA T_ok rfl rfl rfl rfl (B14.no hS).all) ?_
 refine goH T_ok 200 rfl ?_
 repeat (first | (refine guardHA (b := true) rfl rfl rfl rfl (fun _ => ?_) (fun h => by cases h); refine goH T_ok 200 rfl ?_) | (refine guardHA (b := false) rfl rfl rfl rfl (fun h => by cases h) (fun _ => ?_); refine goH T_ok 200 rfl ?_))
 have qd := Chg.drew w
 refine callE rfl rfl rfl (ok _ (by decide) rfl) (rLess_any (oddsP m.c s false b5) (oddsP m.c s false o.l) _ od5 odo) ?_
 rintro x w1 ⟨rfl, qk⟩
 have qd := qd.trans qk
 refine ⟨qd, ?_⟩
 rw [less_val hc hl5 hlo, decide_eq_false (show ¬ valP m.c s b5 < valP m.c s o.l by omega)]
 refine goH T_ok 200 rfl ?_
 repeat (first | (refine guardHA (b := true) rfl rfl rfl rfl (fun _ => ?_) (fun h => by cases h); refine goH T_ok 200 rfl ?_) | (refine guardHA (b := false) rfl rfl rfl rfl (fun h => by cases h) (fun _ => ?_); refine goH T_ok 200 rfl ?_))
 refine quietH rfl (fun w' hS => r_loadA T_ok rfl rfl rfl rfl (B14.no hS).all) ?_
 refine goH T_ok 200 rfl ?_
 repeat (first | (refine guardHA (b := true) rfl rfl rfl rfl (fun _ => ?_) (fun h => by cases h); refine goH T_ok 200 rfl ?_) | (refine guardHA (b := false) rfl rfl rfl rfl (fun h => by cases h) (fun _ => ?_); refine goH T_ok 200 rfl ?_))
 refine quietH rfl (fun w' hS => r_loadA T_ok rfl rfl rfl rfl (B10.no hS).all) ?_
 refine goH T_ok 200 rfl ?_
 repeat (first | (refine guardHA (b := true) rfl rfl rfl rfl (fun _ => ?_) (fun h => by cases h); refine goH T_ok 200 rfl ?_) | (refine guardHA (b := false) rfl rfl rfl rfl (fun h => by cases h) (fun _ => ?_); refine goH T_ok 200 rfl ?_))
 refine callE rfl rfl rfl (ok _ (by decide) rfl) (rLess_any (oddsP m.c s false o.l) (oddsP m.c s false b5) _ odo od5) ?_
 rintro x w2 ⟨rfl, qk⟩
 have qd := qd.trans qk
 refine ⟨qd, ?_⟩
 rw [less_val hc hlo hl5]
 by_cases hv : valP m.c s o.l < valP m.c s b5
 ·rw [decide_eq_true hv]
  refine goH T_ok 200 rfl ?_
  repeat (first | (refine guardHA (b := true) rfl rfl rfl rfl (fun _ => ?_) (fun h => by cases h); refine goH T_ok 200 rfl ?_) | (refine guardHA (b := false) rfl rfl rfl rfl (fun h => by cases h) (fun _ => ?_); refine goH T_ok 200 rfl ?_))
  refine passE rfl ?_
  refine goH T_ok 200 rfl ?_
  repeat (first | (refine guardHA (b := true) rfl rfl rfl rfl (fun _ => ?_) (fun h => by cases h); refine goH T_ok 200 rfl ?_) | (refine guardHA (b := false) rfl rfl rfl rfl (fun h => by cases h) (fun _ => ?_); refine goH T_ok 200 rfl ?_))
  refine passE rfl ?_
  refine goH T_ok 200 rfl ?_
  repeat (first | (refine guardHA (b := true) rfl rfl rfl rfl (fun _ => ?_) (fun h => by cases h); refine goH T_ok 200 rfl ?_) | (refine guardHA (b := false) rfl rfl rfl rfl (fun h => by cases h) (fun _ => ?_); refine goH T_ok 200 rfl ?_))
  refine endH ?_
  have q := q.trans qd
  have B4 := B4.no qd
  have B10 := B10.no qd
  have So := So.no qd
  have Sm := Sm.no qd
  have S5 := S5.no qd
  refine go T_ok 200 rfl ?_
  repeat ((first | refine ldA T_ok rfl rfl rfl rfl rfl (Bk.all B4) ?_ | refine ldA T_ok rfl rfl rfl rfl rfl (Bk.all B10) ?_ | refine ld T_ok rfl rfl rfl rfl (Bk.get B4 rfl) ?_ | refine ld T_ok rfl rfl rfl rfl (Bk.get B10 rfl) ?_ | refine guardA (b := true) rfl rfl rfl rfl (fun _ => ?_) (fun e => by cases e) | refine guardA (b := false) rfl rfl rfl rfl (fun e => by cases e) (fun _ => ?_) | refine condT rfl rfl ?_ | refine condF rfl rfl ?_); refine go T_ok 200 rfl ?_)
  have y4 := B4.lt; have y10 := B10.lt; have yo := So.2.1; have ym := Sm.2.1; have y5 := S5.2.1; have yq := q.size
  refine nw rfl rfl (z := .agg #[I 0, I 0, I 0, .slice none 0 0]) (by kernel_rfl) (cs := [I 0, I 0, I 0, .slice none 0 0]) rfl ?_
  intro g16 w hg16 hs16 qk B16
  have B4 := B4.no qk
  have B10 := B10.no qk
  have So := So.no qk
  have Sm := Sm.no qk
  have S5 := S5.no qk
  have q := q.trans qk
  refine go T_ok 200 rfl ?_
  refine stA T_ok rfl rfl rfl rfl (vs := cpL m) rfl rfl rfl B16 rfl ?_
  intro w qk B16 hz16
  have B16 : Bk w g16 24 (cpL m) := B16
  have B4 := Bk.keep B4 qk (by omega)
  have B10 := Bk.keep B10 qk (by omega)
  have So := Sl.keep So qk (fun k hk e => by omega)
  have Sm := Sl.keep Sm qk (fun k hk e => by omega)
  have S5 := Sl.keep S5 qk (fun k hk e => by omega)
  have q := q.step qk (fun k hk e => by omega)
  refine go T_ok 200 rfl ?_
  repeat ((first | refine ldA T_ok rfl rfl rfl rfl rfl (Bk.all B4) ?_ | refine ldA T_ok rfl rfl rfl rfl rfl (Bk.all B10) ?_ | refine ldA T_ok rfl rfl rfl rfl rfl (Bk.all B16) ?_ | refine ld T_ok rfl rfl rfl rfl (Bk.get B4 rfl) ?_ | refine ld T_ok rfl rfl rfl rfl (Bk.get B10 rfl) ?_ | refine ld T_ok rfl rfl rfl rfl (Bk.get B16 rfl) ?_ | refine guardA (b := true) rfl rfl rfl rfl (fun _ => ?_) (fun e => by cases e) | refine guardA (b := false) rfl rfl rfl rfl (fun e => by cases e) (fun _ => ?_) | refine condT rfl rfl ?_ | refine condF rfl rfl ?_); refine go T_ok 200 rfl ?_)
  have v0 := hc.b0; have v1 := hc.b1
  rw [w64_id (x := 8000000 - m.c.budget) (by omega) (by omega)]
  obtain ⟨bb, hbb⟩ : ∃ b, b = m.c.budget + min more (8000000 - m.c.budget) := ⟨_, rfl⟩
  rw [w64_id (x := m.c.budget + min more (8000000 - m.c.budget)) (by omega) (by omega), ← hbb]
  refine st T_ok rfl rfl rfl rfl (v := I bb) rfl rfl B16 rfl ?_
  intro w qk B16 hzz
  have B16 : Bk w g16 24 (cpL ⟨richC m.c bb, m.A, m.cap⟩) := B16
  have B4 := Bk.keep B4 qk (by omega)
  have B10 := Bk.keep B10 qk (by omega)
  have So := Sl.keep So qk (fun k hk e => by omega)
  have Sm := Sl.keep Sm qk (fun k hk e => by omega)
  have S5 := Sl.keep S5 qk (fun k hk e => by omega)
  have q := q.step qk (fun k hk e => by omega)
  have hr := rich_ok hc (b := bb) (by omega) (by omega)
  refine go T_ok 200 rfl ?_
  repeat ((first | refine ldA T_ok rfl rfl rfl rfl rfl (Bk.all B4) ?_ | refine ldA T_ok rfl rfl rfl rfl rfl (Bk.all B10) ?_ | refine ldA T_ok rfl rfl rfl rfl rfl (Bk.all B16) ?_ | refine ld T_ok rfl rfl rfl rfl (Bk.get B4 rfl) ?_ | refine ld T_ok rfl rfl rfl rfl (Bk.get B10 rfl) ?_ | refine ld T_ok rfl rfl rfl rfl (Bk.get B16 rfl) ?_ | refine guardA (b := true) rfl rfl rfl rfl (fun _ => ?_) (fun e => by cases e) | refine guardA (b := false) rfl rfl rfl rfl (fun e => by cases e) (fun _ => ?_) | refine condT rfl rfl ?_ | refine condF rfl rfl ?_); refine go T_ok 200 rfl ?_)
  refine call rfl rfl rfl (ok _ (by decide) rfl) (Best_ok ⟨richC m.c bb, m.A, m.cap⟩ s _ (cpm Sm) hr ⟨hs.n, hs.w⟩) ?_
  rintro x w ⟨A7, c7, b7, e7, rfl, qk, own7, hl7⟩
  have B4 := B4.no qk
  have B10 := B10.no qk
  have So := So.no qk
  have Sm := Sm.no qk
  have S5 := S5.no qk
  have B16 := B16.no qk
  have q := q.trans qk
  obtain ⟨t5, t6⟩ := bestOf_top (richC m.c bb) s (Go.Proofs.Yteenhfnamjbaiaa.moreL (richC m.c bb) 3 0 [])
  rw [← e7] at t5 t6
  have hin : b5 ∈ Go.Proofs.Yteenhfnamjbaiaa.moreL (richC m.c bb) 3 0 [] := mem_all.2 (rich_ch (by omega) hch)
  cases b7 with
  | none => rw [t5 rfl] at hin; cases hin
  | some b7 =>
  have hl7 : LsOk m.c b7 := hl7 b7 rfl
  have hv7 : valP m.c s b5 ≤ valP m.c s b7 := ((t6 b7 rfl).2 b5 hin).1
  have od7 := odds_od hc hs false hl7
  have q71 := od7.a0
  refine go T_ok 200 rfl ?_
  repeat ((first | refine ldA T_ok rfl rfl rfl rfl rfl (Bk.all B4) ?_ | refine ldA T_ok rfl rfl rfl rfl rfl (Bk.all B10) ?_ | refine ldA T_ok rfl rfl rfl rfl rfl (Bk.all B16) ?_ | refine ld T_ok rfl rfl rfl rfl (Bk.get B4 rfl) ?_ | refine ld T_ok rfl rfl rfl rfl (Bk.get B10 rfl) ?_ | refine ld T_ok rfl rfl rfl rfl (Bk.get B16 rfl) ?_ | refine guardA (b := true) rfl rfl rfl rfl (fun _ => ?_) (fun e => by cases e) | refine guardA (b := false) rfl rfl rfl rfl (fun e => by cases e) (fun _ => ?_) | refine condT rfl rfl ?_ | refine condF rfl rfl ?_); refine go T_ok 200 rfl ?_)
  have yB4 := B4.lt
  have yB10 := B10.lt
  have ySo := So.2.1
  have ySm := Sm.2.1
  have yS5 := S5.2.1
  have yB16 := B16.lt
  have yq := q.size
  refine nw rfl rfl (z := .agg #[I 0, I 0]) (by kernel_rfl) (cs := [I 0, I 0]) rfl ?_
  intro g18 w hg18 hs18 qk B18
  have B4 := B4.no qk
  have B10 := B10.no qk
  have So := So.no qk
  have Sm := Sm.no qk
  have S5 := S5.no qk
  have B16 := B16.no qk
  have q := q.trans qk
  refine go T_ok 200 rfl ?_
  refine stA T_ok rfl rfl rfl rfl (vs := odL (oddsP m.c s false b7)) rfl rfl rfl B18 rfl ?_
  intro w qk B18 hz18
  have B18 : Bk w g18 30 (odL (oddsP m.c s false b7)) := B18
  have B4 := Bk.keep B4 qk (by omega)
  have B10 := Bk.keep B10 qk (by omega)
  have So := Sl.keep So qk (fun k hk e => by omega)
  have Sm := Sl.keep Sm qk (fun k hk e => by omega)
  have S5 := Sl.keep S5 qk (fun k hk e => by omega)
  have B16 := Bk.keep B16 qk (by omega)
  have q := q.step qk (fun k hk e => by omega)
  refine go T_ok 200 rfl ?_
  repeat ((first | refine ldA T_ok rfl rfl rfl rfl rfl (Bk.all B4) ?_ | refine ldA T_ok rfl rfl rfl rfl rfl (Bk.all B10) ?_ | refine ldA T_ok rfl rfl rfl rfl rfl (Bk.all B16) ?_ | refine ldA T_ok rfl rfl rfl rfl rfl (Bk.all B18) ?_ | refine ld T_ok rfl rfl rfl rfl (Bk.get B4 rfl) ?_ | refine ld T_ok rfl rfl rfl rfl (Bk.get B10 rfl) ?_ | refine ld T_ok rfl rfl rfl rfl (Bk.get B16 rfl) ?_ | refine ld T_ok rfl rfl rfl rfl (Bk.get B18 rfl) ?_ | refine guardA (b := true) rfl rfl rfl rfl (fun _ => ?_) (fun e => by cases e) | refine guardA (b := false) rfl rfl rfl rfl (fun e => by cases e) (fun _ => ?_) | refine condT rfl rfl ?_ | refine condF rfl rfl ?_); refine go T_ok 200 rfl ?_)
  rw [decide_eq_true (show 1 ≤ (oddsP m.c s false b7).2 by omega)]
  refine go T_ok 200 rfl ?_
  repeat ((first | refine ldA T_ok rfl rfl rfl rfl rfl (Bk.all B4) ?_ | refine ldA T_ok rfl rfl rfl rfl rfl (Bk.all B10) ?_ | refine ldA T_ok rfl rfl rfl rfl rfl (Bk.all B16) ?_ | refine ldA T_ok rfl rfl rfl rfl rfl (Bk.all B18) ?_ | refine ld T_ok rfl rfl rfl rfl (Bk.get B4 rfl) ?_ | refine ld T_ok rfl rfl rfl rfl (Bk.get B10 rfl) ?_ | refine ld T_ok rfl rfl rfl rfl (Bk.get B16 rfl) ?_ | refine ld T_ok rfl rfl rfl rfl (Bk.get B18 rfl) ?_ | refine guardA (b := true) rfl rfl rfl rfl (fun _ => ?_) (fun e => by cases e) | refine guardA (b := false) rfl rfl rfl rfl (fun e => by cases e) (fun _ => ?_) | refine condT rfl rfl ?_ | refine condF rfl rfl ?_); refine go T_ok 200 rfl ?_)
  refine call rfl rfl rfl (ok _ (by decide) rfl) (rLess_any (oddsP m.c s false b7) (oddsP m.c s false b5) _ od7 od5) ?_
  rintro x w ⟨rfl, qk⟩
  have B4 := B4.no qk
  have B10 := B10.no qk
  have So := So.no qk
  have Sm := Sm.no qk
  have S5 := S5.no qk
  have B16 := B16.no qk
  have B18 := B18.no qk
  have q := q.trans qk
  rw [less_val hc hl7 hl5, decide_eq_false (show ¬ valP m.c s b7 < valP m.c s b5 by omega)]
  refine go T_ok 200 rfl ?_
  repeat ((first | refine ldA T_ok rfl rfl rfl rfl rfl (Bk.all B4) ?_ | refine ldA T_ok rfl rfl rfl rfl rfl (Bk.all B10) ?_ | refine ldA T_ok rfl rfl rfl rfl rfl (Bk.all B16) ?_ | refine ldA T_ok rfl rfl rfl rfl rfl (Bk.all B18) ?_ | refine ld T_ok rfl rfl rfl rfl (Bk.get B4 rfl) ?_ | refine ld T_ok rfl rfl rfl rfl (Bk.get B10 rfl) ?_ | refine ld T_ok rfl rfl rfl rfl (Bk.get B16 rfl) ?_ | refine ld T_ok rfl rfl rfl rfl (Bk.get B18 rfl) ?_ | refine guardA (b := true) rfl rfl rfl rfl (fun _ => ?_) (fun e => by cases e) | refine guardA (b := false) rfl rfl rfl rfl (fun e => by cases e) (fun _ => ?_) | refine condT rfl rfl ?_ | refine condF rfl rfl ?_); refine go T_ok 200 rfl ?_)
  refine call rfl rfl rfl (ok _ (by decide) rfl) (known_any _) ?_
  rintro v wk ⟨rfl, qk⟩
  refine go T_ok 200 rfl ?_
  exact ret (ret1 (v := .bool true) Try.results3 rfl ⟨rfl, q.trans qk⟩)
 rw [decide_eq_false hv]
 refine goH T_ok 200 rfl ?_
 repeat (first | (refine guardHA (b := true) rfl rfl rfl rfl (fun _ => ?_) (fun h => by cases h); refine goH T_ok 200 rfl ?_) | (refine guardHA (b := false) rfl rfl rfl rfl (fun h => by cases h) (fun _ => ?_); refine goH T_ok 200 rfl ?_))
 refine quietH rfl (fun w' hS => r_loadA T_ok rfl rfl rfl rfl (B4.no hS).all) ?_
 refine goH T_ok 200 rfl ?_
 repeat (first | (refine guardHA (b := true) rfl rfl rfl rfl (fun _ => ?_) (fun h => by cases h); refine goH T_ok 200 rfl ?_) | (refine guardHA (b := false) rfl rfl rfl rfl (fun h => by cases h) (fun _ => ?_); refine goH T_ok 200 rfl ?_))
 refine quietH rfl (fun w' hS => r_loadA T_ok rfl rfl rfl rfl (B4.no hS).all) ?_
 refine goH T_ok 200 rfl ?_
 repeat (first | (refine guardHA (b := true) rfl rfl rfl rfl (fun _ => ?_) (fun h => by cases h); refine goH T_ok 200 rfl ?_) | (refine guardHA (b := false) rfl rfl rfl rfl (fun h => by cases h) (fun _ => ?_); refine goH T_ok 200 rfl ?_))
 refine callE rfl rfl rfl (ok _ (by decide) rfl) (rCost_any m o.l o.A o.c _ _ (cpm (Sm.no qd)) hc (So.no qd) hco.s (by omega)) ?_
 rintro x w3 ⟨rfl, qk⟩
 have qd := qd.trans qk
 refine ⟨qd, ?_⟩
 refine goH T_ok 200 rfl ?_
 repeat (first | (refine guardHA (b := true) rfl rfl rfl rfl (fun _ => ?_) (fun h => by cases h); refine goH T_ok 200 rfl ?_) | (refine guardHA (b := false) rfl rfl rfl rfl (fun h => by cases h) (fun _ => ?_); refine goH T_ok 200 rfl ?_))
 refine callE rfl rfl rfl (ok _ (by decide) rfl) (rCost_any m b5 A5 c5 _ _ (cpm (Sm.no qd)) hc (S5.no qd) hch.s (by have := hch.n1; omega)) ?_
 rintro x w4 ⟨rfl, qk⟩
 have qd := qd.trans qk
 refine ⟨qd, ?_⟩
 refine goH T_ok 200 rfl ?_
 repeat (first | (refine guardHA (b := true) rfl rfl rfl rfl (fun _ => ?_) (fun h => by cases h); refine goH T_ok 200 rfl ?_) | (refine guardHA (b := false) rfl rfl rfl rfl (fun h => by cases h) (fun _ => ?_); refine goH T_ok 200 rfl ?_))
 rw [decide_eq_false (show ¬ costP m.c o.l < costP m.c b5 by omega)]
 refine goH T_ok 200 rfl ?_
 repeat (first | (refine guardHA (b := true) rfl rfl rfl rfl (fun _ => ?_) (fun h => by cases h); refine goH T_ok 200 rfl ?_) | (refine guardHA (b := false) rfl rfl rfl rfl (fun h => by cases h) (fun _ => ?_); refine goH T_ok 200 rfl ?_))
 refine endH ?_
 have q := q.trans qd
 have B4 := B4.no qd
 have B10 := B10.no qd
 have So := So.no qd
 have Sm := Sm.no qd
 have S5 := S5.no qd
 refine go T_ok 200 rfl ?_
 repeat ((first | refine ldA T_ok rfl rfl rfl rfl rfl (Bk.all B4) ?_ | refine ldA T_ok rfl rfl rfl rfl rfl (Bk.all B10) ?_ | refine ld T_ok rfl rfl rfl rfl (Bk.get B4 rfl) ?_ | refine ld T_ok rfl rfl rfl rfl (Bk.get B10 rfl) ?_ | refine guardA (b := true) rfl rfl rfl rfl (fun _ => ?_) (fun e => by cases e) | refine guardA (b := false) rfl rfl rfl rfl (fun e => by cases e) (fun _ => ?_) | refine condT rfl rfl ?_ | refine condF rfl rfl ?_); refine go T_ok 200 rfl ?_)
 have y4 := B4.lt; have y10 := B10.lt; have yo := So.2.1; have ym := Sm.2.1; have y5 := S5.2.1; have yq := q.size
 refine nw rfl rfl (z := .agg #[I 0, I 0, I 0, .slice none 0 0]) (by kernel_rfl) (cs := [I 0, I 0, I 0, .slice none 0 0]) rfl ?_
 intro g16 w hg16 hs16 qk B16
 have B4 := B4.no qk
 have B10 := B10.no qk
 have So := So.no qk
 have Sm := Sm.no qk
 have S5 := S5.no qk
 have q := q.trans qk
 refine go T_ok 200 rfl ?_
 refine stA T_ok rfl rfl rfl rfl (vs := cpL m) rfl rfl rfl B16 rfl ?_
 intro w qk B16 hz16
 have B16 : Bk w g16 24 (cpL m) := B16
 have B4 := Bk.keep B4 qk (by omega)
 have B10 := Bk.keep B10 qk (by omega)
 have So := Sl.keep So qk (fun k hk e => by omega)
 have Sm := Sl.keep Sm qk (fun k hk e => by omega)
 have S5 := Sl.keep S5 qk (fun k hk e => by omega)
 have q := q.step qk (fun k hk e => by omega)
 refine go T_ok 200 rfl ?_
 repeat ((first | refine ldA T_ok rfl rfl rfl rfl rfl (Bk.all B4) ?_ | refine ldA T_ok rfl rfl rfl rfl rfl (Bk.all B10) ?_ | refine ldA T_ok rfl rfl rfl rfl rfl (Bk.all B16) ?_ | refine ld T_ok rfl rfl rfl rfl (Bk.get B4 rfl) ?_ | refine ld T_ok rfl rfl rfl rfl (Bk.get B10 rfl) ?_ | refine ld T_ok rfl rfl rfl rfl (Bk.get B16 rfl) ?_ | refine guardA (b := true) rfl rfl rfl rfl (fun _ => ?_) (fun e => by cases e) | refine guardA (b := false) rfl rfl rfl rfl (fun e => by cases e) (fun _ => ?_) | refine condT rfl rfl ?_ | refine condF rfl rfl ?_); refine go T_ok 200 rfl ?_)
 have v0 := hc.b0; have v1 := hc.b1
 rw [w64_id (x := 8000000 - m.c.budget) (by omega) (by omega)]
 obtain ⟨bb, hbb⟩ : ∃ b, b = m.c.budget + min more (8000000 - m.c.budget) := ⟨_, rfl⟩
 rw [w64_id (x := m.c.budget + min more (8000000 - m.c.budget)) (by omega) (by omega), ← hbb]
 refine st T_ok rfl rfl rfl rfl (v := I bb) rfl rfl B16 rfl ?_
 intro w qk B16 hzz
 have B16 : Bk w g16 24 (cpL ⟨richC m.c bb, m.A, m.cap⟩) := B16
 have B4 := Bk.keep B4 qk (by omega)
 have B10 := Bk.keep B10 qk (by omega)
 have So := Sl.keep So qk (fun k hk e => by omega)
 have Sm := Sl.keep Sm qk (fun k hk e => by omega)
 have S5 := Sl.keep S5 qk (fun k hk e => by omega)
 have q := q.step qk (fun k hk e => by omega)
 have hr := rich_ok hc (b := bb) (by omega) (by omega)
 refine go T_ok 200 rfl ?_
 repeat ((first | refine ldA T_ok rfl rfl rfl rfl rfl (Bk.all B4) ?_ | refine ldA T_ok rfl rfl rfl rfl rfl (Bk.all B10) ?_ | refine ldA T_ok rfl rfl rfl rfl rfl (Bk.all B16) ?_ | refine ld T_ok rfl rfl rfl rfl (Bk.get B4 rfl) ?_ | refine ld T_ok rfl rfl rfl rfl (Bk.get B10 rfl) ?_ | refine ld T_ok rfl rfl rfl rfl (Bk.get B16 rfl) ?_ | refine guardA (b := true) rfl rfl rfl rfl (fun _ => ?_) (fun e => by cases e) | refine guardA (b := false) rfl rfl rfl rfl (fun e => by cases e) (fun _ => ?_) | refine condT rfl rfl ?_ | refine condF rfl rfl ?_); refine go T_ok 200 rfl ?_)
 refine call rfl rfl rfl (ok _ (by decide) rfl) (Best_ok ⟨richC m.c bb, m.A, m.cap⟩ s _ (cpm Sm) hr ⟨hs.n, hs.w⟩) ?_
 rintro x w ⟨A7, c7, b7, e7, rfl, qk, own7, hl7⟩
 have B4 := B4.no qk
 have B10 := B10.no qk
 have So := So.no qk
 have Sm := Sm.no qk
 have S5 := S5.no qk
 have B16 := B16.no qk
 have q := q.trans qk
 obtain ⟨t5, t6⟩ := bestOf_top (richC m.c bb) s (Go.Proofs.Yteenhfnamjbaiaa.moreL (richC m.c bb) 3 0 [])
 rw [← e7] at t5 t6
 have hin : b5 ∈ Go.Proofs.Yteenhfnamjbaiaa.moreL (richC m.c bb) 3 0 [] := mem_all.2 (rich_ch (by omega) hch)
 cases b7 with
 | none => rw [t5 rfl] at hin; cases hin
 | some b7 =>
 have hl7 : LsOk m.c b7 := hl7 b7 rfl
 have hv7 : valP m.c s b5 ≤ valP m.c s b7 := ((t6 b7 rfl).2 b5 hin).1
 have od7 := odds_od hc hs false hl7
 have q71 := od7.a0
 refine go T_ok 200 rfl ?_
 repeat ((first | refine ldA T_ok rfl rfl rfl rfl rfl (Bk.all B4) ?_ | refine ldA T_ok rfl rfl rfl rfl rfl (Bk.all B10) ?_ | refine ldA T_ok rfl rfl rfl rfl rfl (Bk.all B16) ?_ | refine ld T_ok rfl rfl rfl rfl (Bk.get B4 rfl) ?_ | refine ld T_ok rfl rfl rfl rfl (Bk.get B10 rfl) ?_ | refine ld T_ok rfl rfl rfl rfl (Bk.get B16 rfl) ?_ | refine guardA (b := true) rfl rfl rfl rfl (fun _ => ?_) (fun e => by cases e) | refine guardA (b := false) rfl rfl rfl rfl (fun e => by cases e) (fun _ => ?_) | refine condT rfl rfl ?_ | refine condF rfl rfl ?_); refine go T_ok 200 rfl ?_)
 have yB4 := B4.lt
 have yB10 := B10.lt
 have ySo := So.2.1
 have ySm := Sm.2.1
 have yS5 := S5.2.1
 have yB16 := B16.lt
 have yq := q.size
 refine nw rfl rfl (z := .agg #[I 0, I 0]) (by kernel_rfl) (cs := [I 0, I 0]) rfl ?_
 intro g18 w hg18 hs18 qk B18
 have B4 := B4.no qk
 have B10 := B10.no qk
 have So := So.no qk
 have Sm := Sm.no qk
 have S5 := S5.no qk
 have B16 := B16.no qk
 have q := q.trans qk
 refine go T_ok 200 rfl ?_
 refine stA T_ok rfl rfl rfl rfl (vs := odL (oddsP m.c s false b7)) rfl rfl rfl B18 rfl ?_
 intro w qk B18 hz18
 have B18 : Bk w g18 30 (odL (oddsP m.c s false b7)) := B18
 have B4 := Bk.keep B4 qk (by omega)
 have B10 := Bk.keep B10 qk (by omega)
 have So := Sl.keep So qk (fun k hk e => by omega)
 have Sm := Sl.keep Sm qk (fun k hk e => by omega)
 have S5 := Sl.keep S5 qk (fun k hk e => by omega)
 have B16 := Bk.keep B16 qk (by omega)
 have q := q.step qk (fun k hk e => by omega)
 refine go T_ok 200 rfl ?_
 repeat ((first | refine ldA T_ok rfl rfl rfl rfl rfl (Bk.all B4) ?_ | refine ldA T_ok rfl rfl rfl rfl rfl (Bk.all B10) ?_ | refine ldA T_ok rfl rfl rfl rfl rfl (Bk.all B16) ?_ | refine ldA T_ok rfl rfl rfl rfl rfl (Bk.all B18) ?_ | refine ld T_ok rfl rfl rfl rfl (Bk.get B4 rfl) ?_ | refine ld T_ok rfl rfl rfl rfl (Bk.get B10 rfl) ?_ | refine ld T_ok rfl rfl rfl rfl (Bk.get B16 rfl) ?_ | refine ld T_ok rfl rfl rfl rfl (Bk.get B18 rfl) ?_ | refine guardA (b := true) rfl rfl rfl rfl (fun _ => ?_) (fun e => by cases e) | refine guardA (b := false) rfl rfl rfl rfl (fun e => by cases e) (fun _ => ?_) | refine condT rfl rfl ?_ | refine condF rfl rfl ?_); refine go T_ok 200 rfl ?_)
 rw [decide_eq_true (show 1 ≤ (oddsP m.c s false b7).2 by omega)]
 refine go T_ok 200 rfl ?_
 repeat ((first | refine ldA T_ok rfl rfl rfl rfl rfl (Bk.all B4) ?_ | refine ldA T_ok rfl rfl rfl rfl rfl (Bk.all B10) ?_ | refine ldA T_ok rfl rfl rfl rfl rfl (Bk.all B16) ?_ | refine ldA T_ok rfl rfl rfl rfl rfl (Bk.all B18) ?_ | refine ld T_ok rfl rfl rfl rfl (Bk.get B4 rfl) ?_ | refine ld T_ok rfl rfl rfl rfl (Bk.get B10 rfl) ?_ | refine ld T_ok rfl rfl rfl rfl (Bk.get B16 rfl) ?_ | refine ld T_ok rfl rfl rfl rfl (Bk.get B18 rfl) ?_ | refine guardA (b := true) rfl rfl rfl rfl (fun _ => ?_) (fun e => by cases e) | refine guardA (b := false) rfl rfl rfl rfl (fun e => by cases e) (fun _ => ?_) | refine condT rfl rfl ?_ | refine condF rfl rfl ?_); refine go T_ok 200 rfl ?_)
 refine call rfl rfl rfl (ok _ (by decide) rfl) (rLess_any (oddsP m.c s false b7) (oddsP m.c s false b5) _ od7 od5) ?_
 rintro x w ⟨rfl, qk⟩
 have B4 := B4.no qk
 have B10 := B10.no qk
 have So := So.no qk
 have Sm := Sm.no qk
 have S5 := S5.no qk
 have B16 := B16.no qk
 have B18 := B18.no qk
 have q := q.trans qk
 rw [less_val hc hl7 hl5, decide_eq_false (show ¬ valP m.c s b7 < valP m.c s b5 by omega)]
 refine go T_ok 200 rfl ?_
 repeat ((first | refine ldA T_ok rfl rfl rfl rfl rfl (Bk.all B4) ?_ | refine ldA T_ok rfl rfl rfl rfl rfl (Bk.all B10) ?_ | refine ldA T_ok rfl rfl rfl rfl rfl (Bk.all B16) ?_ | refine ldA T_ok rfl rfl rfl rfl rfl (Bk.all B18) ?_ | refine ld T_ok rfl rfl rfl rfl (Bk.get B4 rfl) ?_ | refine ld T_ok rfl rfl rfl rfl (Bk.get B10 rfl) ?_ | refine ld T_ok rfl rfl rfl rfl (Bk.get B16 rfl) ?_ | refine ld T_ok rfl rfl rfl rfl (Bk.get B18 rfl) ?_ | refine guardA (b := true) rfl rfl rfl rfl (fun _ => ?_) (fun e => by cases e) | refine guardA (b := false) rfl rfl rfl rfl (fun e => by cases e) (fun _ => ?_) | refine condT rfl rfl ?_ | refine condF rfl rfl ?_); refine go T_ok 200 rfl ?_)
 refine call rfl rfl rfl (ok _ (by decide) rfl) (known_any _) ?_
 rintro v wk ⟨rfl, qk⟩
 refine go T_ok 200 rfl ?_
 exact ret (ret1 (v := .bool true) Try.results3 rfl ⟨rfl, q.trans qk⟩)
end Go.Proofs.Yteenhfnamjbaiaa
