/- The walk of CampTells. -/
import Derived.Test.YteenhfnamjbaiaaK1
import Derived.Test.YteenhfnamjbaiaaV4
import Derived.Test.YteenhfnamjbaiaaE4
namespace Go.Proofs.Yteenhfnamjbaiaa
open Go.Ev Go.Proofs
open Go.Camp (Cp CpOk ChOk Site SiteOk Sites costP siteAt SlOk)
attribute [local irreducible] At AtH
theorem cpm {w : World} {B : Nat} {m : Cm} (S : Sl w B 4 m.A m.c.sites.length (m.c.sites.flatMap siL)) : CpM w m := S.more S.2.1 (Nat.le_refl _)
set_option maxRecDepth 20000 in
set_option maxHeartbeats 16000000 in
theorem walk_CampTells (m : Cm) (a b s0 : Int) (w0 : World) (hm : InC w0 m) (_ha : I64 a) (_hb0 : I64 b) (hs0 : I64 s0) :
  Ret Try.prog 8 [.agg (cpL m).toArray, I a, I b, I s0] w0 fun x w' => x = .bool true ∧ Chg No w0 w' := by
 have Sm : Sl w0 w0.heap.size 4 m.A m.c.sites.length (m.c.sites.flatMap siL) := hm.m
 refine enter Try.func8 rfl Try.ntmps8 rfl ?_
 refine go T_ok 200 rfl ?_
 refine bx rfl rfl rfl (cs := cpL m) rfl ?_
 intro g4 u4 hg4 hs4 q4 B4
 have q := q4
 have Sm := Sm.no q
 refine go T_ok 200 rfl ?_
 repeat ((first | refine ldA T_ok rfl rfl rfl rfl rfl (Bk.all B4) ?_ | refine ld T_ok rfl rfl rfl rfl (Bk.get B4 rfl) ?_ | refine gT rfl rfl rfl rfl ?_ | refine gF rfl rfl rfl rfl ?_ | refine condT rfl rfl ?_ | refine condF rfl rfl ?_); refine go T_ok 200 rfl ?_)
 refine call rfl rfl rfl (ok _ (by decide) rfl) (small_any m 8 _ (by decide)) ?_
 rintro x w ⟨⟨b', rfl, hb⟩, qk⟩
 have B4 := B4.no qk
 have Sm := Sm.no qk
 have q := q.trans qk
 cases b' with
 | false =>
  refine go T_ok 200 rfl ?_
  repeat ((first | refine ldA T_ok rfl rfl rfl rfl rfl (Bk.all B4) ?_ | refine ld T_ok rfl rfl rfl rfl (Bk.get B4 rfl) ?_ | refine gT rfl rfl rfl rfl ?_ | refine gF rfl rfl rfl rfl ?_ | refine condT rfl rfl ?_ | refine condF rfl rfl ?_); refine go T_ok 200 rfl ?_)
  refine call rfl rfl rfl (ok _ (by decide) rfl) (known_any _) ?_
  rintro v wk ⟨rfl, qk⟩
  refine go T_ok 200 rfl ?_
  exact ret (ret1 (v := .bool true) Try.results8 rfl ⟨rfl, q.trans qk⟩)
 | true =>
 obtain ⟨n12, p8⟩ := hb rfl
 refine go T_ok 200 rfl ?_
 repeat ((first | refine ldA T_ok rfl rfl rfl rfl rfl (Bk.all B4) ?_ | refine ld T_ok rfl rfl rfl rfl (Bk.get B4 rfl) ?_ | refine gT rfl rfl rfl rfl ?_ | refine gF rfl rfl rfl rfl ?_ | refine condT rfl rfl ?_ | refine condF rfl rfl ?_); refine go T_ok 200 rfl ?_)
 by_cases h1 : s0 < 0
 ·rw [decide_eq_true h1]
  refine go T_ok 200 rfl ?_
  repeat ((first | refine ldA T_ok rfl rfl rfl rfl rfl (Bk.all B4) ?_ | refine ld T_ok rfl rfl rfl rfl (Bk.get B4 rfl) ?_ | refine gT rfl rfl rfl rfl ?_ | refine gF rfl rfl rfl rfl ?_ | refine condT rfl rfl ?_ | refine condF rfl rfl ?_); refine go T_ok 200 rfl ?_)
  refine call rfl rfl rfl (ok _ (by decide) rfl) (known_any _) ?_
  rintro v wk ⟨rfl, qk⟩
  refine go T_ok 200 rfl ?_
  exact ret (ret1 (v := .bool true) Try.results8 rfl ⟨rfl, q.trans qk⟩)
 rw [decide_eq_false h1]
 refine go T_ok 200 rfl ?_
 repeat ((first | refine ldA T_ok rfl rfl rfl rfl rfl (Bk.all B4) ?_ | refine ld T_ok rfl rfl rfl rfl (Bk.get B4 rfl) ?_ | refine gT rfl rfl rfl rfl ?_ | refine gF rfl rfl rfl rfl ?_ | refine condT rfl rfl ?_ | refine condF rfl rfl ?_); refine go T_ok 200 rfl ?_)
 by_cases h2 : 3 < s0
 ·rw [decide_eq_true h2]
  refine go T_ok 200 rfl ?_
  repeat ((first | refine ldA T_ok rfl rfl rfl rfl rfl (Bk.all B4) ?_ | refine ld T_ok rfl rfl rfl rfl (Bk.get B4 rfl) ?_ | refine gT rfl rfl rfl rfl ?_ | refine gF rfl rfl rfl rfl ?_ | refine condT rfl rfl ?_ | refine condF rfl rfl ?_); refine go T_ok 200 rfl ?_)
  refine call rfl rfl rfl (ok _ (by decide) rfl) (known_any _) ?_
  rintro v wk ⟨rfl, qk⟩
  refine go T_ok 200 rfl ?_
  exact ret (ret1 (v := .bool true) Try.results8 rfl ⟨rfl, q.trans qk⟩)
 rw [decide_eq_false h2]
 obtain ⟨s, rfl⟩ : ∃ k : Nat, s0 = (k : Int) := ⟨s0.toNat, by omega⟩
 refine go T_ok 200 rfl ?_
 repeat ((first | refine ldA T_ok rfl rfl rfl rfl rfl (Bk.all B4) ?_ | refine ld T_ok rfl rfl rfl rfl (Bk.get B4 rfl) ?_ | refine gT rfl rfl rfl rfl ?_ | refine gF rfl rfl rfl rfl ?_ | refine condT rfl rfl ?_ | refine condF rfl rfl ?_); refine go T_ok 200 rfl ?_)
 refine call rfl rfl rfl (ok _ (by decide) rfl) (rCampaign_any m _ (cpm Sm) (by omega)) ?_
 rintro x w ⟨⟨b', rfl, hb⟩, qk⟩
 have B4 := B4.no qk
 have Sm := Sm.no qk
 have q := q.trans qk
 cases b' with
 | false =>
  refine go T_ok 200 rfl ?_
  repeat ((first | refine ldA T_ok rfl rfl rfl rfl rfl (Bk.all B4) ?_ | refine ld T_ok rfl rfl rfl rfl (Bk.get B4 rfl) ?_ | refine gT rfl rfl rfl rfl ?_ | refine gF rfl rfl rfl rfl ?_ | refine condT rfl rfl ?_ | refine condF rfl rfl ?_); refine go T_ok 200 rfl ?_)
  refine call rfl rfl rfl (ok _ (by decide) rfl) (known_any _) ?_
  rintro v wk ⟨rfl, qk⟩
  refine go T_ok 200 rfl ?_
  exact ret (ret1 (v := .bool true) Try.results8 rfl ⟨rfl, q.trans qk⟩)
 | true =>
 have hc := hb.1 rfl
 refine go T_ok 200 rfl ?_
 repeat ((first | refine ldA T_ok rfl rfl rfl rfl rfl (Bk.all B4) ?_ | refine ld T_ok rfl rfl rfl rfl (Bk.get B4 rfl) ?_ | refine gT rfl rfl rfl rfl ?_ | refine gF rfl rfl rfl rfl ?_ | refine condT rfl rfl ?_ | refine condF rfl rfl ?_); refine go T_ok 200 rfl ?_)
 refine row T_ok rfl rfl rfl rfl rfl rfl (cs := [I a]) rfl ?_
 intro g1 w hg1 hs1 qk B1 hl1
 have B4 := B4.no qk
 have Sm := Sm.no qk
 have q := q.trans qk
 have S1 : Sl w w.heap.size 1 (some ⟨g1, 0, none⟩) 1 (iL [a]) := own_sl (B1.own hl1 (by decide))
 refine go T_ok 200 rfl ?_
 repeat ((first | refine ldA T_ok rfl rfl rfl rfl rfl (Bk.all B4) ?_ | refine ld T_ok rfl rfl rfl rfl (Bk.get B4 rfl) ?_ | refine gT rfl rfl rfl rfl ?_ | refine gF rfl rfl rfl rfl ?_ | refine condT rfl rfl ?_ | refine condF rfl rfl ?_); refine go T_ok 200 rfl ?_)
 refine call rfl rfl rfl (ok _ (by decide) rfl) (rChoice_any m [a] (some ⟨g1, 0, none⟩) 1 _ _ (cpm Sm) hc S1 (by simp)) ?_
 rintro x w ⟨⟨b', rfl, hb⟩, qk⟩
 have B4 := B4.no qk
 have Sm := Sm.no qk
 have S1 := S1.no qk
 have q := q.trans qk
 cases b' with
 | false =>
  refine go T_ok 200 rfl ?_
  repeat ((first | refine ldA T_ok rfl rfl rfl rfl rfl (Bk.all B4) ?_ | refine ld T_ok rfl rfl rfl rfl (Bk.get B4 rfl) ?_ | refine gT rfl rfl rfl rfl ?_ | refine gF rfl rfl rfl rfl ?_ | refine condT rfl rfl ?_ | refine condF rfl rfl ?_); refine go T_ok 200 rfl ?_)
  refine call rfl rfl rfl (ok _ (by decide) rfl) (known_any _) ?_
  rintro v wk ⟨rfl, qk⟩
  refine go T_ok 200 rfl ?_
  exact ret (ret1 (v := .bool true) Try.results8 rfl ⟨rfl, q.trans qk⟩)
 | true =>
 have hc1 := hb.1 rfl
 refine go T_ok 200 rfl ?_
 repeat ((first | refine ldA T_ok rfl rfl rfl rfl rfl (Bk.all B4) ?_ | refine ld T_ok rfl rfl rfl rfl (Bk.get B4 rfl) ?_ | refine gT rfl rfl rfl rfl ?_ | refine gF rfl rfl rfl rfl ?_ | refine condT rfl rfl ?_ | refine condF rfl rfl ?_); refine go T_ok 200 rfl ?_)
 refine row T_ok rfl rfl rfl rfl rfl rfl (cs := [I a, I b]) rfl ?_
 intro g2 w hg2 hs2 qk B2 hl2
 have B4 := B4.no qk
 have Sm := Sm.no qk
 have S1 := S1.no qk
 have q := q.trans qk
 have S2 : Sl w w.heap.size 1 (some ⟨g2, 0, none⟩) 2 (iL [a, b]) := own_sl (B2.own hl2 (by decide))
 refine go T_ok 200 rfl ?_
 repeat ((first | refine ldA T_ok rfl rfl rfl rfl rfl (Bk.all B4) ?_ | refine ld T_ok rfl rfl rfl rfl (Bk.get B4 rfl) ?_ | refine gT rfl rfl rfl rfl ?_ | refine gF rfl rfl rfl rfl ?_ | refine condT rfl rfl ?_ | refine condF rfl rfl ?_); refine go T_ok 200 rfl ?_)
 refine call rfl rfl rfl (ok _ (by decide) rfl) (rChoice_any m [a, b] (some ⟨g2, 0, none⟩) 2 _ _ (cpm Sm) hc S2 (by simp)) ?_
 rintro x w ⟨⟨b', rfl, hb⟩, qk⟩
 have B4 := B4.no qk
 have Sm := Sm.no qk
 have S2 := S2.no qk
 have q := q.trans qk
 cases b' with
 | false =>
  refine go T_ok 200 rfl ?_
  repeat ((first | refine ldA T_ok rfl rfl rfl rfl rfl (Bk.all B4) ?_ | refine ld T_ok rfl rfl rfl rfl (Bk.get B4 rfl) ?_ | refine gT rfl rfl rfl rfl ?_ | refine gF rfl rfl rfl rfl ?_ | refine condT rfl rfl ?_ | refine condF rfl rfl ?_); refine go T_ok 200 rfl ?_)
  refine call rfl rfl rfl (ok _ (by decide) rfl) (known_any _) ?_
  rintro v wk ⟨rfl, qk⟩
  refine go T_ok 200 rfl ?_
  exact ret (ret1 (v := .bool true) Try.results8 rfl ⟨rfl, q.trans qk⟩)
 | true =>
 have hc2 := hb.1 rfl
 refine go T_ok 200 rfl ?_
 repeat ((first | refine ldA T_ok rfl rfl rfl rfl rfl (Bk.all B4) ?_ | refine ld T_ok rfl rfl rfl rfl (Bk.get B4 rfl) ?_ | refine gT rfl rfl rfl rfl ?_ | refine gF rfl rfl rfl rfl ?_ | refine condT rfl rfl ?_ | refine condF rfl rfl ?_); refine go T_ok 200 rfl ?_)
 refine call rfl rfl rfl (ok _ (by decide) rfl) (rLong_any m s _ hc (by omega)) ?_
 rintro x w ⟨⟨b', rfl, hb⟩, qk⟩
 have B4 := B4.no qk
 have Sm := Sm.no qk
 have q := q.trans qk
 cases b' with
 | true =>
  refine go T_ok 200 rfl ?_
  repeat ((first | refine ldA T_ok rfl rfl rfl rfl rfl (Bk.all B4) ?_ | refine ld T_ok rfl rfl rfl rfl (Bk.get B4 rfl) ?_ | refine gT rfl rfl rfl rfl ?_ | refine gF rfl rfl rfl rfl ?_ | refine condT rfl rfl ?_ | refine condF rfl rfl ?_); refine go T_ok 200 rfl ?_)
  refine call rfl rfl rfl (ok _ (by decide) rfl) (known_any _) ?_
  rintro v wk ⟨rfl, qk⟩
  refine go T_ok 200 rfl ?_
  exact ret (ret1 (v := .bool true) Try.results8 rfl ⟨rfl, q.trans qk⟩)
 | false =>
 have hs := hb.1 rfl
 refine go T_ok 200 rfl ?_
 repeat ((first | refine ldA T_ok rfl rfl rfl rfl rfl (Bk.all B4) ?_ | refine ld T_ok rfl rfl rfl rfl (Bk.get B4 rfl) ?_ | refine gT rfl rfl rfl rfl ?_ | refine gF rfl rfl rfl rfl ?_ | refine condT rfl rfl ?_ | refine condF rfl rfl ?_); refine go T_ok 200 rfl ?_)
 refine row T_ok rfl rfl rfl rfl rfl rfl (cs := [I a]) rfl ?_
 intro g3 w hg3 hs3 qk B3 hl3
 have B4 := B4.no qk
 have Sm := Sm.no qk
 have q := q.trans qk
 have S3 : Sl w w.heap.size 1 (some ⟨g3, 0, none⟩) 1 (iL [a]) := own_sl (B3.own hl3 (by decide))
 refine go T_ok 200 rfl ?_
 repeat ((first | refine ldA T_ok rfl rfl rfl rfl rfl (Bk.all B4) ?_ | refine ld T_ok rfl rfl rfl rfl (Bk.get B4 rfl) ?_ | refine gT rfl rfl rfl rfl ?_ | refine gF rfl rfl rfl rfl ?_ | refine condT rfl rfl ?_ | refine condF rfl rfl ?_); refine go T_ok 200 rfl ?_)
 refine call rfl rfl rfl (ok _ (by decide) rfl) (Power_ok m s [a] (some ⟨g3, 0, none⟩) 1 _ _ (cpm Sm) hc hs hc1 S3) ?_
 rintro x w ⟨rfl, qk⟩
 have B4 := B4.no qk
 have Sm := Sm.no qk
 have S3 := S3.no qk
 have q := q.trans qk
 refine go T_ok 200 rfl ?_
 repeat ((first | refine ldA T_ok rfl rfl rfl rfl rfl (Bk.all B4) ?_ | refine ld T_ok rfl rfl rfl rfl (Bk.get B4 rfl) ?_ | refine gT rfl rfl rfl rfl ?_ | refine gF rfl rfl rfl rfl ?_ | refine condT rfl rfl ?_ | refine condF rfl rfl ?_); refine go T_ok 200 rfl ?_)
 have yB4 := B4.lt
 have ySm := Sm.2.1
 have yq := q.size
 refine nw rfl rfl (z := .agg #[I 0, I 0]) (by kernel_rfl) (cs := [I 0, I 0]) rfl ?_
 intro g9 w hg9 hs9 qk B9
 have B4 := B4.no qk
 have Sm := Sm.no qk
 have q := q.trans qk
 refine go T_ok 200 rfl ?_
 refine stA T_ok rfl rfl rfl rfl (vs := odL (oddsP m.c s false [a])) rfl rfl rfl B9 rfl ?_
 intro w qk B9 hz9
 have B9 : Bk w g9 30 (odL (oddsP m.c s false [a])) := B9
 have B4 := Bk.keep B4 qk (by omega)
 have Sm := Sl.keep Sm qk (fun k hk e => by omega)
 have q := q.step qk (fun k hk e => by omega)
 refine go T_ok 200 rfl ?_
 repeat ((first | refine ldA T_ok rfl rfl rfl rfl rfl (Bk.all B4) ?_ | refine ldA T_ok rfl rfl rfl rfl rfl (Bk.all B9) ?_ | refine ld T_ok rfl rfl rfl rfl (Bk.get B4 rfl) ?_ | refine ld T_ok rfl rfl rfl rfl (Bk.get B9 rfl) ?_ | refine gT rfl rfl rfl rfl ?_ | refine gF rfl rfl rfl rfl ?_ | refine condT rfl rfl ?_ | refine condF rfl rfl ?_); refine go T_ok 200 rfl ?_)
 refine row T_ok rfl rfl rfl rfl rfl rfl (cs := [I a, I b]) rfl ?_
 intro g5 w hg5 hs5 qk B5 hl5
 have B4 := B4.no qk
 have B9 := B9.no qk
 have Sm := Sm.no qk
 have q := q.trans qk
 have S5 : Sl w w.heap.size 1 (some ⟨g5, 0, none⟩) 2 (iL [a, b]) := own_sl (B5.own hl5 (by decide))
 refine go T_ok 200 rfl ?_
 repeat ((first | refine ldA T_ok rfl rfl rfl rfl rfl (Bk.all B4) ?_ | refine ldA T_ok rfl rfl rfl rfl rfl (Bk.all B9) ?_ | refine ld T_ok rfl rfl rfl rfl (Bk.get B4 rfl) ?_ | refine ld T_ok rfl rfl rfl rfl (Bk.get B9 rfl) ?_ | refine gT rfl rfl rfl rfl ?_ | refine gF rfl rfl rfl rfl ?_ | refine condT rfl rfl ?_ | refine condF rfl rfl ?_); refine go T_ok 200 rfl ?_)
 refine call rfl rfl rfl (ok _ (by decide) rfl) (Power_ok m s [a, b] (some ⟨g5, 0, none⟩) 2 _ _ (cpm Sm) hc hs hc2 S5) ?_
 rintro x w ⟨rfl, qk⟩
 have B4 := B4.no qk
 have B9 := B9.no qk
 have Sm := Sm.no qk
 have S5 := S5.no qk
 have q := q.trans qk
 refine go T_ok 200 rfl ?_
 repeat ((first | refine ldA T_ok rfl rfl rfl rfl rfl (Bk.all B4) ?_ | refine ldA T_ok rfl rfl rfl rfl rfl (Bk.all B9) ?_ | refine ld T_ok rfl rfl rfl rfl (Bk.get B4 rfl) ?_ | refine ld T_ok rfl rfl rfl rfl (Bk.get B9 rfl) ?_ | refine gT rfl rfl rfl rfl ?_ | refine gF rfl rfl rfl rfl ?_ | refine condT rfl rfl ?_ | refine condF rfl rfl ?_); refine go T_ok 200 rfl ?_)
 have yB4 := B4.lt
 have yB9 := B9.lt
 have ySm := Sm.2.1
 have yq := q.size
 refine nw rfl rfl (z := .agg #[I 0, I 0]) (by kernel_rfl) (cs := [I 0, I 0]) rfl ?_
 intro g11 w hg11 hs11 qk B11
 have B4 := B4.no qk
 have B9 := B9.no qk
 have Sm := Sm.no qk
 have q := q.trans qk
 refine go T_ok 200 rfl ?_
 refine stA T_ok rfl rfl rfl rfl (vs := odL (oddsP m.c s false [a, b])) rfl rfl rfl B11 rfl ?_
 intro w qk B11 hz11
 have B11 : Bk w g11 30 (odL (oddsP m.c s false [a, b])) := B11
 have B4 := Bk.keep B4 qk (by omega)
 have B9 := Bk.keep B9 qk (by omega)
 have Sm := Sl.keep Sm qk (fun k hk e => by omega)
 have q := q.step qk (fun k hk e => by omega)
 refine go T_ok 200 rfl ?_
 repeat ((first | refine ldA T_ok rfl rfl rfl rfl rfl (Bk.all B4) ?_ | refine ldA T_ok rfl rfl rfl rfl rfl (Bk.all B9) ?_ | refine ldA T_ok rfl rfl rfl rfl rfl (Bk.all B11) ?_ | refine ld T_ok rfl rfl rfl rfl (Bk.get B4 rfl) ?_ | refine ld T_ok rfl rfl rfl rfl (Bk.get B9 rfl) ?_ | refine ld T_ok rfl rfl rfl rfl (Bk.get B11 rfl) ?_ | refine gT rfl rfl rfl rfl ?_ | refine gF rfl rfl rfl rfl ?_ | refine condT rfl rfl ?_ | refine condF rfl rfl ?_); refine go T_ok 200 rfl ?_)
 obtain ⟨a0, a1⟩ := hc2.s a (by simp)
 obtain ⟨b0, b1⟩ := hc2.s b (by simp)
 have p0 := hc.p0
 have x1 := abvP_bd hc s a0 a1 (m.c.level * 1) false
 have x2 := abvP_bd hc s a0 a1 (m.c.level * 2) false
 have x3 := abvP_bd hc s b0 b1 (m.c.level * 2) false
 refine call rfl rfl rfl (ok _ (by decide) rfl) (tells_any m a 1 s _ (cpm Sm) hc hs a0 a1 (by decide) (by decide)) ?_
 rintro x w ⟨rfl, qk⟩
 have B4 := B4.no qk
 have B9 := B9.no qk
 have B11 := B11.no qk
 have Sm := Sm.no qk
 have q := q.trans qk
 refine go T_ok 200 rfl ?_
 repeat ((first | refine ldA T_ok rfl rfl rfl rfl rfl (Bk.all B4) ?_ | refine ldA T_ok rfl rfl rfl rfl rfl (Bk.all B9) ?_ | refine ldA T_ok rfl rfl rfl rfl rfl (Bk.all B11) ?_ | refine ld T_ok rfl rfl rfl rfl (Bk.get B4 rfl) ?_ | refine ld T_ok rfl rfl rfl rfl (Bk.get B9 rfl) ?_ | refine ld T_ok rfl rfl rfl rfl (Bk.get B11 rfl) ?_ | refine gT rfl rfl rfl rfl ?_ | refine gF rfl rfl rfl rfl ?_ | refine condT rfl rfl ?_ | refine condF rfl rfl ?_); refine go T_ok 200 rfl ?_)
 refine call rfl rfl rfl (ok _ (by decide) rfl) (tells_any m a 2 s _ (cpm Sm) hc hs a0 a1 (by decide) (by decide)) ?_
 rintro x w ⟨rfl, qk⟩
 have B4 := B4.no qk
 have B9 := B9.no qk
 have B11 := B11.no qk
 have Sm := Sm.no qk
 have q := q.trans qk
 refine go T_ok 200 rfl ?_
 repeat ((first | refine ldA T_ok rfl rfl rfl rfl rfl (Bk.all B4) ?_ | refine ldA T_ok rfl rfl rfl rfl rfl (Bk.all B9) ?_ | refine ldA T_ok rfl rfl rfl rfl rfl (Bk.all B11) ?_ | refine ld T_ok rfl rfl rfl rfl (Bk.get B4 rfl) ?_ | refine ld T_ok rfl rfl rfl rfl (Bk.get B9 rfl) ?_ | refine ld T_ok rfl rfl rfl rfl (Bk.get B11 rfl) ?_ | refine gT rfl rfl rfl rfl ?_ | refine gF rfl rfl rfl rfl ?_ | refine condT rfl rfl ?_ | refine condF rfl rfl ?_); refine go T_ok 200 rfl ?_)
 refine call rfl rfl rfl (ok _ (by decide) rfl) (tells_any m b 2 s _ (cpm Sm) hc hs b0 b1 (by decide) (by decide)) ?_
 rintro x w ⟨rfl, qk⟩
 have B4 := B4.no qk
 have B9 := B9.no qk
 have B11 := B11.no qk
 have Sm := Sm.no qk
 have q := q.trans qk
 refine go T_ok 200 rfl ?_
 repeat ((first | refine ldA T_ok rfl rfl rfl rfl rfl (Bk.all B4) ?_ | refine ldA T_ok rfl rfl rfl rfl rfl (Bk.all B9) ?_ | refine ldA T_ok rfl rfl rfl rfl rfl (Bk.all B11) ?_ | refine ld T_ok rfl rfl rfl rfl (Bk.get B4 rfl) ?_ | refine ld T_ok rfl rfl rfl rfl (Bk.get B9 rfl) ?_ | refine ld T_ok rfl rfl rfl rfl (Bk.get B11 rfl) ?_ | refine gT rfl rfl rfl rfl ?_ | refine gF rfl rfl rfl rfl ?_ | refine condT rfl rfl ?_ | refine condF rfl rfl ?_); refine go T_ok 200 rfl ?_)
 rw [decide_eq_false (show ¬ abvP m.c s (a, m.c.level * 1, false) < 0 by omega)]
 refine go T_ok 200 rfl ?_
 repeat ((first | refine ldA T_ok rfl rfl rfl rfl rfl (Bk.all B4) ?_ | refine ldA T_ok rfl rfl rfl rfl rfl (Bk.all B9) ?_ | refine ldA T_ok rfl rfl rfl rfl rfl (Bk.all B11) ?_ | refine ld T_ok rfl rfl rfl rfl (Bk.get B4 rfl) ?_ | refine ld T_ok rfl rfl rfl rfl (Bk.get B9 rfl) ?_ | refine ld T_ok rfl rfl rfl rfl (Bk.get B11 rfl) ?_ | refine gT rfl rfl rfl rfl ?_ | refine gF rfl rfl rfl rfl ?_ | refine condT rfl rfl ?_ | refine condF rfl rfl ?_); refine go T_ok 200 rfl ?_)
 rw [decide_eq_false (show ¬ abvP m.c s (a, m.c.level * 2, false) < 0 by omega)]
 refine go T_ok 200 rfl ?_
 repeat ((first | refine ldA T_ok rfl rfl rfl rfl rfl (Bk.all B4) ?_ | refine ldA T_ok rfl rfl rfl rfl rfl (Bk.all B9) ?_ | refine ldA T_ok rfl rfl rfl rfl rfl (Bk.all B11) ?_ | refine ld T_ok rfl rfl rfl rfl (Bk.get B4 rfl) ?_ | refine ld T_ok rfl rfl rfl rfl (Bk.get B9 rfl) ?_ | refine ld T_ok rfl rfl rfl rfl (Bk.get B11 rfl) ?_ | refine gT rfl rfl rfl rfl ?_ | refine gF rfl rfl rfl rfl ?_ | refine condT rfl rfl ?_ | refine condF rfl rfl ?_); refine go T_ok 200 rfl ?_)
 rw [decide_eq_false (show ¬ abvP m.c s (b, m.c.level * 2, false) < 0 by omega)]
 refine go T_ok 200 rfl ?_
 repeat ((first | refine ldA T_ok rfl rfl rfl rfl rfl (Bk.all B4) ?_ | refine ldA T_ok rfl rfl rfl rfl rfl (Bk.all B9) ?_ | refine ldA T_ok rfl rfl rfl rfl rfl (Bk.all B11) ?_ | refine ld T_ok rfl rfl rfl rfl (Bk.get B4 rfl) ?_ | refine ld T_ok rfl rfl rfl rfl (Bk.get B9 rfl) ?_ | refine ld T_ok rfl rfl rfl rfl (Bk.get B11 rfl) ?_ | refine gT rfl rfl rfl rfl ?_ | refine gF rfl rfl rfl rfl ?_ | refine condT rfl rfl ?_ | refine condF rfl rfl ?_); refine go T_ok 200 rfl ?_)
 have o1 := odds_one m.c s a
 have o2 := odds_two m.c s a b
 have hl2 : LsOk m.c [a, b] := ls_ch hc2
 have od2 := odds_od hc hs false hl2
 have d1 := od2.w0; have d2 := od2.w1; have d3 := od2.a0; have d4 := od2.a1
 rw [o2] at d1 d2 d3 d4
 simp only at d1 d2 d3 d4
 have hm1 : 0 ≤ (m.c.parts ^ s - abvP m.c s (a, m.c.level * 2, false)) * (m.c.parts ^ s - abvP m.c s (b, m.c.level * 2, false)) := Int.mul_nonneg (by omega) (by omega)
 have h62 := pow_s62 hc hs
 refine eqS (l' := [(oddsP m.c s false [a]).1, (oddsP m.c s false [a]).2]) (m := [abvP m.c s (a, m.c.level * 1, false), m.c.parts ^ s]) rfl rfl (by kernel_rfl) rfl rfl rfl ?_
 rw [o1]
 rw [show ([abvP m.c s (a, m.c.level * 1, false), m.c.parts ^ s] == [abvP m.c s (a, m.c.level * 1, false), m.c.parts ^ s]) = true by simp]
 refine go T_ok 200 rfl ?_
 repeat ((first | refine ldA T_ok rfl rfl rfl rfl rfl (Bk.all B4) ?_ | refine ldA T_ok rfl rfl rfl rfl rfl (Bk.all B9) ?_ | refine ldA T_ok rfl rfl rfl rfl rfl (Bk.all B11) ?_ | refine ld T_ok rfl rfl rfl rfl (Bk.get B4 rfl) ?_ | refine ld T_ok rfl rfl rfl rfl (Bk.get B9 rfl) ?_ | refine ld T_ok rfl rfl rfl rfl (Bk.get B11 rfl) ?_ | refine gT rfl rfl rfl rfl ?_ | refine gF rfl rfl rfl rfl ?_ | refine condT rfl rfl ?_ | refine condF rfl rfl ?_); refine go T_ok 200 rfl ?_)
 rw [w64_id (x := m.c.parts ^ s * m.c.parts ^ s) (by omega) (by omega), w64_id (x := m.c.parts ^ s - abvP m.c s (a, m.c.level * 2, false)) (by omega) (by omega), w64_id (x := m.c.parts ^ s - abvP m.c s (b, m.c.level * 2, false)) (by omega) (by omega), w64_id (x := (m.c.parts ^ s - abvP m.c s (a, m.c.level * 2, false)) * (m.c.parts ^ s - abvP m.c s (b, m.c.level * 2, false))) (by omega) (by omega), w64_id (x := m.c.parts ^ s * m.c.parts ^ s - (m.c.parts ^ s - abvP m.c s (a, m.c.level * 2, false)) * (m.c.parts ^ s - abvP m.c s (b, m.c.level * 2, false))) (by omega) (by omega)]
 refine eqS (l' := [(oddsP m.c s false [a, b]).1, (oddsP m.c s false [a, b]).2]) (m := [m.c.parts ^ s * m.c.parts ^ s - (m.c.parts ^ s - abvP m.c s (a, m.c.level * 2, false)) * (m.c.parts ^ s - abvP m.c s (b, m.c.level * 2, false)), m.c.parts ^ s * m.c.parts ^ s]) rfl rfl (by kernel_rfl) rfl rfl rfl ?_
 rw [o2]
 rw [show ∀ x y : Int, ([x, y] == [x, y]) = true from fun x y => by simp]
 refine go T_ok 200 rfl ?_
 repeat ((first | refine ldA T_ok rfl rfl rfl rfl rfl (Bk.all B4) ?_ | refine ldA T_ok rfl rfl rfl rfl rfl (Bk.all B9) ?_ | refine ldA T_ok rfl rfl rfl rfl rfl (Bk.all B11) ?_ | refine ld T_ok rfl rfl rfl rfl (Bk.get B4 rfl) ?_ | refine ld T_ok rfl rfl rfl rfl (Bk.get B9 rfl) ?_ | refine ld T_ok rfl rfl rfl rfl (Bk.get B11 rfl) ?_ | refine gT rfl rfl rfl rfl ?_ | refine gF rfl rfl rfl rfl ?_ | refine condT rfl rfl ?_ | refine condF rfl rfl ?_); refine go T_ok 200 rfl ?_)
 refine call rfl rfl rfl (ok _ (by decide) rfl) (known_any _) ?_
 rintro v wk ⟨rfl, qk⟩
 refine go T_ok 200 rfl ?_
 exact ret (ret1 (v := .bool true) Try.results8 rfl ⟨rfl, q.trans qk⟩)
end Go.Proofs.Yteenhfnamjbaiaa
