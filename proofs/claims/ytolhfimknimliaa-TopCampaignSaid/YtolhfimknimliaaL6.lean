/- The walk of TopCampaign. -/
import Derived.Test.YtolhfimknimliaaL3
import Derived.Test.YtolhfimknimliaaL5
namespace Go.Proofs.Ytolhfimknimliaa.K
open Go.Ev Go.Proofs Go.Top
open Go.Camp (Cp CpOk ChOk Site SiteOk Sites costP siteAt siteAt_ok SlOk)
attribute [local irreducible] At AtH
def T6 : Tab := [(22, .slc 83 1 24), (26, .str 6 [(0,1,false),(1,1,false),(2,2,true),(4,2,true)] [I 0, .slice none 0 0, I 0, I 0, I 0, I 0]), (27, .slc 85 3 24), (24, .str 2 [(0,1,false),(1,1,false)] [I 0, I 0])] ++ T
theorem T6_ok : tabOk Try.prog T6 = true := by kernel_rfl
structure CaX where
 i : Nat
 S : List Site
 A : Option Addr
 c : Nat
set_option maxRecDepth 20000 in
set_option maxHeartbeats 32000000 in
theorem walk_TopCampaign (a : Sk) (t : Sli Rw) (op less lv : Int) (o : Sli Int) (s0 pc : Int) (w0 : World) (H : SkI w0 a) (Ht : InR w0 t) (_ : I64 op) (_ : I64 less) (_ : I64 lv) (ho : InI w0 o) (_ : I64 s0) (_ : I64 pc) :
  Ret Try.prog 6 [.agg (skyL a).toArray, .slice t.A t.l.length t.c, I op, I less, I lv, .slice o.A o.l.length o.c, I s0, I pc] w0 fun v w' => v = .bool true ∧ Chg No w0 w' := by
 have H0 : SkM w0 a.bins := SkM_of H.2
 have hlen := H0.len
 have St0 := Ht.2.2.1
 have htm := max63 Ht.ml
 have So0 := ho.sl
 refine enter Try.func6 rfl Try.ntmps6 rfl ?_
 refine go T6_ok 200 rfl ?_
 refine bx rfl rfl rfl (cs := skyL a) rfl ?_
 intro g8 u8 hg8 hs8 q8 B8
 have q := q8
 refine go T6_ok 200 rfl ?_
 repeat ((first | refine ldA T6_ok rfl rfl rfl rfl rfl (Bk.all B8) ?_ | refine ld T6_ok rfl rfl rfl rfl (Bk.get B8 rfl) ?_ | refine gT rfl rfl rfl rfl ?_ | refine gF rfl rfl rfl rfl ?_ | refine condT rfl rfl ?_ | refine condF rfl rfl ?_); refine go T6_ok 200 rfl ?_)
 by_cases z1 : 50 < (t.l.length : Int)
 ·rw [decide_eq_true z1]
  refine go T6_ok 200 rfl ?_
  repeat ((first | refine ldA T6_ok rfl rfl rfl rfl rfl (Bk.all B8) ?_ | refine ld T6_ok rfl rfl rfl rfl (Bk.get B8 rfl) ?_ | refine gT rfl rfl rfl rfl ?_ | refine gF rfl rfl rfl rfl ?_ | refine condT rfl rfl ?_ | refine condF rfl rfl ?_); refine go T6_ok 200 rfl ?_)
  refine call rfl rfl rfl (ok _ (by decide) rfl) (known_any _) ?_
  rintro v wk ⟨rfl, qk⟩
  refine go T6_ok 200 rfl ?_
  exact ret (ret1 (v := .bool true) Try.results6 rfl ⟨rfl, q.trans qk⟩)
 rw [decide_eq_false z1]
 refine go T6_ok 200 rfl ?_
 repeat ((first | refine ldA T6_ok rfl rfl rfl rfl rfl (Bk.all B8) ?_ | refine ld T6_ok rfl rfl rfl rfl (Bk.get B8 rfl) ?_ | refine gT rfl rfl rfl rfl ?_ | refine gF rfl rfl rfl rfl ?_ | refine condT rfl rfl ?_ | refine condF rfl rfl ?_); refine go T6_ok 200 rfl ?_)
 by_cases z2 : 8 < (a.bins.l.length : Int)
 ·rw [decide_eq_true z2]
  refine go T6_ok 200 rfl ?_
  repeat ((first | refine ldA T6_ok rfl rfl rfl rfl rfl (Bk.all B8) ?_ | refine ld T6_ok rfl rfl rfl rfl (Bk.get B8 rfl) ?_ | refine gT rfl rfl rfl rfl ?_ | refine gF rfl rfl rfl rfl ?_ | refine condT rfl rfl ?_ | refine condF rfl rfl ?_); refine go T6_ok 200 rfl ?_)
  refine call rfl rfl rfl (ok _ (by decide) rfl) (known_any _) ?_
  rintro v wk ⟨rfl, qk⟩
  refine go T6_ok 200 rfl ?_
  exact ret (ret1 (v := .bool true) Try.results6 rfl ⟨rfl, q.trans qk⟩)
 rw [decide_eq_false z2]
 refine go T6_ok 200 rfl ?_
 repeat ((first | refine ldA T6_ok rfl rfl rfl rfl rfl (Bk.all B8) ?_ | refine ld T6_ok rfl rfl rfl rfl (Bk.get B8 rfl) ?_ | refine gT rfl rfl rfl rfl ?_ | refine gF rfl rfl rfl rfl ?_ | refine condT rfl rfl ?_ | refine condF rfl rfl ?_); refine go T6_ok 200 rfl ?_)
 by_cases z3 : 8 < a.p
 ·rw [decide_eq_true z3]
  refine go T6_ok 200 rfl ?_
  repeat ((first | refine ldA T6_ok rfl rfl rfl rfl rfl (Bk.all B8) ?_ | refine ld T6_ok rfl rfl rfl rfl (Bk.get B8 rfl) ?_ | refine gT rfl rfl rfl rfl ?_ | refine gF rfl rfl rfl rfl ?_ | refine condT rfl rfl ?_ | refine condF rfl rfl ?_); refine go T6_ok 200 rfl ?_)
  refine call rfl rfl rfl (ok _ (by decide) rfl) (known_any _) ?_
  rintro v wk ⟨rfl, qk⟩
  refine go T6_ok 200 rfl ?_
  exact ret (ret1 (v := .bool true) Try.results6 rfl ⟨rfl, q.trans qk⟩)
 rw [decide_eq_false z3]
 refine go T6_ok 200 rfl ?_
 repeat ((first | refine ldA T6_ok rfl rfl rfl rfl rfl (Bk.all B8) ?_ | refine ld T6_ok rfl rfl rfl rfl (Bk.get B8 rfl) ?_ | refine gT rfl rfl rfl rfl ?_ | refine gF rfl rfl rfl rfl ?_ | refine condT rfl rfl ?_ | refine condF rfl rfl ?_); refine go T6_ok 200 rfl ?_)
 by_cases z4 : 10 < (o.l.length : Int)
 ·rw [decide_eq_true z4]
  refine go T6_ok 200 rfl ?_
  repeat ((first | refine ldA T6_ok rfl rfl rfl rfl rfl (Bk.all B8) ?_ | refine ld T6_ok rfl rfl rfl rfl (Bk.get B8 rfl) ?_ | refine gT rfl rfl rfl rfl ?_ | refine gF rfl rfl rfl rfl ?_ | refine condT rfl rfl ?_ | refine condF rfl rfl ?_); refine go T6_ok 200 rfl ?_)
  refine call rfl rfl rfl (ok _ (by decide) rfl) (known_any _) ?_
  rintro v wk ⟨rfl, qk⟩
  refine go T6_ok 200 rfl ?_
  exact ret (ret1 (v := .bool true) Try.results6 rfl ⟨rfl, q.trans qk⟩)
 rw [decide_eq_false z4]
 refine go T6_ok 200 rfl ?_
 repeat ((first | refine ldA T6_ok rfl rfl rfl rfl rfl (Bk.all B8) ?_ | refine ld T6_ok rfl rfl rfl rfl (Bk.get B8 rfl) ?_ | refine gT rfl rfl rfl rfl ?_ | refine gF rfl rfl rfl rfl ?_ | refine condT rfl rfl ?_ | refine condF rfl rfl ?_); refine go T6_ok 200 rfl ?_)
 refine call rfl rfl rfl (ok _ (by decide) rfl) (rSky_any a.p a.bins a.be a.al _ (H0.no q)) ?_
 rintro x w ⟨⟨b', rfl, hb⟩, qk⟩
 have B8 := B8.no qk
 have q := q.trans qk
 cases b' with
 | false =>
  refine go T6_ok 200 rfl ?_
  repeat ((first | refine ldA T6_ok rfl rfl rfl rfl rfl (Bk.all B8) ?_ | refine ld T6_ok rfl rfl rfl rfl (Bk.get B8 rfl) ?_ | refine gT rfl rfl rfl rfl ?_ | refine gF rfl rfl rfl rfl ?_ | refine condT rfl rfl ?_ | refine condF rfl rfl ?_); refine go T6_ok 200 rfl ?_)
  refine call rfl rfl rfl (ok _ (by decide) rfl) (known_any _) ?_
  rintro v wk ⟨rfl, qk⟩
  refine go T6_ok 200 rfl ?_
  exact ret (ret1 (v := .bool true) Try.results6 rfl ⟨rfl, q.trans qk⟩)
 | true =>
 have hsk := hb.1 rfl
 refine go T6_ok 200 rfl ?_
 repeat ((first | refine ldA T6_ok rfl rfl rfl rfl rfl (Bk.all B8) ?_ | refine ld T6_ok rfl rfl rfl rfl (Bk.get B8 rfl) ?_ | refine gT rfl rfl rfl rfl ?_ | refine gF rfl rfl rfl rfl ?_ | refine condT rfl rfl ?_ | refine condF rfl rfl ?_); refine go T6_ok 200 rfl ?_)
 refine call rfl rfl rfl (ok _ (by decide) rfl) (rRanges_any t.l t.A t.c _ _ (St0.no q) htm) ?_
 rintro x w ⟨⟨b', rfl, hb⟩, qk⟩
 have B8 := B8.no qk
 have q := q.trans qk
 cases b' with
 | false =>
  refine go T6_ok 200 rfl ?_
  repeat ((first | refine ldA T6_ok rfl rfl rfl rfl rfl (Bk.all B8) ?_ | refine ld T6_ok rfl rfl rfl rfl (Bk.get B8 rfl) ?_ | refine gT rfl rfl rfl rfl ?_ | refine gF rfl rfl rfl rfl ?_ | refine condT rfl rfl ?_ | refine condF rfl rfl ?_); refine go T6_ok 200 rfl ?_)
  refine call rfl rfl rfl (ok _ (by decide) rfl) (known_any _) ?_
  rintro v wk ⟨rfl, qk⟩
  refine go T6_ok 200 rfl ?_
  exact ret (ret1 (v := .bool true) Try.results6 rfl ⟨rfl, q.trans qk⟩)
 | true =>
 have hrg := hb.1 rfl
 refine go T6_ok 200 rfl ?_
 repeat ((first | refine ldA T6_ok rfl rfl rfl rfl rfl (Bk.all B8) ?_ | refine ld T6_ok rfl rfl rfl rfl (Bk.get B8 rfl) ?_ | refine gT rfl rfl rfl rfl ?_ | refine gF rfl rfl rfl rfl ?_ | refine condT rfl rfl ?_ | refine condF rfl rfl ?_); refine go T6_ok 200 rfl ?_)
 by_cases z5 : op < 0
 ·rw [decide_eq_true z5]
  refine go T6_ok 200 rfl ?_
  repeat ((first | refine ldA T6_ok rfl rfl rfl rfl rfl (Bk.all B8) ?_ | refine ld T6_ok rfl rfl rfl rfl (Bk.get B8 rfl) ?_ | refine gT rfl rfl rfl rfl ?_ | refine gF rfl rfl rfl rfl ?_ | refine condT rfl rfl ?_ | refine condF rfl rfl ?_); refine go T6_ok 200 rfl ?_)
  refine call rfl rfl rfl (ok _ (by decide) rfl) (known_any _) ?_
  rintro v wk ⟨rfl, qk⟩
  refine go T6_ok 200 rfl ?_
  exact ret (ret1 (v := .bool true) Try.results6 rfl ⟨rfl, q.trans qk⟩)
 rw [decide_eq_false z5]
 refine go T6_ok 200 rfl ?_
 repeat ((first | refine ldA T6_ok rfl rfl rfl rfl rfl (Bk.all B8) ?_ | refine ld T6_ok rfl rfl rfl rfl (Bk.get B8 rfl) ?_ | refine gT rfl rfl rfl rfl ?_ | refine gF rfl rfl rfl rfl ?_ | refine condT rfl rfl ?_ | refine condF rfl rfl ?_); refine go T6_ok 200 rfl ?_)
 by_cases z6 : 1000000 < op
 ·rw [decide_eq_true z6]
  refine go T6_ok 200 rfl ?_
  repeat ((first | refine ldA T6_ok rfl rfl rfl rfl rfl (Bk.all B8) ?_ | refine ld T6_ok rfl rfl rfl rfl (Bk.get B8 rfl) ?_ | refine gT rfl rfl rfl rfl ?_ | refine gF rfl rfl rfl rfl ?_ | refine condT rfl rfl ?_ | refine condF rfl rfl ?_); refine go T6_ok 200 rfl ?_)
  refine call rfl rfl rfl (ok _ (by decide) rfl) (known_any _) ?_
  rintro v wk ⟨rfl, qk⟩
  refine go T6_ok 200 rfl ?_
  exact ret (ret1 (v := .bool true) Try.results6 rfl ⟨rfl, q.trans qk⟩)
 rw [decide_eq_false z6]
 refine go T6_ok 200 rfl ?_
 repeat ((first | refine ldA T6_ok rfl rfl rfl rfl rfl (Bk.all B8) ?_ | refine ld T6_ok rfl rfl rfl rfl (Bk.get B8 rfl) ?_ | refine gT rfl rfl rfl rfl ?_ | refine gF rfl rfl rfl rfl ?_ | refine condT rfl rfl ?_ | refine condF rfl rfl ?_); refine go T6_ok 200 rfl ?_)
 by_cases z7 : less < 0
 ·rw [decide_eq_true z7]
  refine go T6_ok 200 rfl ?_
  repeat ((first | refine ldA T6_ok rfl rfl rfl rfl rfl (Bk.all B8) ?_ | refine ld T6_ok rfl rfl rfl rfl (Bk.get B8 rfl) ?_ | refine gT rfl rfl rfl rfl ?_ | refine gF rfl rfl rfl rfl ?_ | refine condT rfl rfl ?_ | refine condF rfl rfl ?_); refine go T6_ok 200 rfl ?_)
  refine call rfl rfl rfl (ok _ (by decide) rfl) (known_any _) ?_
  rintro v wk ⟨rfl, qk⟩
  refine go T6_ok 200 rfl ?_
  exact ret (ret1 (v := .bool true) Try.results6 rfl ⟨rfl, q.trans qk⟩)
 rw [decide_eq_false z7]
 refine go T6_ok 200 rfl ?_
 repeat ((first | refine ldA T6_ok rfl rfl rfl rfl rfl (Bk.all B8) ?_ | refine ld T6_ok rfl rfl rfl rfl (Bk.get B8 rfl) ?_ | refine gT rfl rfl rfl rfl ?_ | refine gF rfl rfl rfl rfl ?_ | refine condT rfl rfl ?_ | refine condF rfl rfl ?_); refine go T6_ok 200 rfl ?_)
 by_cases z8 : op < less
 ·rw [decide_eq_true z8]
  refine go T6_ok 200 rfl ?_
  repeat ((first | refine ldA T6_ok rfl rfl rfl rfl rfl (Bk.all B8) ?_ | refine ld T6_ok rfl rfl rfl rfl (Bk.get B8 rfl) ?_ | refine gT rfl rfl rfl rfl ?_ | refine gF rfl rfl rfl rfl ?_ | refine condT rfl rfl ?_ | refine condF rfl rfl ?_); refine go T6_ok 200 rfl ?_)
  refine call rfl rfl rfl (ok _ (by decide) rfl) (known_any _) ?_
  rintro v wk ⟨rfl, qk⟩
  refine go T6_ok 200 rfl ?_
  exact ret (ret1 (v := .bool true) Try.results6 rfl ⟨rfl, q.trans qk⟩)
 rw [decide_eq_false z8]
 refine go T6_ok 200 rfl ?_
 repeat ((first | refine ldA T6_ok rfl rfl rfl rfl rfl (Bk.all B8) ?_ | refine ld T6_ok rfl rfl rfl rfl (Bk.get B8 rfl) ?_ | refine gT rfl rfl rfl rfl ?_ | refine gF rfl rfl rfl rfl ?_ | refine condT rfl rfl ?_ | refine condF rfl rfl ?_); refine go T6_ok 200 rfl ?_)
 by_cases z9 : lv < 2
 ·rw [decide_eq_true z9]
  refine go T6_ok 200 rfl ?_
  repeat ((first | refine ldA T6_ok rfl rfl rfl rfl rfl (Bk.all B8) ?_ | refine ld T6_ok rfl rfl rfl rfl (Bk.get B8 rfl) ?_ | refine gT rfl rfl rfl rfl ?_ | refine gF rfl rfl rfl rfl ?_ | refine condT rfl rfl ?_ | refine condF rfl rfl ?_); refine go T6_ok 200 rfl ?_)
  refine call rfl rfl rfl (ok _ (by decide) rfl) (known_any _) ?_
  rintro v wk ⟨rfl, qk⟩
  refine go T6_ok 200 rfl ?_
  exact ret (ret1 (v := .bool true) Try.results6 rfl ⟨rfl, q.trans qk⟩)
 rw [decide_eq_false z9]
 refine go T6_ok 200 rfl ?_
 repeat ((first | refine ldA T6_ok rfl rfl rfl rfl rfl (Bk.all B8) ?_ | refine ld T6_ok rfl rfl rfl rfl (Bk.get B8 rfl) ?_ | refine gT rfl rfl rfl rfl ?_ | refine gF rfl rfl rfl rfl ?_ | refine condT rfl rfl ?_ | refine condF rfl rfl ?_); refine go T6_ok 200 rfl ?_)
 by_cases y1 : 1000 < lv
 ·rw [decide_eq_true y1]
  refine go T6_ok 200 rfl ?_
  repeat ((first | refine ldA T6_ok rfl rfl rfl rfl rfl (Bk.all B8) ?_ | refine ld T6_ok rfl rfl rfl rfl (Bk.get B8 rfl) ?_ | refine gT rfl rfl rfl rfl ?_ | refine gF rfl rfl rfl rfl ?_ | refine condT rfl rfl ?_ | refine condF rfl rfl ?_); refine go T6_ok 200 rfl ?_)
  refine call rfl rfl rfl (ok _ (by decide) rfl) (known_any _) ?_
  rintro v wk ⟨rfl, qk⟩
  refine go T6_ok 200 rfl ?_
  exact ret (ret1 (v := .bool true) Try.results6 rfl ⟨rfl, q.trans qk⟩)
 rw [decide_eq_false y1]
 refine go T6_ok 200 rfl ?_
 repeat ((first | refine ldA T6_ok rfl rfl rfl rfl rfl (Bk.all B8) ?_ | refine ld T6_ok rfl rfl rfl rfl (Bk.get B8 rfl) ?_ | refine gT rfl rfl rfl rfl ?_ | refine gF rfl rfl rfl rfl ?_ | refine condT rfl rfl ?_ | refine condF rfl rfl ?_); refine go T6_ok 200 rfl ?_)
 by_cases y2 : s0 < 0
 ·rw [decide_eq_true y2]
  refine go T6_ok 200 rfl ?_
  repeat ((first | refine ldA T6_ok rfl rfl rfl rfl rfl (Bk.all B8) ?_ | refine ld T6_ok rfl rfl rfl rfl (Bk.get B8 rfl) ?_ | refine gT rfl rfl rfl rfl ?_ | refine gF rfl rfl rfl rfl ?_ | refine condT rfl rfl ?_ | refine condF rfl rfl ?_); refine go T6_ok 200 rfl ?_)
  refine call rfl rfl rfl (ok _ (by decide) rfl) (known_any _) ?_
  rintro v wk ⟨rfl, qk⟩
  refine go T6_ok 200 rfl ?_
  exact ret (ret1 (v := .bool true) Try.results6 rfl ⟨rfl, q.trans qk⟩)
 rw [decide_eq_false y2]
 refine go T6_ok 200 rfl ?_
 repeat ((first | refine ldA T6_ok rfl rfl rfl rfl rfl (Bk.all B8) ?_ | refine ld T6_ok rfl rfl rfl rfl (Bk.get B8 rfl) ?_ | refine gT rfl rfl rfl rfl ?_ | refine gF rfl rfl rfl rfl ?_ | refine condT rfl rfl ?_ | refine condF rfl rfl ?_); refine go T6_ok 200 rfl ?_)
 by_cases y3 : 2 < s0
 ·rw [decide_eq_true y3]
  refine go T6_ok 200 rfl ?_
  repeat ((first | refine ldA T6_ok rfl rfl rfl rfl rfl (Bk.all B8) ?_ | refine ld T6_ok rfl rfl rfl rfl (Bk.get B8 rfl) ?_ | refine gT rfl rfl rfl rfl ?_ | refine gF rfl rfl rfl rfl ?_ | refine condT rfl rfl ?_ | refine condF rfl rfl ?_); refine go T6_ok 200 rfl ?_)
  refine call rfl rfl rfl (ok _ (by decide) rfl) (known_any _) ?_
  rintro v wk ⟨rfl, qk⟩
  refine go T6_ok 200 rfl ?_
  exact ret (ret1 (v := .bool true) Try.results6 rfl ⟨rfl, q.trans qk⟩)
 rw [decide_eq_false y3]
 refine go T6_ok 200 rfl ?_
 repeat ((first | refine ldA T6_ok rfl rfl rfl rfl rfl (Bk.all B8) ?_ | refine ld T6_ok rfl rfl rfl rfl (Bk.get B8 rfl) ?_ | refine gT rfl rfl rfl rfl ?_ | refine gF rfl rfl rfl rfl ?_ | refine condT rfl rfl ?_ | refine condF rfl rfl ?_); refine go T6_ok 200 rfl ?_)
 by_cases y4 : pc < 0
 ·rw [decide_eq_true y4]
  refine go T6_ok 200 rfl ?_
  repeat ((first | refine ldA T6_ok rfl rfl rfl rfl rfl (Bk.all B8) ?_ | refine ld T6_ok rfl rfl rfl rfl (Bk.get B8 rfl) ?_ | refine gT rfl rfl rfl rfl ?_ | refine gF rfl rfl rfl rfl ?_ | refine condT rfl rfl ?_ | refine condF rfl rfl ?_); refine go T6_ok 200 rfl ?_)
  refine call rfl rfl rfl (ok _ (by decide) rfl) (known_any _) ?_
  rintro v wk ⟨rfl, qk⟩
  refine go T6_ok 200 rfl ?_
  exact ret (ret1 (v := .bool true) Try.results6 rfl ⟨rfl, q.trans qk⟩)
 rw [decide_eq_false y4]
 refine go T6_ok 200 rfl ?_
 repeat ((first | refine ldA T6_ok rfl rfl rfl rfl rfl (Bk.all B8) ?_ | refine ld T6_ok rfl rfl rfl rfl (Bk.get B8 rfl) ?_ | refine gT rfl rfl rfl rfl ?_ | refine gF rfl rfl rfl rfl ?_ | refine condT rfl rfl ?_ | refine condF rfl rfl ?_); refine go T6_ok 200 rfl ?_)
 by_cases y5 : 100 < pc
 ·rw [decide_eq_true y5]
  refine go T6_ok 200 rfl ?_
  repeat ((first | refine ldA T6_ok rfl rfl rfl rfl rfl (Bk.all B8) ?_ | refine ld T6_ok rfl rfl rfl rfl (Bk.get B8 rfl) ?_ | refine gT rfl rfl rfl rfl ?_ | refine gF rfl rfl rfl rfl ?_ | refine condT rfl rfl ?_ | refine condF rfl rfl ?_); refine go T6_ok 200 rfl ?_)
  refine call rfl rfl rfl (ok _ (by decide) rfl) (known_any _) ?_
  rintro v wk ⟨rfl, qk⟩
  refine go T6_ok 200 rfl ?_
  exact ret (ret1 (v := .bool true) Try.results6 rfl ⟨rfl, q.trans qk⟩)
 rw [decide_eq_false y5]
 obtain ⟨s, rfl⟩ : ∃ k : Nat, s0 = (k : Int) := ⟨s0.toNat, by omega⟩
 refine go T6_ok 200 rfl ?_
 repeat ((first | refine ldA T6_ok rfl rfl rfl rfl rfl (Bk.all B8) ?_ | refine ld T6_ok rfl rfl rfl rfl (Bk.get B8 rfl) ?_ | refine gT rfl rfl rfl rfl ?_ | refine gF rfl rfl rfl rfl ?_ | refine condT rfl rfl ?_ | refine condF rfl rfl ?_); refine go T6_ok 200 rfl ?_)
 refine nw rfl rfl (z := .agg #[I 0, I 0, I 0, .slice none 0 0]) (by kernel_rfl) (cs := [I 0, I 0, I 0, .slice none 0 0]) rfl ?_
 intro g17 w hg17 hs17 qk B17
 have l8 := B8.lt
 have lq := q.size
 have B8 := B8.no qk
 have q := q.trans qk
 have u17 : g8 < g17 := by omega
 have u0 : w0.heap.size ≤ g8 := by omega
 clear hg17 hs17 l8 lq
 refine go T6_ok 200 rfl ?_
 repeat ((first | refine ldA T6_ok rfl rfl rfl rfl rfl (Bk.all B8) ?_ | refine ld T6_ok rfl rfl rfl rfl (Bk.get B8 rfl) ?_ | refine gT rfl rfl rfl rfl ?_ | refine gF rfl rfl rfl rfl ?_ | refine condT rfl rfl ?_ | refine condF rfl rfl ?_); refine go T6_ok 200 rfl ?_)
 refine stA T6_ok rfl rfl rfl rfl (vs := [I a.p, I lv, I 3, .slice none 0 0]) rfl rfl rfl B17 rfl ?_
 intro w qk B17 hz17
 have B17 : Bk w g17 63 [I a.p, I lv, I 3, .slice none 0 0] := B17
 have B8 := B8.keep qk (by omega)
 have q := q.step qk (fun k hk e => by omega)
 refine go T6_ok 200 rfl ?_
 repeat ((first | refine ldA T6_ok rfl rfl rfl rfl rfl (Bk.all B8) ?_ | refine ld T6_ok rfl rfl rfl rfl (Bk.get B8 rfl) ?_ | refine gT rfl rfl rfl rfl ?_ | refine gF rfl rfl rfl rfl ?_ | refine condT rfl rfl ?_ | refine condF rfl rfl ?_); refine go T6_ok 200 rfl ?_)
 refine loop [1, 2, 3, 4, 5, 6, 7, 8, 17, 18] (fun x : CaX => [.slice t.A t.l.length t.c, I op, I less, I lv, .slice o.A o.l.length o.c, I (s : Int), I pc, .pointer (some ⟨g8, 0, none⟩), .pointer (some ⟨g17, 0, none⟩), .int .i64 (x.i : Int)])
  (fun x w' => x.i ≤ a.bins.l.length ∧ x.S.length ≤ x.i ∧ (∀ s ∈ x.S, s.tru ≤ s.lo) ∧ Chg No w0 w' ∧ Bk w' g8 26 (skyL a) ∧ Bk w' g17 63 [I a.p, I lv, I 3, .slice x.A x.S.length x.c] ∧ w'.ownsRow (g17 + 1) 77 4 (.slice x.A x.S.length x.c) x.S.length (x.S.flatMap siL)) (fun x => a.bins.l.length - x.i)
  ⟨0, [], none, 0⟩ (fun _ => rfl) rfl ⟨Nat.zero_le _, Nat.zero_le _, (fun _ h => by cases h), q, B8, B17, own_nil⟩ ?_
 clear B8 B17 q
 rintro ⟨i, S, A, c⟩ τ w ⟨hi, hS, hlow, q, B8, B17, on⟩
 simp only at hi hS hlow B17 on
 dsimp only
 refine go T6_ok 200 rfl ?_
 repeat ((first | refine ldA T6_ok rfl rfl rfl rfl rfl (Bk.all B8) ?_ | refine ld T6_ok rfl rfl rfl rfl (Bk.get B8 rfl) ?_ | refine gT rfl rfl rfl rfl ?_ | refine gF rfl rfl rfl rfl ?_ | refine condT rfl rfl ?_ | refine condF rfl rfl ?_); refine go T6_ok 200 rfl ?_)
 refine condD rfl (fun hlt => ?_) (fun hlt => ?_)
 ·have hlti : i < a.bins.l.length := by have : (i : Int) < (a.bins.l.length : Int) := hlt; omega
  have ei : w64 ((i : Int) + 1) = ((i + 1 : Nat) : Int) := w64_id (by omega) (by omega)
  obtain ⟨sb, hsb⟩ := getS_of hlti
  obtain ⟨hbo, a0, ha0, hk0⟩ := hsk.2.2.2.2 sb (List.mem_of_getElem? hsb)
  have h1 : ∀ r, sb.l[0]? = some r → r.k = 1 := fun r hr => by rw [ha0] at hr; cases hr; exact hk0
  have es := expd_ok hbo h1 hrg (o := op) (by omega)
  have eh := expd_ok hbo h1 hrg (o := op - less) (by omega)
  have r : Chg No w w := Chg.refl _ _
  refine go T6_ok 200 rfl ?_
  repeat ((first | refine ldA T6_ok rfl rfl rfl rfl rfl (Bk.all B8) ?_ | refine ldA T6_ok rfl rfl rfl rfl rfl (Bk.all B17) ?_ | refine ld T6_ok rfl rfl rfl rfl (Bk.get B8 rfl) ?_ | refine ld T6_ok rfl rfl rfl rfl (Bk.get B17 rfl) ?_ | refine gT rfl rfl rfl rfl ?_ | refine gF rfl rfl rfl rfl ?_ | refine condT rfl rfl ?_ | refine condF rfl rfl ?_); refine go T6_ok 200 rfl ?_)
  have X1 := Expected_any a.p a.bins a.be a.al t i op sb _ (H0.no q) ((St0.no q).more q.size (Nat.le_refl _)) hsk hrg hsb (by omega)
  refine call rfl rfl rfl (ok _ (by decide) rfl) X1 ?_
  rintro x w ⟨rfl, qk⟩
  have B8 := B8.no qk
  have B17 := B17.no qk
  have r := r.no qk
  have q := q.trans qk
  clear X1
  generalize expd sb.l t.l op = so at es
  generalize hho : expd sb.l t.l (op - less) = hol at eh
  obtain ⟨sl, sh⟩ := so
  obtain ⟨ll, lh⟩ := hol
  simp only at es eh
  refine go T6_ok 200 rfl ?_
  repeat ((first | refine ldA T6_ok rfl rfl rfl rfl rfl (Bk.all B8) ?_ | refine ldA T6_ok rfl rfl rfl rfl rfl (Bk.all B17) ?_ | refine ld T6_ok rfl rfl rfl rfl (Bk.get B8 rfl) ?_ | refine ld T6_ok rfl rfl rfl rfl (Bk.get B17 rfl) ?_ | refine gT rfl rfl rfl rfl ?_ | refine gF rfl rfl rfl rfl ?_ | refine condT rfl rfl ?_ | refine condF rfl rfl ?_); refine go T6_ok 200 rfl ?_)
  have yB8 := B8.lt
  have yB17 := B17.lt
  have yr := Chg.size r
  have yq := q.size
  refine nw rfl rfl (z := .agg #[I 0, I 0]) (by kernel_rfl) (cs := [I 0, I 0]) rfl ?_
  intro g19 w hg19 hs19 qk B19
  have B8 := B8.no qk
  have B17 := B17.no qk
  have r := r.no qk
  have q := q.trans qk
  refine go T6_ok 200 rfl ?_
  refine stA T6_ok rfl rfl rfl rfl (vs := [I sl,I sh]) rfl rfl rfl B19 rfl ?_
  intro w qk B19 hz19
  have B19 : Bk w g19 24 ([I sl,I sh]) := B19
  have B8 := Bk.keep B8 qk (by omega)
  have B17 := Bk.keep B17 qk (by omega)
  have r := Chg.step r qk (fun k hk e => by omega)
  have q := q.step qk (fun k hk e => by omega)
  refine go T6_ok 200 rfl ?_
  repeat ((first | refine ldA T6_ok rfl rfl rfl rfl rfl (Bk.all B8) ?_ | refine ldA T6_ok rfl rfl rfl rfl rfl (Bk.all B17) ?_ | refine ldA T6_ok rfl rfl rfl rfl rfl (Bk.all B19) ?_ | refine ld T6_ok rfl rfl rfl rfl (Bk.get B8 rfl) ?_ | refine ld T6_ok rfl rfl rfl rfl (Bk.get B17 rfl) ?_ | refine ld T6_ok rfl rfl rfl rfl (Bk.get B19 rfl) ?_ | refine gT rfl rfl rfl rfl ?_ | refine gF rfl rfl rfl rfl ?_ | refine condT rfl rfl ?_ | refine condF rfl rfl ?_); refine go T6_ok 200 rfl ?_)
  rw [w64_id (x := op - less) (by omega) (by omega)]
  have X2 := Expected_any a.p a.bins a.be a.al t i (op - less) sb _ (H0.no q) ((St0.no q).more q.size (Nat.le_refl _)) hsk hrg hsb (by omega)
  rw [hho] at X2
  refine call rfl rfl rfl (ok _ (by decide) rfl) X2 ?_
  rintro x w ⟨rfl, qk⟩
  have B8 := B8.no qk
  have B17 := B17.no qk
  have r := r.no qk
  have B19 := B19.no qk
  have q := q.trans qk
  clear X2
  refine go T6_ok 200 rfl ?_
  repeat ((first | refine ldA T6_ok rfl rfl rfl rfl rfl (Bk.all B8) ?_ | refine ldA T6_ok rfl rfl rfl rfl rfl (Bk.all B17) ?_ | refine ldA T6_ok rfl rfl rfl rfl rfl (Bk.all B19) ?_ | refine ld T6_ok rfl rfl rfl rfl (Bk.get B8 rfl) ?_ | refine ld T6_ok rfl rfl rfl rfl (Bk.get B17 rfl) ?_ | refine ld T6_ok rfl rfl rfl rfl (Bk.get B19 rfl) ?_ | refine gT rfl rfl rfl rfl ?_ | refine gF rfl rfl rfl rfl ?_ | refine condT rfl rfl ?_ | refine condF rfl rfl ?_); refine go T6_ok 200 rfl ?_)
  have yB8 := B8.lt
  have yB17 := B17.lt
  have yr := Chg.size r
  have yB19 := B19.lt
  have yq := q.size
  refine nw rfl rfl (z := .agg #[I 0, I 0]) (by kernel_rfl) (cs := [I 0, I 0]) rfl ?_
  intro g21 w hg21 hs21 qk B21
  have B8 := B8.no qk
  have B17 := B17.no qk
  have r := r.no qk
  have B19 := B19.no qk
  have q := q.trans qk
  refine go T6_ok 200 rfl ?_
  refine stA T6_ok rfl rfl rfl rfl (vs := [I ll,I lh]) rfl rfl rfl B21 rfl ?_
  intro w qk B21 hz21
  have B21 : Bk w g21 24 ([I ll,I lh]) := B21
  have B8 := Bk.keep B8 qk (by omega)
  have B17 := Bk.keep B17 qk (by omega)
  have r := Chg.step r qk (fun k hk e => by omega)
  have B19 := Bk.keep B19 qk (by omega)
  have q := q.step qk (fun k hk e => by omega)
  refine go T6_ok 200 rfl ?_
  repeat ((first | refine ldA T6_ok rfl rfl rfl rfl rfl (Bk.all B8) ?_ | refine ldA T6_ok rfl rfl rfl rfl rfl (Bk.all B17) ?_ | refine ldA T6_ok rfl rfl rfl rfl rfl (Bk.all B19) ?_ | refine ldA T6_ok rfl rfl rfl rfl rfl (Bk.all B21) ?_ | refine ld T6_ok rfl rfl rfl rfl (Bk.get B8 rfl) ?_ | refine ld T6_ok rfl rfl rfl rfl (Bk.get B17 rfl) ?_ | refine ld T6_ok rfl rfl rfl rfl (Bk.get B19 rfl) ?_ | refine ld T6_ok rfl rfl rfl rfl (Bk.get B21 rfl) ?_ | refine gT rfl rfl rfl rfl ?_ | refine gF rfl rfl rfl rfl ?_ | refine condT rfl rfl ?_ | refine condF rfl rfl ?_); refine go T6_ok 200 rfl ?_)
  by_cases hsep : sh < ll
  case neg =>
   rw [decide_eq_false hsep]
   refine go T6_ok 200 rfl ?_
   repeat ((first | refine ldA T6_ok rfl rfl rfl rfl rfl (Bk.all B8) ?_ | refine ldA T6_ok rfl rfl rfl rfl rfl (Bk.all B17) ?_ | refine ldA T6_ok rfl rfl rfl rfl rfl (Bk.all B19) ?_ | refine ldA T6_ok rfl rfl rfl rfl rfl (Bk.all B21) ?_ | refine ld T6_ok rfl rfl rfl rfl (Bk.get B8 rfl) ?_ | refine ld T6_ok rfl rfl rfl rfl (Bk.get B17 rfl) ?_ | refine ld T6_ok rfl rfl rfl rfl (Bk.get B19 rfl) ?_ | refine ld T6_ok rfl rfl rfl rfl (Bk.get B21 rfl) ?_ | refine gT rfl rfl rfl rfl ?_ | refine gF rfl rfl rfl rfl ?_ | refine condT rfl rfl ?_ | refine condF rfl rfl ?_); refine go T6_ok 200 rfl ?_)
   rw [ei]
   exact round ⟨⟨i + 1, S, A, c⟩, rfl, ⟨by simp only; omega, by simp only; omega, hlow, q, B8, B17, own_no on r⟩, by simp only; omega⟩
  rw [decide_eq_true hsep]
  refine go T6_ok 200 rfl ?_
  repeat ((first | refine ldA T6_ok rfl rfl rfl rfl rfl (Bk.all B8) ?_ | refine ldA T6_ok rfl rfl rfl rfl rfl (Bk.all B17) ?_ | refine ldA T6_ok rfl rfl rfl rfl rfl (Bk.all B19) ?_ | refine ldA T6_ok rfl rfl rfl rfl rfl (Bk.all B21) ?_ | refine ld T6_ok rfl rfl rfl rfl (Bk.get B8 rfl) ?_ | refine ld T6_ok rfl rfl rfl rfl (Bk.get B17 rfl) ?_ | refine ld T6_ok rfl rfl rfl rfl (Bk.get B19 rfl) ?_ | refine ld T6_ok rfl rfl rfl rfl (Bk.get B21 rfl) ?_ | refine gT rfl rfl rfl rfl ?_ | refine gF rfl rfl rfl rfl ?_ | refine condT rfl rfl ?_ | refine condF rfl rfl ?_); refine go T6_ok 200 rfl ?_)
  rw [decide_eq_true es.1]
  refine go T6_ok 200 rfl ?_
  repeat ((first | refine ldA T6_ok rfl rfl rfl rfl rfl (Bk.all B8) ?_ | refine ldA T6_ok rfl rfl rfl rfl rfl (Bk.all B17) ?_ | refine ldA T6_ok rfl rfl rfl rfl rfl (Bk.all B19) ?_ | refine ldA T6_ok rfl rfl rfl rfl rfl (Bk.all B21) ?_ | refine ld T6_ok rfl rfl rfl rfl (Bk.get B8 rfl) ?_ | refine ld T6_ok rfl rfl rfl rfl (Bk.get B17 rfl) ?_ | refine ld T6_ok rfl rfl rfl rfl (Bk.get B19 rfl) ?_ | refine ld T6_ok rfl rfl rfl rfl (Bk.get B21 rfl) ?_ | refine gT rfl rfl rfl rfl ?_ | refine gF rfl rfl rfl rfl ?_ | refine condT rfl rfl ?_ | refine condF rfl rfl ?_); refine go T6_ok 200 rfl ?_)
  rw [decide_eq_true es.2.1]
  refine go T6_ok 200 rfl ?_
  repeat ((first | refine ldA T6_ok rfl rfl rfl rfl rfl (Bk.all B8) ?_ | refine ldA T6_ok rfl rfl rfl rfl rfl (Bk.all B17) ?_ | refine ldA T6_ok rfl rfl rfl rfl rfl (Bk.all B19) ?_ | refine ldA T6_ok rfl rfl rfl rfl rfl (Bk.all B21) ?_ | refine ld T6_ok rfl rfl rfl rfl (Bk.get B8 rfl) ?_ | refine ld T6_ok rfl rfl rfl rfl (Bk.get B17 rfl) ?_ | refine ld T6_ok rfl rfl rfl rfl (Bk.get B19 rfl) ?_ | refine ld T6_ok rfl rfl rfl rfl (Bk.get B21 rfl) ?_ | refine gT rfl rfl rfl rfl ?_ | refine gF rfl rfl rfl rfl ?_ | refine condT rfl rfl ?_ | refine condF rfl rfl ?_); refine go T6_ok 200 rfl ?_)
  rw [decide_eq_true (show ll ≤ a.p by omega)]
  refine go T6_ok 200 rfl ?_
  repeat ((first | refine ldA T6_ok rfl rfl rfl rfl rfl (Bk.all B8) ?_ | refine ldA T6_ok rfl rfl rfl rfl rfl (Bk.all B17) ?_ | refine ldA T6_ok rfl rfl rfl rfl rfl (Bk.all B19) ?_ | refine ldA T6_ok rfl rfl rfl rfl rfl (Bk.all B21) ?_ | refine ld T6_ok rfl rfl rfl rfl (Bk.get B8 rfl) ?_ | refine ld T6_ok rfl rfl rfl rfl (Bk.get B17 rfl) ?_ | refine ld T6_ok rfl rfl rfl rfl (Bk.get B19 rfl) ?_ | refine ld T6_ok rfl rfl rfl rfl (Bk.get B21 rfl) ?_ | refine gT rfl rfl rfl rfl ?_ | refine gF rfl rfl rfl rfl ?_ | refine condT rfl rfl ?_ | refine condF rfl rfl ?_); refine go T6_ok 200 rfl ?_)
  have m1 := mid_bd (a := sl) (b := sh) (pc := pc) (by omega) (by omega) (by omega) (by omega) (by omega)
  rw [w64_id (x := sh - sl) (by omega) (by omega), w64_id (x := (sh - sl) * pc) (by omega) (by omega)]
  refine quoN rfl rfl rfl rfl (by omega) (by omega) (by decide) ?_
  refine go T6_ok 200 rfl ?_
  rw [w64_id (x := sl + (sh - sl) * pc / 100) (by omega) (by omega)]
  generalize sl + (sh - sl) * pc / 100 = tr at *
  have on := own_no on r
  have lq := q.size
  have l17 := B17.lt
  refine app1 T6_ok rfl rfl rfl rfl rfl rfl (cs := siL ⟨1, sh, ll, tr⟩) rfl rfl rfl rfl (fun _ => rfl) (fun _ => rfl) (fun _ => rfl) on (by unfold maxLen; omega) (by omega) (by omega) ?_
  intro gx A' c' w1 o1 q1 hs1 hown
  have B8 := B8.keep q1 (fun e => by have := own_ge on e; omega)
  have B17 := B17.keep q1 (fun e => by have := own_ge on e; omega)
  have q := q.step q1 (fun k hk e => by have := own_ge on e; omega)
  clear r on hown
  refine go T6_ok 200 rfl ?_
  refine st T6_ok rfl rfl rfl rfl (v := .slice A' (S.length + 1) c') rfl rfl B17 rfl ?_
  intro w qk B17 hz
  have B8 := B8.keep qk (by omega)
  have q := q.step qk (fun k hk e => by omega)
  have B17 : Bk w g17 63 [I a.p, I lv, I 3, .slice A' (S.length + 1) c'] := B17
  have on := own_keep o1 qk (fun k e h => by have := own_ge o1 e; omega)
  refine go T6_ok 200 rfl ?_
  rw [ei]
  refine round ⟨⟨i + 1, S ++ [⟨1, sh, ll, tr⟩], A', c'⟩, rfl, ⟨by simp only; omega, by simp only [List.length_append, List.length_cons, List.length_nil]; omega, fun x hx => ?_, q, B8, ?_, ?_⟩, by simp only; omega⟩
  ·rcases List.mem_append.1 hx with hx | hx
   ·exact hlow x hx
   ·rw [List.mem_singleton.1 hx]
    show tr ≤ sh
    omega
  ·rw [show (S ++ [(⟨1, sh, ll, tr⟩ : Site)]).length = S.length + 1 by simp]
   exact B17
  ·rw [show (S ++ [(⟨1, sh, ll, tr⟩ : Site)]).length = S.length + 1 by simp, List.flatMap_append, show ([(⟨1, sh, ll, tr⟩ : Site)]).flatMap siL = siL ⟨1, sh, ll, tr⟩ from List.append_nil _]
   exact on
 clear hlt
 obtain ⟨m, hm⟩ : ∃ m : Cm, m = ⟨⟨a.p, lv, 3, S⟩, A, c⟩ := ⟨_, rfl⟩
 have Sm : Sl w w.heap.size 4 m.A m.c.sites.length (m.c.sites.flatMap siL) := by rw [hm]; exact own_sl on
 have hmL : cpL m = [I a.p, I lv, I 3, .slice A S.length c] := by rw [hm]; rfl
 have hml : m.c.level = lv := by rw [hm]
 have hmn : m.c.sites.length ≤ 8 := by rw [hm]; show S.length ≤ 8; omega
 have hmlow : ∀ s ∈ m.c.sites, s.tru ≤ s.lo := by rw [hm]; exact hlow
 rw [← hmL] at B17
 clear on hlow hmL hm hS
 have So := So0.no q
 refine go T6_ok 200 rfl ?_
 repeat ((first | refine ldA T6_ok rfl rfl rfl rfl rfl (Bk.all B17) ?_ | refine ld T6_ok rfl rfl rfl rfl (Bk.get B17 rfl) ?_ | refine gT rfl rfl rfl rfl ?_ | refine gF rfl rfl rfl rfl ?_ | refine condT rfl rfl ?_ | refine condF rfl rfl ?_); refine go T6_ok 200 rfl ?_)
 refine call rfl rfl rfl (ok _ (by decide) rfl) (rCampaign_any m _ (cpm5 Sm) (by omega)) ?_
 rintro x w ⟨⟨b', rfl, hb⟩, qk⟩
 have B17 := B17.no qk
 have Sm := Sm.no qk
 have So := So.no qk
 have q := q.trans qk
 cases b' with
 | false =>
  refine go T6_ok 200 rfl ?_
  repeat ((first | refine ldA T6_ok rfl rfl rfl rfl rfl (Bk.all B17) ?_ | refine ld T6_ok rfl rfl rfl rfl (Bk.get B17 rfl) ?_ | refine gT rfl rfl rfl rfl ?_ | refine gF rfl rfl rfl rfl ?_ | refine condT rfl rfl ?_ | refine condF rfl rfl ?_); refine go T6_ok 200 rfl ?_)
  refine call rfl rfl rfl (ok _ (by decide) rfl) (known_any _) ?_
  rintro v wk ⟨rfl, qk⟩
  refine go T6_ok 200 rfl ?_
  exact ret (ret1 (v := .bool true) Try.results6 rfl ⟨rfl, q.trans qk⟩)
 | true =>
 have hc := hb.1 rfl
 refine go T6_ok 200 rfl ?_
 repeat ((first | refine ldA T6_ok rfl rfl rfl rfl rfl (Bk.all B17) ?_ | refine ld T6_ok rfl rfl rfl rfl (Bk.get B17 rfl) ?_ | refine gT rfl rfl rfl rfl ?_ | refine gF rfl rfl rfl rfl ?_ | refine condT rfl rfl ?_ | refine condF rfl rfl ?_); refine go T6_ok 200 rfl ?_)
 refine call rfl rfl rfl (ok _ (by decide) rfl) (rChoice_any m o.l o.A o.c _ _ (cpm5 Sm) hc So (by omega)) ?_
 rintro x w ⟨⟨b', rfl, hb⟩, qk⟩
 have B17 := B17.no qk
 have Sm := Sm.no qk
 have So := So.no qk
 have q := q.trans qk
 cases b' with
 | false =>
  refine go T6_ok 200 rfl ?_
  repeat ((first | refine ldA T6_ok rfl rfl rfl rfl rfl (Bk.all B17) ?_ | refine ld T6_ok rfl rfl rfl rfl (Bk.get B17 rfl) ?_ | refine gT rfl rfl rfl rfl ?_ | refine gF rfl rfl rfl rfl ?_ | refine condT rfl rfl ?_ | refine condF rfl rfl ?_); refine go T6_ok 200 rfl ?_)
  refine call rfl rfl rfl (ok _ (by decide) rfl) (known_any _) ?_
  rintro v wk ⟨rfl, qk⟩
  refine go T6_ok 200 rfl ?_
  exact ret (ret1 (v := .bool true) Try.results6 rfl ⟨rfl, q.trans qk⟩)
 | true =>
 have hch := hb.1 rfl
 refine go T6_ok 200 rfl ?_
 repeat ((first | refine ldA T6_ok rfl rfl rfl rfl rfl (Bk.all B17) ?_ | refine ld T6_ok rfl rfl rfl rfl (Bk.get B17 rfl) ?_ | refine gT rfl rfl rfl rfl ?_ | refine gF rfl rfl rfl rfl ?_ | refine condT rfl rfl ?_ | refine condF rfl rfl ?_); refine go T6_ok 200 rfl ?_)
 refine call rfl rfl rfl (ok _ (by decide) rfl) (rLong_any m s _ hc (by omega)) ?_
 rintro x w ⟨⟨b', rfl, hb⟩, qk⟩
 have B17 := B17.no qk
 have Sm := Sm.no qk
 have So := So.no qk
 have q := q.trans qk
 cases b' with
 | true =>
  refine go T6_ok 200 rfl ?_
  repeat ((first | refine ldA T6_ok rfl rfl rfl rfl rfl (Bk.all B17) ?_ | refine ld T6_ok rfl rfl rfl rfl (Bk.get B17 rfl) ?_ | refine gT rfl rfl rfl rfl ?_ | refine gF rfl rfl rfl rfl ?_ | refine condT rfl rfl ?_ | refine condF rfl rfl ?_); refine go T6_ok 200 rfl ?_)
  refine call rfl rfl rfl (ok _ (by decide) rfl) (known_any _) ?_
  rintro v wk ⟨rfl, qk⟩
  refine go T6_ok 200 rfl ?_
  exact ret (ret1 (v := .bool true) Try.results6 rfl ⟨rfl, q.trans qk⟩)
 | false =>
 have hs := hb.1 rfl
 have hrate : ∀ i : Int, 0 ≤ i → i < m.c.sites.length → rateP (siteAt m.c i) false ≤ (siteAt m.c i).lo := fun i i0 i1 => hmlow _ (List.mem_of_getElem? (siteAt_ok hc i0 i1).1)
 have ala := odds_alarm hc s false (ls_ch hch) (fun i hi => hrate i (hch.s i hi).1 (hch.s i hi).2)
 have alb := odds_alarm hc s true (ls_ch hch) (fun i _ => Int.le_refl _)
 have oda := odds_od hc hs false (ls_ch hch)
 have odb := odds_od hc hs true (ls_ch hch)
 refine go T6_ok 200 rfl ?_
 repeat ((first | refine ldA T6_ok rfl rfl rfl rfl rfl (Bk.all B17) ?_ | refine ld T6_ok rfl rfl rfl rfl (Bk.get B17 rfl) ?_ | refine gT rfl rfl rfl rfl ?_ | refine gF rfl rfl rfl rfl ?_ | refine condT rfl rfl ?_ | refine condF rfl rfl ?_); refine go T6_ok 200 rfl ?_)
 refine call rfl rfl rfl (ok _ (by decide) rfl) (Power_ok m s o.l o.A o.c _ _ (cpm5 Sm) hc hs hch So) ?_
 rintro x w ⟨rfl, qk⟩
 have B17 := B17.no qk
 have Sm := Sm.no qk
 have So := So.no qk
 have q := q.trans qk
 obtain ⟨oa, hoa⟩ : ∃ x, x = oddsP m.c s false o.l := ⟨_, rfl⟩
 rw [← hoa] at ala oda
 rw [← hoa]
 clear hoa
 refine go T6_ok 200 rfl ?_
 repeat ((first | refine ldA T6_ok rfl rfl rfl rfl rfl (Bk.all B17) ?_ | refine ld T6_ok rfl rfl rfl rfl (Bk.get B17 rfl) ?_ | refine gT rfl rfl rfl rfl ?_ | refine gF rfl rfl rfl rfl ?_ | refine condT rfl rfl ?_ | refine condF rfl rfl ?_); refine go T6_ok 200 rfl ?_)
 have yB17 := B17.lt
 have ySm := Sm.2.1
 have ySo := So.2.1
 have yq := q.size
 refine nw rfl rfl (z := .agg #[I 0, I 0]) (by kernel_rfl) (cs := [I 0, I 0]) rfl ?_
 intro g23 w hg23 hs23 qk B23
 have B17 := B17.no qk
 have Sm := Sm.no qk
 have So := So.no qk
 have q := q.trans qk
 refine go T6_ok 200 rfl ?_
 refine stA T6_ok rfl rfl rfl rfl (vs := odL oa) rfl rfl rfl B23 rfl ?_
 intro w qk B23 hz23
 have B23 : Bk w g23 67 (odL oa) := B23
 have B17 := Bk.keep B17 qk (by omega)
 have Sm := Sl.keep Sm qk (fun k hk e => by omega)
 have So := Sl.keep So qk (fun k hk e => by omega)
 have q := q.step qk (fun k hk e => by omega)
 refine go T6_ok 200 rfl ?_
 repeat ((first | refine ldA T6_ok rfl rfl rfl rfl rfl (Bk.all B17) ?_ | refine ldA T6_ok rfl rfl rfl rfl rfl (Bk.all B23) ?_ | refine ld T6_ok rfl rfl rfl rfl (Bk.get B17 rfl) ?_ | refine ld T6_ok rfl rfl rfl rfl (Bk.get B23 rfl) ?_ | refine gT rfl rfl rfl rfl ?_ | refine gF rfl rfl rfl rfl ?_ | refine condT rfl rfl ?_ | refine condF rfl rfl ?_); refine go T6_ok 200 rfl ?_)
 refine call rfl rfl rfl (ok _ (by decide) rfl) (False_ok m s o.l o.A o.c _ _ (cpm5 Sm) hc hs hch So) ?_
 rintro x w ⟨rfl, qk⟩
 have B17 := B17.no qk
 have Sm := Sm.no qk
 have So := So.no qk
 have B23 := B23.no qk
 have q := q.trans qk
 obtain ⟨ob, hob⟩ : ∃ x, x = oddsP m.c s true o.l := ⟨_, rfl⟩
 rw [← hob] at alb odb
 rw [← hob]
 clear hob
 refine go T6_ok 200 rfl ?_
 repeat ((first | refine ldA T6_ok rfl rfl rfl rfl rfl (Bk.all B17) ?_ | refine ldA T6_ok rfl rfl rfl rfl rfl (Bk.all B23) ?_ | refine ld T6_ok rfl rfl rfl rfl (Bk.get B17 rfl) ?_ | refine ld T6_ok rfl rfl rfl rfl (Bk.get B23 rfl) ?_ | refine gT rfl rfl rfl rfl ?_ | refine gF rfl rfl rfl rfl ?_ | refine condT rfl rfl ?_ | refine condF rfl rfl ?_); refine go T6_ok 200 rfl ?_)
 have yB17 := B17.lt
 have ySm := Sm.2.1
 have ySo := So.2.1
 have yB23 := B23.lt
 have yq := q.size
 refine nw rfl rfl (z := .agg #[I 0, I 0]) (by kernel_rfl) (cs := [I 0, I 0]) rfl ?_
 intro g25 w hg25 hs25 qk B25
 have B17 := B17.no qk
 have Sm := Sm.no qk
 have So := So.no qk
 have B23 := B23.no qk
 have q := q.trans qk
 refine go T6_ok 200 rfl ?_
 refine stA T6_ok rfl rfl rfl rfl (vs := odL ob) rfl rfl rfl B25 rfl ?_
 intro w qk B25 hz25
 have B25 : Bk w g25 67 (odL ob) := B25
 have B17 := Bk.keep B17 qk (by omega)
 have Sm := Sl.keep Sm qk (fun k hk e => by omega)
 have So := Sl.keep So qk (fun k hk e => by omega)
 have B23 := Bk.keep B23 qk (by omega)
 have q := q.step qk (fun k hk e => by omega)
 refine go T6_ok 200 rfl ?_
 repeat ((first | refine ldA T6_ok rfl rfl rfl rfl rfl (Bk.all B17) ?_ | refine ldA T6_ok rfl rfl rfl rfl rfl (Bk.all B23) ?_ | refine ldA T6_ok rfl rfl rfl rfl rfl (Bk.all B25) ?_ | refine ld T6_ok rfl rfl rfl rfl (Bk.get B17 rfl) ?_ | refine ld T6_ok rfl rfl rfl rfl (Bk.get B23 rfl) ?_ | refine ld T6_ok rfl rfl rfl rfl (Bk.get B25 rfl) ?_ | refine gT rfl rfl rfl rfl ?_ | refine gF rfl rfl rfl rfl ?_ | refine condT rfl rfl ?_ | refine condF rfl rfl ?_); refine go T6_ok 200 rfl ?_)
 refine call rfl rfl rfl (ok _ (by decide) rfl) (Best_ok m s _ (cpm5 Sm) hc hs) ?_
 rintro x w ⟨A5, c5, b5, e5, rfl, qk, own5, hls⟩
 have B17 := B17.no qk
 have Sm := Sm.no qk
 have So := So.no qk
 have B23 := B23.no qk
 have B25 := B25.no qk
 have q := q.trans qk
 obtain ⟨t1, t2⟩ := bestOf_top m.c s (moreL m.c 3 0 [])
 rw [← e5] at t1 t2
 cases b5 with
 | none =>
  have := mem_all.2 hch
  rw [t1 rfl] at this
  cases this
 | some b5 =>
 have hch5 := mem_all.1 (t2 b5 rfl).1
 have alc := odds_alarm hc s false (ls_ch hch5) (fun i hi => hrate i (hch5.s i hi).1 (hch5.s i hi).2)
 have odc := odds_od hc hs false (ls_ch hch5)
 have hn5 := hch5.n0
 have hm5 := hch5.n1
 obtain ⟨oc, hoc⟩ : ∃ x, x = oddsP m.c s false b5 := ⟨_, rfl⟩
 rw [← hoc] at alc odc
 clear own5 t1 t2 e5 hls
 rw [hml] at ala alb alc
 refine go T6_ok 200 rfl ?_
 repeat ((first | refine ldA T6_ok rfl rfl rfl rfl rfl (Bk.all B17) ?_ | refine ldA T6_ok rfl rfl rfl rfl rfl (Bk.all B23) ?_ | refine ldA T6_ok rfl rfl rfl rfl rfl (Bk.all B25) ?_ | refine ld T6_ok rfl rfl rfl rfl (Bk.get B17 rfl) ?_ | refine ld T6_ok rfl rfl rfl rfl (Bk.get B23 rfl) ?_ | refine ld T6_ok rfl rfl rfl rfl (Bk.get B25 rfl) ?_ | refine gT rfl rfl rfl rfl ?_ | refine gF rfl rfl rfl rfl ?_ | refine condT rfl rfl ?_ | refine condF rfl rfl ?_); refine go T6_ok 200 rfl ?_)
 have yB17 := B17.lt
 have ySm := Sm.2.1
 have ySo := So.2.1
 have yB23 := B23.lt
 have yB25 := B25.lt
 have yq := q.size
 refine nw rfl rfl (z := .agg #[I 0, I 0]) (by kernel_rfl) (cs := [I 0, I 0]) rfl ?_
 intro g28 w hg28 hs28 qk B28
 have B17 := B17.no qk
 have Sm := Sm.no qk
 have So := So.no qk
 have B23 := B23.no qk
 have B25 := B25.no qk
 have q := q.trans qk
 refine go T6_ok 200 rfl ?_
 refine stA T6_ok rfl rfl rfl rfl (vs := odL (oddsP m.c s false b5)) rfl rfl rfl B28 rfl ?_
 intro w qk B28 hz28
 have B28 : Bk w g28 67 (odL (oddsP m.c s false b5)) := B28
 have B17 := Bk.keep B17 qk (by omega)
 have Sm := Sl.keep Sm qk (fun k hk e => by omega)
 have So := Sl.keep So qk (fun k hk e => by omega)
 have B23 := Bk.keep B23 qk (by omega)
 have B25 := Bk.keep B25 qk (by omega)
 have q := q.step qk (fun k hk e => by omega)
 rw [← hoc] at B28
 clear hoc
 have za := oda.a0; have zb := odb.a0; have zc := odc.a0
 have ya := oda.a1; have yb := odb.a1; have yc := odc.a1
 refine go T6_ok 200 rfl ?_
 repeat ((first | refine ldA T6_ok rfl rfl rfl rfl rfl (Bk.all B17) ?_ | refine ldA T6_ok rfl rfl rfl rfl rfl (Bk.all B23) ?_ | refine ldA T6_ok rfl rfl rfl rfl rfl (Bk.all B25) ?_ | refine ldA T6_ok rfl rfl rfl rfl rfl (Bk.all B28) ?_ | refine ld T6_ok rfl rfl rfl rfl (Bk.get B17 rfl) ?_ | refine ld T6_ok rfl rfl rfl rfl (Bk.get B23 rfl) ?_ | refine ld T6_ok rfl rfl rfl rfl (Bk.get B25 rfl) ?_ | refine ld T6_ok rfl rfl rfl rfl (Bk.get B28 rfl) ?_ | refine gT rfl rfl rfl rfl ?_ | refine gF rfl rfl rfl rfl ?_ | refine condT rfl rfl ?_ | refine condF rfl rfl ?_); refine go T6_ok 200 rfl ?_)
 rw [decide_eq_false (show ¬ oa.2 < 1 by omega)]
 refine go T6_ok 200 rfl ?_
 repeat ((first | refine ldA T6_ok rfl rfl rfl rfl rfl (Bk.all B17) ?_ | refine ldA T6_ok rfl rfl rfl rfl rfl (Bk.all B23) ?_ | refine ldA T6_ok rfl rfl rfl rfl rfl (Bk.all B25) ?_ | refine ldA T6_ok rfl rfl rfl rfl rfl (Bk.all B28) ?_ | refine ld T6_ok rfl rfl rfl rfl (Bk.get B17 rfl) ?_ | refine ld T6_ok rfl rfl rfl rfl (Bk.get B23 rfl) ?_ | refine ld T6_ok rfl rfl rfl rfl (Bk.get B25 rfl) ?_ | refine ld T6_ok rfl rfl rfl rfl (Bk.get B28 rfl) ?_ | refine gT rfl rfl rfl rfl ?_ | refine gF rfl rfl rfl rfl ?_ | refine condT rfl rfl ?_ | refine condF rfl rfl ?_); refine go T6_ok 200 rfl ?_)
 rw [decide_eq_false (show ¬ ob.2 < 1 by omega)]
 refine go T6_ok 200 rfl ?_
 repeat ((first | refine ldA T6_ok rfl rfl rfl rfl rfl (Bk.all B17) ?_ | refine ldA T6_ok rfl rfl rfl rfl rfl (Bk.all B23) ?_ | refine ldA T6_ok rfl rfl rfl rfl rfl (Bk.all B25) ?_ | refine ldA T6_ok rfl rfl rfl rfl rfl (Bk.all B28) ?_ | refine ld T6_ok rfl rfl rfl rfl (Bk.get B17 rfl) ?_ | refine ld T6_ok rfl rfl rfl rfl (Bk.get B23 rfl) ?_ | refine ld T6_ok rfl rfl rfl rfl (Bk.get B25 rfl) ?_ | refine ld T6_ok rfl rfl rfl rfl (Bk.get B28 rfl) ?_ | refine gT rfl rfl rfl rfl ?_ | refine gF rfl rfl rfl rfl ?_ | refine condT rfl rfl ?_ | refine condF rfl rfl ?_); refine go T6_ok 200 rfl ?_)
 rw [decide_eq_false (show ¬ oc.2 < 1 by omega)]
 refine go T6_ok 200 rfl ?_
 repeat ((first | refine ldA T6_ok rfl rfl rfl rfl rfl (Bk.all B17) ?_ | refine ldA T6_ok rfl rfl rfl rfl rfl (Bk.all B23) ?_ | refine ldA T6_ok rfl rfl rfl rfl rfl (Bk.all B25) ?_ | refine ldA T6_ok rfl rfl rfl rfl rfl (Bk.all B28) ?_ | refine ld T6_ok rfl rfl rfl rfl (Bk.get B17 rfl) ?_ | refine ld T6_ok rfl rfl rfl rfl (Bk.get B23 rfl) ?_ | refine ld T6_ok rfl rfl rfl rfl (Bk.get B25 rfl) ?_ | refine ld T6_ok rfl rfl rfl rfl (Bk.get B28 rfl) ?_ | refine gT rfl rfl rfl rfl ?_ | refine gF rfl rfl rfl rfl ?_ | refine condT rfl rfl ?_ | refine condF rfl rfl ?_); refine go T6_ok 200 rfl ?_)
 rw [decide_eq_false (show ¬ ((((some b5).getD []).length : Nat) : Int) < 1 by show ¬ ((b5.length : Nat) : Int) < 1; omega)]
 refine go T6_ok 200 rfl ?_
 repeat ((first | refine ldA T6_ok rfl rfl rfl rfl rfl (Bk.all B17) ?_ | refine ldA T6_ok rfl rfl rfl rfl rfl (Bk.all B23) ?_ | refine ldA T6_ok rfl rfl rfl rfl rfl (Bk.all B25) ?_ | refine ldA T6_ok rfl rfl rfl rfl rfl (Bk.all B28) ?_ | refine ld T6_ok rfl rfl rfl rfl (Bk.get B17 rfl) ?_ | refine ld T6_ok rfl rfl rfl rfl (Bk.get B23 rfl) ?_ | refine ld T6_ok rfl rfl rfl rfl (Bk.get B25 rfl) ?_ | refine ld T6_ok rfl rfl rfl rfl (Bk.get B28 rfl) ?_ | refine gT rfl rfl rfl rfl ?_ | refine gF rfl rfl rfl rfl ?_ | refine condT rfl rfl ?_ | refine condF rfl rfl ?_); refine go T6_ok 200 rfl ?_)
 have qd := Chg.drew w
 refine draw mixed (fun w' => Chg No w w') ([0,1,2,3,4,5,6,7,8,9,10,11,12,13,14,15,16,17,18,19,20,21,22,23,24,25].map (fun i => (i, true)) ++ [(26, false)] ++ [27,28].map (fun i => (i, true))) rfl (by kernel_rfl) (Chg.drew _) ?_
 refine goH T6_ok 200 rfl ?_
 repeat (first | (refine quietH rfl (fun w' hS => r_load T6_ok rfl rfl rfl (Bk.get (B23.no hS) rfl)) ?_; refine goH T6_ok 200 rfl ?_) | (refine quietH rfl (fun w' hS => r_load T6_ok rfl rfl rfl (Bk.get (B25.no hS) rfl)) ?_; refine goH T6_ok 200 rfl ?_) | (refine quietH rfl (fun w' hS => r_load T6_ok rfl rfl rfl (Bk.get (B28.no hS) rfl)) ?_; refine goH T6_ok 200 rfl ?_) | (refine gTH rfl rfl rfl rfl ?_; refine goH T6_ok 200 rfl ?_) | (refine gFH rfl rfl rfl rfl ?_; refine goH T6_ok 200 rfl ?_))
 refine quietH rfl (fun w' hS => r_quoN rfl rfl rfl (by omega) (by omega) (by omega)) ?_
 refine goH T6_ok 200 rfl ?_
 rw [decide_eq_true ala]
 refine goH T6_ok 200 rfl ?_
 repeat (first | (refine quietH rfl (fun w' hS => r_load T6_ok rfl rfl rfl (Bk.get (B23.no hS) rfl)) ?_; refine goH T6_ok 200 rfl ?_) | (refine quietH rfl (fun w' hS => r_load T6_ok rfl rfl rfl (Bk.get (B25.no hS) rfl)) ?_; refine goH T6_ok 200 rfl ?_) | (refine quietH rfl (fun w' hS => r_load T6_ok rfl rfl rfl (Bk.get (B28.no hS) rfl)) ?_; refine goH T6_ok 200 rfl ?_) | (refine gTH rfl rfl rfl rfl ?_; refine goH T6_ok 200 rfl ?_) | (refine gFH rfl rfl rfl rfl ?_; refine goH T6_ok 200 rfl ?_))
 refine quietH rfl (fun w' hS => r_quoN rfl rfl rfl (by omega) (by omega) (by omega)) ?_
 refine goH T6_ok 200 rfl ?_
 rw [decide_eq_true alb]
 refine goH T6_ok 200 rfl ?_
 repeat (first | (refine quietH rfl (fun w' hS => r_load T6_ok rfl rfl rfl (Bk.get (B23.no hS) rfl)) ?_; refine goH T6_ok 200 rfl ?_) | (refine quietH rfl (fun w' hS => r_load T6_ok rfl rfl rfl (Bk.get (B25.no hS) rfl)) ?_; refine goH T6_ok 200 rfl ?_) | (refine quietH rfl (fun w' hS => r_load T6_ok rfl rfl rfl (Bk.get (B28.no hS) rfl)) ?_; refine goH T6_ok 200 rfl ?_) | (refine gTH rfl rfl rfl rfl ?_; refine goH T6_ok 200 rfl ?_) | (refine gFH rfl rfl rfl rfl ?_; refine goH T6_ok 200 rfl ?_))
 refine quietH rfl (fun w' hS => r_quoN rfl rfl rfl (by omega) (by omega) (by omega)) ?_
 refine goH T6_ok 200 rfl ?_
 rw [decide_eq_true alc]
 refine goH T6_ok 200 rfl ?_
 repeat (first | (refine quietH rfl (fun w' hS => r_load T6_ok rfl rfl rfl (Bk.get (B23.no hS) rfl)) ?_; refine goH T6_ok 200 rfl ?_) | (refine quietH rfl (fun w' hS => r_load T6_ok rfl rfl rfl (Bk.get (B25.no hS) rfl)) ?_; refine goH T6_ok 200 rfl ?_) | (refine quietH rfl (fun w' hS => r_load T6_ok rfl rfl rfl (Bk.get (B28.no hS) rfl)) ?_; refine goH T6_ok 200 rfl ?_) | (refine gTH rfl rfl rfl rfl ?_; refine goH T6_ok 200 rfl ?_) | (refine gFH rfl rfl rfl rfl ?_; refine goH T6_ok 200 rfl ?_))
 refine callE rfl rfl rfl (ok _ (by decide) rfl) (known_any _) ?_
 rintro x w3 ⟨rfl, qk⟩
 have qd := qd.trans qk
 refine ⟨qd, ?_⟩
 refine goH T6_ok 200 rfl ?_
 repeat (first | (refine gTH rfl rfl rfl rfl ?_; refine goH T6_ok 200 rfl ?_) | (refine gFH rfl rfl rfl rfl ?_; refine goH T6_ok 200 rfl ?_))
 refine endH ?_
 refine go T6_ok 200 rfl ?_
 exact ret (ret1 (v := .bool true) Try.results6 rfl ⟨rfl, q.trans qd⟩)
end Go.Proofs.Ytolhfimknimliaa.K
