/- The contracts of supplies that are as defined. -/
import Derived.Test.YteenhfnamjbaiaaCM
import Derived.Test.YteenhfnamjbaiaaEK
import Derived.Test.YteenhfnamjbaiaaSM
import Derived.Test.YteenhfnamjbaiaaEL
namespace Go.Proofs.Yteenhfnamjbaiaa
open Go.Ev Go.Proofs Go.Camp
attribute [local irreducible] At AtH
def TS : Tab := [(41, .str 3 [(0,1,false),(1,1,false),(2,1,false)] [I 0, I 0, I 0]), (93, .str 2 [(0,1,false),(1,1,false)] [I 0, I 0]), (95, .str 5 [(0,2,true),(2,2,true),(4,1,false)] [I 0, I 0, I 0, I 0, I 0]),
 (44, .str 10 [(0,3,true),(3,1,false),(4,1,false),(5,1,false),(6,1,false),(7,1,false),(8,1,false),(9,1,false)] [I 0, I 0, I 0, I 0, I 0, I 0, I 0, I 0, I 0, .slice none 0 0]),
 (194, .str 10 [(0,10,true)] [I 0, I 0, I 0, I 0, I 0, I 0, I 0, I 0, I 0, .slice none 0 0]), (195, .arr 3 1 false), (135, .str 4 [(0,3,true),(3,1,false)] [I 0, I 0, I 0, I 0]), (132, .one), (133, .one), (125, .arr 2 1 false), (42, .slc 95 5 40)] ++ T
theorem TS_ok : tabOk Try.prog TS = true := by kernel_rfl
def spL (a b : Int) : List Value := [I a, I b]
def dyL (d : Dy) : List Value := [I d.slo, I d.shi, I d.llo, I d.lhi, I d.gas]
theorem dyL_len (d : Dy) : (dyL d).length = 5 := rfl
def skL (x : Stk) : List Value := [I x.ch, I x.gas, I x.dat]
/-- a supply's value: where its days lie -/
structure Sm where
 a : Sup
 A : Option Addr
 cap : Nat
def suL (m : Sm) : List Value := skL m.a.b ++ [I m.a.room, I m.a.store, I m.a.run, I m.a.idle, I m.a.burn, I m.a.dat, .slice m.A m.a.days.length m.cap]
structure SuM (w : World) (m : Sm) : Prop where
 sl : Sl w w.heap.size 5 m.A m.a.days.length (m.a.days.flatMap dyL)
 len : m.a.days.length ≤ 9223372036854775807
theorem SuM.no {w w' : World} {m : Sm} (h : SuM w m) (c : Chg No w w') : SuM w' m := ⟨(h.sl.no c).more c.size (Nat.le_refl _), h.len⟩
theorem spanned_any (a b h : Int) (w0 : World) : Ret Try.prog 131 [.agg (spL a b).toArray, I h] w0 fun v w' => v = .bool (decide ((0 ≤ a ∧ a ≤ b) ∧ b ≤ h)) ∧ Chg No w0 w' := by
 refine enter Try.func131 rfl Try.ntmps131 rfl ?_
 refine go TS_ok 200 rfl ?_
 refine bx rfl rfl rfl (cs := spL a b) rfl ?_
 intro g2 u2 hg2 hs2 q2 B2
 have q := q2
 refine go TS_ok 200 rfl ?_
 repeat ((first | refine ldA TS_ok rfl rfl rfl rfl rfl (Bk.all B2) ?_ | refine ld TS_ok rfl rfl rfl rfl (Bk.get B2 rfl) ?_ | refine gT rfl rfl rfl rfl ?_ | refine gF rfl rfl rfl rfl ?_ | refine condT rfl rfl ?_ | refine condF rfl rfl ?_); refine go TS_ok 200 rfl ?_)
 refine call rfl rfl rfl (ok _ (by decide) rfl) (within_any a 0 b _) ?_
 rintro x w ⟨rfl, rfl⟩
 by_cases h1 : 0 ≤ a ∧ a ≤ b
 ·rw [decide_eq_true h1]
  refine go TS_ok 200 rfl ?_
  repeat ((first | refine ldA TS_ok rfl rfl rfl rfl rfl (Bk.all B2) ?_ | refine ld TS_ok rfl rfl rfl rfl (Bk.get B2 rfl) ?_ | refine gT rfl rfl rfl rfl ?_ | refine gF rfl rfl rfl rfl ?_ | refine condT rfl rfl ?_ | refine condF rfl rfl ?_); refine go TS_ok 200 rfl ?_)
  refine ret (ret1 (v := .bool _) Try.results131 rfl ⟨congrArg Value.bool ?_, q⟩)
  rw [Bool.eq_iff_iff, decide_eq_true_iff, decide_eq_true_iff]
  exact ⟨fun h => ⟨h1, h⟩, fun h => h.2⟩
 ·rw [decide_eq_false h1]
  refine go TS_ok 200 rfl ?_
  repeat ((first | refine ldA TS_ok rfl rfl rfl rfl rfl (Bk.all B2) ?_ | refine ld TS_ok rfl rfl rfl rfl (Bk.get B2 rfl) ?_ | refine gT rfl rfl rfl rfl ?_ | refine gF rfl rfl rfl rfl ?_ | refine condT rfl rfl ?_ | refine condF rfl rfl ?_); refine go TS_ok 200 rfl ?_)
  exact ret (ret1 (v := .bool false) Try.results131 rfl ⟨congrArg Value.bool (decide_eq_false fun h => h1 h.1).symm, q⟩)
def BegOk (a : Sup) : Prop := (0 ≤ a.room ∧ a.room ≤ 50) ∧ (0 ≤ a.store ∧ a.store ≤ 50) ∧ (0 ≤ a.b.ch ∧ a.b.ch ≤ a.room) ∧ (0 ≤ a.b.gas ∧ a.b.gas ≤ 1000) ∧ (0 ≤ a.b.dat ∧ a.b.dat ≤ a.store)
def TakOk (a : Sup) : Prop := (0 ≤ a.idle ∧ a.idle ≤ a.run) ∧ a.run ≤ 50 ∧ (0 ≤ a.burn ∧ a.burn ≤ 50) ∧ (0 ≤ a.dat ∧ a.dat ≤ 50)
def DysOk (a : Sup) : Prop := (∀ d ∈ a.days, DyOk d) ∧ a.days.length ≤ 30
theorem supOk_iff (a : Sup) : SupOk a ↔ BegOk a ∧ TakOk a ∧ DysOk a :=
 ⟨fun h => ⟨⟨⟨h.r0, h.r1⟩, ⟨h.t0, h.t1⟩, ⟨h.c0, h.c1⟩, ⟨h.g0, h.g1⟩, ⟨h.d0, h.d1⟩⟩, ⟨⟨h.i0, h.i1⟩, h.u1, ⟨h.b0, h.b1⟩, ⟨h.a0, h.a1⟩⟩, h.days, h.len⟩,
  fun ⟨⟨⟨r0, r1⟩, ⟨t0, t1⟩, ⟨c0, c1⟩, ⟨g0, g1⟩, ⟨d0, d1⟩⟩, ⟨⟨i0, i1⟩, u1, ⟨b0, b1⟩, ⟨a0, a1⟩⟩, hd, hl⟩ => ⟨r0, r1, t0, t1, c0, c1, g0, g1, d0, d1, i0, i1, u1, b0, b1, a0, a1, hd, hl⟩⟩
set_option maxRecDepth 20000 in
set_option maxHeartbeats 4000000 in
theorem begins_any (m : Sm) (w0 : World) : Ret Try.prog 109 [.agg (suL m).toArray] w0 fun v w' => (∃ b, v = .bool b ∧ (b = true ↔ BegOk m.a)) ∧ Chg No w0 w' := by
 refine enter Try.func109 rfl Try.ntmps109 rfl ?_
 refine go TS_ok 200 rfl ?_
 refine bx rfl rfl rfl (cs := suL m) rfl ?_
 intro g1 u1 hg1 hs1 q1 B1
 have q := q1
 refine go TS_ok 200 rfl ?_
 repeat ((first | refine ldA TS_ok rfl rfl rfl rfl rfl (Bk.all B1) ?_ | refine ld TS_ok rfl rfl rfl rfl (Bk.get B1 rfl) ?_ | refine gT rfl rfl rfl rfl ?_ | refine gF rfl rfl rfl rfl ?_ | refine condT rfl rfl ?_ | refine condF rfl rfl ?_); refine go TS_ok 200 rfl ?_)
 refine call rfl rfl rfl (ok _ (by decide) rfl) (within_any m.a.room 0 50 _) ?_
 rintro x w ⟨rfl, rfl⟩
 by_cases h1 : 0 ≤ m.a.room ∧ m.a.room ≤ 50
 case neg =>
  rw [decide_eq_false h1]
  refine go TS_ok 200 rfl ?_
  repeat ((first | refine ldA TS_ok rfl rfl rfl rfl rfl (Bk.all B1) ?_ | refine ld TS_ok rfl rfl rfl rfl (Bk.get B1 rfl) ?_ | refine gT rfl rfl rfl rfl ?_ | refine gF rfl rfl rfl rfl ?_ | refine condT rfl rfl ?_ | refine condF rfl rfl ?_); refine go TS_ok 200 rfl ?_)
  exact ret (ret1 (v := .bool false) Try.results109 rfl ⟨⟨false, rfl, by simp; exact fun h => absurd h.1 h1⟩, q⟩)
 rw [decide_eq_true h1]
 refine go TS_ok 200 rfl ?_
 repeat ((first | refine ldA TS_ok rfl rfl rfl rfl rfl (Bk.all B1) ?_ | refine ld TS_ok rfl rfl rfl rfl (Bk.get B1 rfl) ?_ | refine gT rfl rfl rfl rfl ?_ | refine gF rfl rfl rfl rfl ?_ | refine condT rfl rfl ?_ | refine condF rfl rfl ?_); refine go TS_ok 200 rfl ?_)
 refine call rfl rfl rfl (ok _ (by decide) rfl) (within_any m.a.store 0 50 _) ?_
 rintro x w ⟨rfl, rfl⟩
 by_cases h2 : 0 ≤ m.a.store ∧ m.a.store ≤ 50
 case neg =>
  rw [decide_eq_false h2]
  refine go TS_ok 200 rfl ?_
  repeat ((first | refine ldA TS_ok rfl rfl rfl rfl rfl (Bk.all B1) ?_ | refine ld TS_ok rfl rfl rfl rfl (Bk.get B1 rfl) ?_ | refine gT rfl rfl rfl rfl ?_ | refine gF rfl rfl rfl rfl ?_ | refine condT rfl rfl ?_ | refine condF rfl rfl ?_); refine go TS_ok 200 rfl ?_)
  exact ret (ret1 (v := .bool false) Try.results109 rfl ⟨⟨false, rfl, by simp; exact fun h => absurd h.2.1 h2⟩, q⟩)
 rw [decide_eq_true h2]
 refine go TS_ok 200 rfl ?_
 repeat ((first | refine ldA TS_ok rfl rfl rfl rfl rfl (Bk.all B1) ?_ | refine ld TS_ok rfl rfl rfl rfl (Bk.get B1 rfl) ?_ | refine gT rfl rfl rfl rfl ?_ | refine gF rfl rfl rfl rfl ?_ | refine condT rfl rfl ?_ | refine condF rfl rfl ?_); refine go TS_ok 200 rfl ?_)
 refine call rfl rfl rfl (ok _ (by decide) rfl) (within_any m.a.b.ch 0 m.a.room _) ?_
 rintro x w ⟨rfl, rfl⟩
 by_cases h3 : 0 ≤ m.a.b.ch ∧ m.a.b.ch ≤ m.a.room
 case neg =>
  rw [decide_eq_false h3]
  refine go TS_ok 200 rfl ?_
  repeat ((first | refine ldA TS_ok rfl rfl rfl rfl rfl (Bk.all B1) ?_ | refine ld TS_ok rfl rfl rfl rfl (Bk.get B1 rfl) ?_ | refine gT rfl rfl rfl rfl ?_ | refine gF rfl rfl rfl rfl ?_ | refine condT rfl rfl ?_ | refine condF rfl rfl ?_); refine go TS_ok 200 rfl ?_)
  exact ret (ret1 (v := .bool false) Try.results109 rfl ⟨⟨false, rfl, by simp; exact fun h => absurd h.2.2.1 h3⟩, q⟩)
 rw [decide_eq_true h3]
 refine go TS_ok 200 rfl ?_
 repeat ((first | refine ldA TS_ok rfl rfl rfl rfl rfl (Bk.all B1) ?_ | refine ld TS_ok rfl rfl rfl rfl (Bk.get B1 rfl) ?_ | refine gT rfl rfl rfl rfl ?_ | refine gF rfl rfl rfl rfl ?_ | refine condT rfl rfl ?_ | refine condF rfl rfl ?_); refine go TS_ok 200 rfl ?_)
 refine call rfl rfl rfl (ok _ (by decide) rfl) (within_any m.a.b.gas 0 1000 _) ?_
 rintro x w ⟨rfl, rfl⟩
 by_cases h4 : 0 ≤ m.a.b.gas ∧ m.a.b.gas ≤ 1000
 case neg =>
  rw [decide_eq_false h4]
  refine go TS_ok 200 rfl ?_
  repeat ((first | refine ldA TS_ok rfl rfl rfl rfl rfl (Bk.all B1) ?_ | refine ld TS_ok rfl rfl rfl rfl (Bk.get B1 rfl) ?_ | refine gT rfl rfl rfl rfl ?_ | refine gF rfl rfl rfl rfl ?_ | refine condT rfl rfl ?_ | refine condF rfl rfl ?_); refine go TS_ok 200 rfl ?_)
  exact ret (ret1 (v := .bool false) Try.results109 rfl ⟨⟨false, rfl, by simp; exact fun h => absurd h.2.2.2.1 h4⟩, q⟩)
 rw [decide_eq_true h4]
 refine go TS_ok 200 rfl ?_
 repeat ((first | refine ldA TS_ok rfl rfl rfl rfl rfl (Bk.all B1) ?_ | refine ld TS_ok rfl rfl rfl rfl (Bk.get B1 rfl) ?_ | refine gT rfl rfl rfl rfl ?_ | refine gF rfl rfl rfl rfl ?_ | refine condT rfl rfl ?_ | refine condF rfl rfl ?_); refine go TS_ok 200 rfl ?_)
 refine call rfl rfl rfl (ok _ (by decide) rfl) (within_any m.a.b.dat 0 m.a.store _) ?_
 rintro x w ⟨rfl, rfl⟩
 refine go TS_ok 200 rfl ?_
 repeat ((first | refine ldA TS_ok rfl rfl rfl rfl rfl (Bk.all B1) ?_ | refine ld TS_ok rfl rfl rfl rfl (Bk.get B1 rfl) ?_ | refine gT rfl rfl rfl rfl ?_ | refine gF rfl rfl rfl rfl ?_ | refine condT rfl rfl ?_ | refine condF rfl rfl ?_); refine go TS_ok 200 rfl ?_)
 exact ret (ret1 (v := .bool _) Try.results109 rfl ⟨⟨_, rfl, by rw [decide_eq_true_iff]; exact ⟨fun h5 => ⟨h1, h2, h3, h4, h5⟩, fun h => h.2.2.2.2⟩⟩, q⟩)
set_option maxRecDepth 20000 in
set_option maxHeartbeats 4000000 in
theorem takes_any (m : Sm) (w0 : World) : Ret Try.prog 110 [.agg (suL m).toArray] w0 fun v w' => (∃ b, v = .bool b ∧ (b = true ↔ TakOk m.a)) ∧ Chg No w0 w' := by
 refine enter Try.func110 rfl Try.ntmps110 rfl ?_
 refine go TS_ok 200 rfl ?_
 refine bx rfl rfl rfl (cs := suL m) rfl ?_
 intro g1 u1 hg1 hs1 q1 B1
 have q := q1
 refine go TS_ok 200 rfl ?_
 repeat ((first | refine ldA TS_ok rfl rfl rfl rfl rfl (Bk.all B1) ?_ | refine ld TS_ok rfl rfl rfl rfl (Bk.get B1 rfl) ?_ | refine gT rfl rfl rfl rfl ?_ | refine gF rfl rfl rfl rfl ?_ | refine condT rfl rfl ?_ | refine condF rfl rfl ?_); refine go TS_ok 200 rfl ?_)
 refine call rfl rfl rfl (ok _ (by decide) rfl) (within_any m.a.idle 0 m.a.run _) ?_
 rintro x w ⟨rfl, rfl⟩
 by_cases h1 : 0 ≤ m.a.idle ∧ m.a.idle ≤ m.a.run
 case neg =>
  rw [decide_eq_false h1]
  refine go TS_ok 200 rfl ?_
  repeat ((first | refine ldA TS_ok rfl rfl rfl rfl rfl (Bk.all B1) ?_ | refine ld TS_ok rfl rfl rfl rfl (Bk.get B1 rfl) ?_ | refine gT rfl rfl rfl rfl ?_ | refine gF rfl rfl rfl rfl ?_ | refine condT rfl rfl ?_ | refine condF rfl rfl ?_); refine go TS_ok 200 rfl ?_)
  exact ret (ret1 (v := .bool false) Try.results110 rfl ⟨⟨false, rfl, by simp; exact fun h => absurd h.1 h1⟩, q⟩)
 rw [decide_eq_true h1]
 refine go TS_ok 200 rfl ?_
 repeat ((first | refine ldA TS_ok rfl rfl rfl rfl rfl (Bk.all B1) ?_ | refine ld TS_ok rfl rfl rfl rfl (Bk.get B1 rfl) ?_ | refine gT rfl rfl rfl rfl ?_ | refine gF rfl rfl rfl rfl ?_ | refine condT rfl rfl ?_ | refine condF rfl rfl ?_); refine go TS_ok 200 rfl ?_)
 by_cases h2 : m.a.run ≤ 50
 case neg =>
  rw [decide_eq_false h2]
  refine go TS_ok 200 rfl ?_
  repeat ((first | refine ldA TS_ok rfl rfl rfl rfl rfl (Bk.all B1) ?_ | refine ld TS_ok rfl rfl rfl rfl (Bk.get B1 rfl) ?_ | refine gT rfl rfl rfl rfl ?_ | refine gF rfl rfl rfl rfl ?_ | refine condT rfl rfl ?_ | refine condF rfl rfl ?_); refine go TS_ok 200 rfl ?_)
  exact ret (ret1 (v := .bool false) Try.results110 rfl ⟨⟨false, rfl, by simp; exact fun h => absurd h.2.1 h2⟩, q⟩)
 rw [decide_eq_true h2]
 refine go TS_ok 200 rfl ?_
 repeat ((first | refine ldA TS_ok rfl rfl rfl rfl rfl (Bk.all B1) ?_ | refine ld TS_ok rfl rfl rfl rfl (Bk.get B1 rfl) ?_ | refine gT rfl rfl rfl rfl ?_ | refine gF rfl rfl rfl rfl ?_ | refine condT rfl rfl ?_ | refine condF rfl rfl ?_); refine go TS_ok 200 rfl ?_)
 refine call rfl rfl rfl (ok _ (by decide) rfl) (within_any m.a.burn 0 50 _) ?_
 rintro x w ⟨rfl, rfl⟩
 by_cases h3 : 0 ≤ m.a.burn ∧ m.a.burn ≤ 50
 case neg =>
  rw [decide_eq_false h3]
  refine go TS_ok 200 rfl ?_
  repeat ((first | refine ldA TS_ok rfl rfl rfl rfl rfl (Bk.all B1) ?_ | refine ld TS_ok rfl rfl rfl rfl (Bk.get B1 rfl) ?_ | refine gT rfl rfl rfl rfl ?_ | refine gF rfl rfl rfl rfl ?_ | refine condT rfl rfl ?_ | refine condF rfl rfl ?_); refine go TS_ok 200 rfl ?_)
  exact ret (ret1 (v := .bool false) Try.results110 rfl ⟨⟨false, rfl, by simp; exact fun h => absurd h.2.2.1 h3⟩, q⟩)
 rw [decide_eq_true h3]
 refine go TS_ok 200 rfl ?_
 repeat ((first | refine ldA TS_ok rfl rfl rfl rfl rfl (Bk.all B1) ?_ | refine ld TS_ok rfl rfl rfl rfl (Bk.get B1 rfl) ?_ | refine gT rfl rfl rfl rfl ?_ | refine gF rfl rfl rfl rfl ?_ | refine condT rfl rfl ?_ | refine condF rfl rfl ?_); refine go TS_ok 200 rfl ?_)
 refine call rfl rfl rfl (ok _ (by decide) rfl) (within_any m.a.dat 0 50 _) ?_
 rintro x w ⟨rfl, rfl⟩
 refine go TS_ok 200 rfl ?_
 repeat ((first | refine ldA TS_ok rfl rfl rfl rfl rfl (Bk.all B1) ?_ | refine ld TS_ok rfl rfl rfl rfl (Bk.get B1 rfl) ?_ | refine gT rfl rfl rfl rfl ?_ | refine gF rfl rfl rfl rfl ?_ | refine condT rfl rfl ?_ | refine condF rfl rfl ?_); refine go TS_ok 200 rfl ?_)
 exact ret (ret1 (v := .bool _) Try.results110 rfl ⟨⟨_, rfl, by rw [decide_eq_true_iff]; exact ⟨fun h5 => ⟨h1, h2, h3, h5⟩, fun h => h.2.2.2⟩⟩, q⟩)
theorem dyOk_iff (d : Dy) : DyOk d ↔ ((0 ≤ d.slo ∧ d.slo ≤ d.shi) ∧ d.shi ≤ 50) ∧ ((0 ≤ d.llo ∧ d.llo ≤ d.lhi) ∧ d.lhi ≤ 50) ∧ 0 ≤ d.gas ∧ d.gas ≤ 1000 :=
 ⟨fun h => ⟨⟨⟨h.s0, h.s1⟩, h.s2⟩, ⟨⟨h.l0, h.l1⟩, h.l2⟩, h.g0, h.g1⟩, fun ⟨⟨⟨a, b⟩, c⟩, ⟨⟨d, e⟩, f⟩, g, h⟩ => ⟨a, b, c, d, e, f, g, h⟩⟩
set_option maxRecDepth 20000 in
set_option maxHeartbeats 4000000 in
theorem days_any (m : Sm) (w0 : World) (H : SuM w0 m) : Ret Try.prog 111 [.agg (suL m).toArray] w0 fun v w' => (∃ b, v = .bool b ∧ (b = true ↔ DysOk m.a)) ∧ Chg No w0 w' := by
 have hlen := H.len
 refine enter Try.func111 rfl Try.ntmps111 rfl ?_
 refine go TS_ok 200 rfl ?_
 refine bx rfl rfl rfl (cs := suL m) rfl ?_
 intro g1 u1 hg1 hs1 q1 B1
 have q := q1
 refine go TS_ok 200 rfl ?_
 repeat ((first | refine ldA TS_ok rfl rfl rfl rfl rfl (Bk.all B1) ?_ | refine ld TS_ok rfl rfl rfl rfl (Bk.get B1 rfl) ?_ | refine gT rfl rfl rfl rfl ?_ | refine gF rfl rfl rfl rfl ?_ | refine condT rfl rfl ?_ | refine condF rfl rfl ?_); refine go TS_ok 200 rfl ?_)
 refine loop [1, 7, 8, 9] (fun j : Nat => [.pointer (some ⟨g1, 0, none⟩), .slice m.A m.a.days.length m.cap, .int .i64 (m.a.days.length : Int), .int .i64 (j : Int)])
  (fun j w' => j ≤ m.a.days.length ∧ Chg No w0 w' ∧ Bk w' g1 194 (suL m) ∧ ∀ i d, i < j → m.a.days[i]? = some d → DyOk d) (fun j => m.a.days.length - j) 0 (fun _ => rfl) rfl ⟨Nat.zero_le _, q, B1, fun i d h => absurd h (Nat.not_lt_zero _)⟩ ?_
 rintro j τ w ⟨hj, q, B1, hm⟩
 have H1 := H.no q
 refine go TS_ok 200 rfl ?_
 repeat ((first | refine ldA TS_ok rfl rfl rfl rfl rfl (Bk.all B1) ?_ | refine ld TS_ok rfl rfl rfl rfl (Bk.get B1 rfl) ?_ | refine gT rfl rfl rfl rfl ?_ | refine gF rfl rfl rfl rfl ?_ | refine condT rfl rfl ?_ | refine condF rfl rfl ?_); refine go TS_ok 200 rfl ?_)
 refine condD rfl (fun hlt => ?_) (fun hlt => ?_)
 ·have hlt : j < m.a.days.length := by omega
  obtain ⟨d, hd⟩ := getA_of hlt
  obtain ⟨b1, o1, hA1, hb1, hc1⟩ := Sl.el H1.sl dyL_len hd
  have e3 : w64 ((j : Int) + 1) = ((j + 1 : Nat) : Int) := w64_id (by omega) (by omega)
  refine go TS_ok 200 rfl ?_
  rw [hA1]
  refine idx TS_ok rfl rfl rfl rfl rfl j rfl hlt ?_
  refine go TS_ok 200 rfl ?_
  refine ldA TS_ok rfl rfl rfl rfl rfl hc1 ?_
  refine go TS_ok 200 rfl ?_
  rw [← hA1]
  have yB1 := B1.lt
  have yq := q.size
  refine nw rfl rfl (z := .agg #[I 0, I 0, I 0, I 0, I 0]) (by kernel_rfl) (cs := [I 0, I 0, I 0, I 0, I 0]) rfl ?_
  intro g4 w hg4 hs4 qk B4
  have B1 := B1.no qk
  have q := q.trans qk
  refine go TS_ok 200 rfl ?_
  refine stA TS_ok rfl rfl rfl rfl (vs := dyL d) rfl rfl rfl B4 rfl ?_
  intro w qk B4 hz4
  have B4 : Bk w g4 95 (dyL d) := B4
  have B1 := Bk.keep B1 qk (by omega)
  have q := q.step qk (fun k hk e => by omega)
  refine go TS_ok 200 rfl ?_
  repeat ((first | refine ldA TS_ok rfl rfl rfl rfl rfl (Bk.all B1) ?_ | refine ldA TS_ok rfl rfl rfl rfl rfl (Bk.all B4) ?_ | refine ld TS_ok rfl rfl rfl rfl (Bk.get B1 rfl) ?_ | refine ld TS_ok rfl rfl rfl rfl (Bk.get B4 rfl) ?_ | refine gT rfl rfl rfl rfl ?_ | refine gF rfl rfl rfl rfl ?_ | refine condT rfl rfl ?_ | refine condF rfl rfl ?_); refine go TS_ok 200 rfl ?_)
  refine ldA TS_ok rfl rfl rfl rfl rfl (bk_at (ds := spL d.slo d.shi) B4 rfl) ?_
  refine go TS_ok 200 rfl ?_
  repeat ((first | refine ldA TS_ok rfl rfl rfl rfl rfl (Bk.all B1) ?_ | refine ldA TS_ok rfl rfl rfl rfl rfl (Bk.all B4) ?_ | refine ld TS_ok rfl rfl rfl rfl (Bk.get B1 rfl) ?_ | refine ld TS_ok rfl rfl rfl rfl (Bk.get B4 rfl) ?_ | refine gT rfl rfl rfl rfl ?_ | refine gF rfl rfl rfl rfl ?_ | refine condT rfl rfl ?_ | refine condF rfl rfl ?_); refine go TS_ok 200 rfl ?_)
  refine call rfl rfl rfl (ok _ (by decide) rfl) (spanned_any d.slo d.shi 50 _) ?_
  rintro x w ⟨rfl, qk⟩
  have B1 := B1.no qk
  have B4 := B4.no qk
  have q := q.trans qk
  by_cases h1 : (0 ≤ d.slo ∧ d.slo ≤ d.shi) ∧ d.shi ≤ 50
  case neg =>
   rw [decide_eq_false h1]
   refine go TS_ok 200 rfl ?_
   repeat ((first | refine ldA TS_ok rfl rfl rfl rfl rfl (Bk.all B1) ?_ | refine ldA TS_ok rfl rfl rfl rfl rfl (Bk.all B4) ?_ | refine ld TS_ok rfl rfl rfl rfl (Bk.get B1 rfl) ?_ | refine ld TS_ok rfl rfl rfl rfl (Bk.get B4 rfl) ?_ | refine gT rfl rfl rfl rfl ?_ | refine gF rfl rfl rfl rfl ?_ | refine condT rfl rfl ?_ | refine condF rfl rfl ?_); refine go TS_ok 200 rfl ?_)
   exact ret (ret1 (v := .bool false) Try.results111 rfl ⟨⟨false, rfl, by simp; exact fun h => absurd ((dyOk_iff d).1 (h.1 d (List.mem_of_getElem? hd))) (fun h => h1 h.1)⟩, q⟩)
  rw [decide_eq_true h1]
  refine go TS_ok 200 rfl ?_
  repeat ((first | refine ldA TS_ok rfl rfl rfl rfl rfl (Bk.all B1) ?_ | refine ldA TS_ok rfl rfl rfl rfl rfl (Bk.all B4) ?_ | refine ld TS_ok rfl rfl rfl rfl (Bk.get B1 rfl) ?_ | refine ld TS_ok rfl rfl rfl rfl (Bk.get B4 rfl) ?_ | refine gT rfl rfl rfl rfl ?_ | refine gF rfl rfl rfl rfl ?_ | refine condT rfl rfl ?_ | refine condF rfl rfl ?_); refine go TS_ok 200 rfl ?_)
  refine ldA TS_ok rfl rfl rfl rfl rfl (bk_at (ds := spL d.llo d.lhi) B4 rfl) ?_
  refine go TS_ok 200 rfl ?_
  repeat ((first | refine ldA TS_ok rfl rfl rfl rfl rfl (Bk.all B1) ?_ | refine ldA TS_ok rfl rfl rfl rfl rfl (Bk.all B4) ?_ | refine ld TS_ok rfl rfl rfl rfl (Bk.get B1 rfl) ?_ | refine ld TS_ok rfl rfl rfl rfl (Bk.get B4 rfl) ?_ | refine gT rfl rfl rfl rfl ?_ | refine gF rfl rfl rfl rfl ?_ | refine condT rfl rfl ?_ | refine condF rfl rfl ?_); refine go TS_ok 200 rfl ?_)
  refine call rfl rfl rfl (ok _ (by decide) rfl) (spanned_any d.llo d.lhi 50 _) ?_
  rintro x w ⟨rfl, qk⟩
  have B1 := B1.no qk
  have B4 := B4.no qk
  have q := q.trans qk
  by_cases h2 : (0 ≤ d.llo ∧ d.llo ≤ d.lhi) ∧ d.lhi ≤ 50
  case neg =>
   rw [decide_eq_false h2]
   refine go TS_ok 200 rfl ?_
   repeat ((first | refine ldA TS_ok rfl rfl rfl rfl rfl (Bk.all B1) ?_ | refine ldA TS_ok rfl rfl rfl rfl rfl (Bk.all B4) ?_ | refine ld TS_ok rfl rfl rfl rfl (Bk.get B1 rfl) ?_ | refine ld TS_ok rfl rfl rfl rfl (Bk.get B4 rfl) ?_ | refine gT rfl rfl rfl rfl ?_ | refine gF rfl rfl rfl rfl ?_ | refine condT rfl rfl ?_ | refine condF rfl rfl ?_); refine go TS_ok 200 rfl ?_)
   exact ret (ret1 (v := .bool false) Try.results111 rfl ⟨⟨false, rfl, by simp; exact fun h => absurd ((dyOk_iff d).1 (h.1 d (List.mem_of_getElem? hd))) (fun h => h2 h.2.1)⟩, q⟩)
  rw [decide_eq_true h2]
  refine go TS_ok 200 rfl ?_
  repeat ((first | refine ldA TS_ok rfl rfl rfl rfl rfl (Bk.all B1) ?_ | refine ldA TS_ok rfl rfl rfl rfl rfl (Bk.all B4) ?_ | refine ld TS_ok rfl rfl rfl rfl (Bk.get B1 rfl) ?_ | refine ld TS_ok rfl rfl rfl rfl (Bk.get B4 rfl) ?_ | refine gT rfl rfl rfl rfl ?_ | refine gF rfl rfl rfl rfl ?_ | refine condT rfl rfl ?_ | refine condF rfl rfl ?_); refine go TS_ok 200 rfl ?_)
  refine call rfl rfl rfl (ok _ (by decide) rfl) (within_any d.gas 0 1000 _) ?_
  rintro x w ⟨rfl, rfl⟩
  by_cases h3 : 0 ≤ d.gas ∧ d.gas ≤ 1000
  case neg =>
   rw [decide_eq_false h3]
   refine go TS_ok 200 rfl ?_
   repeat ((first | refine ldA TS_ok rfl rfl rfl rfl rfl (Bk.all B1) ?_ | refine ldA TS_ok rfl rfl rfl rfl rfl (Bk.all B4) ?_ | refine ld TS_ok rfl rfl rfl rfl (Bk.get B1 rfl) ?_ | refine ld TS_ok rfl rfl rfl rfl (Bk.get B4 rfl) ?_ | refine gT rfl rfl rfl rfl ?_ | refine gF rfl rfl rfl rfl ?_ | refine condT rfl rfl ?_ | refine condF rfl rfl ?_); refine go TS_ok 200 rfl ?_)
   exact ret (ret1 (v := .bool false) Try.results111 rfl ⟨⟨false, rfl, by simp; exact fun h => absurd ((dyOk_iff d).1 (h.1 d (List.mem_of_getElem? hd))) (fun h => h3 h.2.2)⟩, q⟩)
  rw [decide_eq_true h3]
  refine go TS_ok 200 rfl ?_
  repeat ((first | refine ldA TS_ok rfl rfl rfl rfl rfl (Bk.all B1) ?_ | refine ldA TS_ok rfl rfl rfl rfl rfl (Bk.all B4) ?_ | refine ld TS_ok rfl rfl rfl rfl (Bk.get B1 rfl) ?_ | refine ld TS_ok rfl rfl rfl rfl (Bk.get B4 rfl) ?_ | refine gT rfl rfl rfl rfl ?_ | refine gF rfl rfl rfl rfl ?_ | refine condT rfl rfl ?_ | refine condF rfl rfl ?_); refine go TS_ok 200 rfl ?_)
  rw [e3]
  refine round ⟨j + 1, rfl, ⟨by omega, q, B1, fun i d' hi hd' => ?_⟩, by omega⟩
  rcases Nat.lt_or_ge i j with h' | h'
  ·exact hm i d' h' hd'
  ·obtain rfl : i = j := by omega
   rw [hd] at hd'; cases hd'
   exact (dyOk_iff d).2 ⟨h1, h2, h3⟩
 ·obtain rfl : j = m.a.days.length := by omega
  have hall : ∀ d ∈ m.a.days, DyOk d := fun d hd => by
   obtain ⟨i, hi, rfl⟩ := List.getElem_of_mem hd
   exact hm i _ hi (List.getElem?_eq_getElem hi)
  refine go TS_ok 200 rfl ?_
  repeat ((first | refine ldA TS_ok rfl rfl rfl rfl rfl (Bk.all B1) ?_ | refine ldA TS_ok rfl rfl rfl rfl rfl (Bk.all B4) ?_ | refine ld TS_ok rfl rfl rfl rfl (Bk.get B1 rfl) ?_ | refine ld TS_ok rfl rfl rfl rfl (Bk.get B4 rfl) ?_ | refine gT rfl rfl rfl rfl ?_ | refine gF rfl rfl rfl rfl ?_ | refine condT rfl rfl ?_ | refine condF rfl rfl ?_); refine go TS_ok 200 rfl ?_)
  exact ret (ret1 (v := .bool _) Try.results111 rfl ⟨⟨_, rfl, by rw [decide_eq_true_iff]; exact ⟨fun h => ⟨hall, by omega⟩, fun h => by have := h.2; omega⟩⟩, q⟩)
end Go.Proofs.Yteenhfnamjbaiaa
namespace Go.Proofs.Yteenhfnamjbaiaa
open Go.Ev Go.Proofs Go.Camp
attribute [local irreducible] At AtH
set_option maxRecDepth 20000 in
set_option maxHeartbeats 4000000 in
theorem supplied_any (m : Sm) (w0 : World) (H : SuM w0 m) : Ret Try.prog 77 [.agg (suL m).toArray] w0 fun v w' => (∃ b, v = .bool b ∧ (b = true ↔ SupOk m.a)) ∧ Chg No w0 w' := by
 refine enter Try.func77 rfl Try.ntmps77 rfl ?_
 refine go TS_ok 200 rfl ?_
 refine bx rfl rfl rfl (cs := suL m) rfl ?_
 intro g1 u1 hg1 hs1 q1 B1
 have q := q1
 refine go TS_ok 200 rfl ?_
 repeat ((first | refine ldA TS_ok rfl rfl rfl rfl rfl (Bk.all B1) ?_ | refine ld TS_ok rfl rfl rfl rfl (Bk.get B1 rfl) ?_ | refine gT rfl rfl rfl rfl ?_ | refine gF rfl rfl rfl rfl ?_ | refine condT rfl rfl ?_ | refine condF rfl rfl ?_); refine go TS_ok 200 rfl ?_)
 refine nw rfl rfl (z := .agg #[I 0, I 0, I 0, I 0, I 0, I 0, I 0, I 0, I 0, .slice none 0 0]) (by kernel_rfl) (cs := [I 0, I 0, I 0, I 0, I 0, I 0, I 0, I 0, I 0, .slice none 0 0]) rfl ?_
 intro g3 w hg3 hs3 qa B3
 refine go TS_ok 200 rfl ?_
 refine stA TS_ok rfl rfl rfl rfl (vs := suL m) rfl rfl rfl B3 rfl ?_
 intro w qb B3 hz3
 have B3 : Bk w g3 194 (suL m) := B3
 have qk : Chg No u1 w := qa.step qb (fun k hk e => by omega)
 have B1 := B1.no qk
 have q := q.trans qk
 refine go TS_ok 200 rfl ?_
 repeat ((first | refine ldA TS_ok rfl rfl rfl rfl rfl (Bk.all B3) ?_ | refine ld TS_ok rfl rfl rfl rfl (Bk.get B3 rfl) ?_ | refine gT rfl rfl rfl rfl ?_ | refine gF rfl rfl rfl rfl ?_ | refine condT rfl rfl ?_ | refine condF rfl rfl ?_); refine go TS_ok 200 rfl ?_)
 refine bldA TS_ok rfl rfl rfl (z := .agg #[.nilFunc, .nilFunc, .nilFunc]) (by kernel_rfl) (cs := [.func (.func 109) #[.agg (suL m).toArray] #[], .func (.func 110) #[.agg (suL m).toArray] #[], .func (.func 111) #[.agg (suL m).toArray] #[]]) rfl ?_
 refine go TS_ok 200 rfl ?_
 refine loop [14, 15] (fun j : Nat => [.agg #[.func (.func 109) #[.agg (suL m).toArray] #[], .func (.func 110) #[.agg (suL m).toArray] #[], .func (.func 111) #[.agg (suL m).toArray] #[]], .int .i64 (j : Int)])
  (fun j w' => j ≤ 3 ∧ Chg No w0 w' ∧ (1 ≤ j → BegOk m.a) ∧ (2 ≤ j → TakOk m.a) ∧ (3 ≤ j → DysOk m.a)) (fun j => 3 - j) 0 (fun _ => rfl) rfl ⟨by omega, q, by omega, by omega, by omega⟩ ?_
 rintro j τ w ⟨hj, q, j1, j2, j3⟩
 have H1 := H.no q
 refine go TS_ok 200 rfl ?_
 refine condD rfl (fun hlt => ?_) (fun hlt => ?_)
 ·have hlt : j < 3 := by omega
  obtain hj' | hj' | hj' : j = 0 ∨ j = 1 ∨ j = 2 := by omega
  ·skip
   subst hj'
   refine go TS_ok 200 rfl ?_
   refine ix1 TS_ok rfl rfl rfl rfl rfl 0 rfl (by decide) rfl ?_
   refine go TS_ok 200 rfl ?_
   refine call rfl rfl rfl (ok _ (by decide) rfl) (begins_any m _) ?_
   rintro x w ⟨⟨b, rfl, hb⟩, qk⟩
   have q := q.trans qk
   cases b with
   | false =>
    refine go TS_ok 200 rfl ?_
    refine condT rfl rfl ?_
    refine go TS_ok 200 rfl ?_
    exact ret (ret1 (v := .bool false) Try.results77 rfl ⟨⟨false, rfl, by simp; exact fun h => absurd (hb.2 ((supOk_iff m.a).1 h).1) (by simp)⟩, q⟩)
   | true =>
    refine go TS_ok 200 rfl ?_
    refine condF rfl rfl ?_
    refine go TS_ok 200 rfl ?_
    exact round ⟨0 + 1, rfl, ⟨by omega, q, fun _ => hb.1 rfl, by omega, by omega⟩, by omega⟩
  ·skip
   subst hj'
   refine go TS_ok 200 rfl ?_
   refine ix1 TS_ok rfl rfl rfl rfl rfl 1 rfl (by decide) rfl ?_
   refine go TS_ok 200 rfl ?_
   refine call rfl rfl rfl (ok _ (by decide) rfl) (takes_any m _) ?_
   rintro x w ⟨⟨b, rfl, hb⟩, qk⟩
   have q := q.trans qk
   cases b with
   | false =>
    refine go TS_ok 200 rfl ?_
    refine condT rfl rfl ?_
    refine go TS_ok 200 rfl ?_
    exact ret (ret1 (v := .bool false) Try.results77 rfl ⟨⟨false, rfl, by simp; exact fun h => absurd (hb.2 ((supOk_iff m.a).1 h).2.1) (by simp)⟩, q⟩)
   | true =>
    refine go TS_ok 200 rfl ?_
    refine condF rfl rfl ?_
    refine go TS_ok 200 rfl ?_
    exact round ⟨1 + 1, rfl, ⟨by omega, q, fun _ => j1 (by omega), fun _ => hb.1 rfl, by omega⟩, by omega⟩
  ·skip
   subst hj'
   refine go TS_ok 200 rfl ?_
   refine ix1 TS_ok rfl rfl rfl rfl rfl 2 rfl (by decide) rfl ?_
   refine go TS_ok 200 rfl ?_
   refine call rfl rfl rfl (ok _ (by decide) rfl) (days_any m _ H1) ?_
   rintro x w ⟨⟨b, rfl, hb⟩, qk⟩
   have q := q.trans qk
   cases b with
   | false =>
    refine go TS_ok 200 rfl ?_
    refine condT rfl rfl ?_
    refine go TS_ok 200 rfl ?_
    exact ret (ret1 (v := .bool false) Try.results77 rfl ⟨⟨false, rfl, by simp; exact fun h => absurd (hb.2 ((supOk_iff m.a).1 h).2.2) (by simp)⟩, q⟩)
   | true =>
    refine go TS_ok 200 rfl ?_
    refine condF rfl rfl ?_
    refine go TS_ok 200 rfl ?_
    exact round ⟨2 + 1, rfl, ⟨by omega, q, fun _ => j1 (by omega), fun _ => j2 (by omega), fun _ => hb.1 rfl⟩, by omega⟩
 ·have hj3 : j = 3 := by omega
  refine go TS_ok 200 rfl ?_
  exact ret (ret1 (v := .bool true) Try.results77 rfl ⟨⟨true, rfl, by simp; exact (supOk_iff m.a).2 ⟨j1 (by omega), j2 (by omega), j3 (by omega)⟩⟩, q⟩)
/-- a stock that can be reckoned with -/
structure StB (x : Stk) : Prop where
 c0 : 0 ≤ x.ch
 c1 : x.ch ≤ 50
 g0 : 0 ≤ x.gas
 g1 : x.gas ≤ 1000000
 d0 : 0 ≤ x.dat
 d1 : x.dat ≤ 50
theorem okN_run (a : Sup) (d : Dy) (x : Stk) (sun link : Int) : okN a d x true sun link = (decide (0 ≤ x.ch + (sun - a.run)) && (decide (0 ≤ x.gas + d.gas - a.burn) && decide (max 0 (x.dat + a.dat - link) ≤ a.store))) := rfl
theorem okN_idle (a : Sup) (d : Dy) (x : Stk) (sun link : Int) : okN a d x false sun link = (decide (0 ≤ x.ch + (sun - a.idle)) && (decide (0 ≤ x.gas + d.gas) && decide (max 0 (x.dat - link) ≤ a.store))) := by
 show (decide (0 ≤ x.ch + (sun - a.idle)) && (decide (0 ≤ x.gas + d.gas - 0) && decide (max 0 (x.dat + 0 - link) ≤ a.store))) = _
 rw [Int.sub_zero, Int.add_zero]
def stL (x : Stk) (day : Nat) : List Value := [I x.ch, I x.gas, I x.dat, I (day : Int)]
set_option maxRecDepth 20000 in
set_option maxHeartbeats 8000000 in
theorem next_any (m : Sm) (x : Stk) (day : Nat) (d : Dy) (run : Bool) (sun link : Int) (w0 : World) (H : SuM w0 m) (ha : SupOk m.a) (hd : m.a.days[day]? = some d) (hx : StB x) (s0 : 0 ≤ sun) (s1 : sun ≤ 50) (l0 : 0 ≤ link) (l1 : link ≤ 50) :
  Ret Try.prog 96 [.agg (stL x day).toArray, .agg (suL m).toArray, .bool run, I sun, I link] w0 fun v w' => v = .tuple #[.agg (stL (nextN m.a d x run sun link) (day + 1)).toArray, .bool (okN m.a d x run sun link)] ∧ Chg No w0 w' := by
 have hday := (List.getElem?_eq_some_iff.1 hd).1
 have hl := ha.len
 have hdo := ha.days d (List.mem_of_getElem? hd)
 have a1 := ha.r0; have a2 := ha.r1; have a3 := ha.t0; have a4 := ha.t1; have a5 := ha.i0; have a6 := ha.i1; have a7 := ha.u1; have a8 := ha.b0; have a9 := ha.b1; have a10 := ha.a0; have a11 := ha.a1
 have d1 := hdo.g0; have d2 := hdo.g1
 have x1 := hx.c0; have x2 := hx.c1; have x3 := hx.g0; have x4 := hx.g1; have x5 := hx.d0; have x6 := hx.d1
 refine enter Try.func96 rfl Try.ntmps96 rfl ?_
 refine go TS_ok 200 rfl ?_
 refine bx rfl rfl rfl (cs := stL x day) rfl ?_
 intro g5 u5 hg5 hs5 q5 B5
 have q := q5
 refine go TS_ok 200 rfl ?_
 refine bx rfl rfl rfl (cs := suL m) rfl ?_
 intro g6 w1 hg6 hs6 qk B6
 have B5 := B5.no qk
 have q := q.trans qk
 refine go TS_ok 200 rfl ?_
 refine nw rfl rfl (z := .agg #[I 0, I 0, I 0, I 0]) (by kernel_rfl) (cs := [I 0, I 0, I 0, I 0]) rfl ?_
 intro g10 w2 hg10 hs10 qk B10
 have B5 := B5.no qk
 have B6 := B6.no qk
 have q := q.trans qk
 obtain ⟨b1, o1, hA1, hb1, hc1⟩ := Sl.el (H.no q).sl dyL_len hd
 refine go TS_ok 200 rfl ?_
 have lb1 : b1 ≠ g5 := by
  rintro rfl
  obtain ⟨b0, o0, hA0, hb0, hc0⟩ := Sl.el H.sl dyL_len hd
  rw [hA1] at hA0
  cases hA0
  omega
 have n65 : g6 ≠ g5 := by omega
 have hq2 := q.size
 refine draw mixed (fun w' => Chg (fun k => k = g5) w2 w' ∧ w'.cell? ⟨g5, 3, none⟩ = some (I (day : Int))) ([0,1,3,4,5,6,7,8,9].map (fun i => (i, true)) ++ [(2, false)] ++ [10,11,12].map (fun i => (i, true)) ++ [(13, false)]) rfl (by kernel_rfl) ⟨(Chg.drew _).mono fun _ _ h => h.elim, (B5.no (Chg.drew _)).get rfl⟩ ?_
 refine goH TS_ok 200 rfl ?_
 repeat (first | (refine quietH rfl (fun w' hS => r_load TS_ok rfl rfl rfl (Bk.get (B6.keep hS.1 n65) rfl)) ?_; refine goH TS_ok 200 rfl ?_))
 refine quietH rfl (fun w' hS => r_load TS_ok rfl rfl rfl hS.2) ?_
 refine goH TS_ok 200 rfl ?_
 rw [hA1]
 refine quietH rfl (fun w' hS => r_idx TS_ok rfl rfl rfl rfl day rfl hday) ?_
 refine goH TS_ok 200 rfl ?_
 refine quietH rfl (fun w' hS => r_load TS_ok rfl rfl rfl ((hS.1.cell (a := ⟨b1, o1 + day * 5 + 4, none⟩) hb1 lb1).trans (hc1.get (i := 4) rfl))) ?_
 rw [← hA1]
 refine goH TS_ok 200 rfl ?_
 refine valE rfl (r_load TS_ok rfl rfl rfl ((B5.no (Chg.drew _)).get (i := 1) rfl)) ⟨(Chg.drew _).mono fun _ _ h => h.elim, (B5.no (Chg.drew _)).get rfl⟩ ?_
 refine goH TS_ok 200 rfl ?_
 rw [w64_id (x := x.gas + d.gas) (by omega) (by omega)]
 refine storeE TS_ok rfl rfl rfl rfl (v := I (x.gas + d.gas)) rfl rfl (B5.no (Chg.drew _)) rfl ?_
 intro w3 q3 B5 hz5
 have q3 : Chg (fun k => k = g5) w2 w3 := ((Chg.drew w2).mono fun _ _ h => h.elim).trans q3
 have B5 : Bk w3 g5 135 [I x.ch, I (x.gas + d.gas), I x.dat, I (day : Int)] := B5
 refine ⟨⟨q3, B5.get rfl⟩, ?_⟩
 have B6 := B6.keep q3 (by omega)
 have B10 := B10.keep q3 (by omega)
 have q := q.step q3 (fun k hk e => by omega)
 refine goH TS_ok 200 rfl ?_
 refine endH ?_
 have u5 : g5 < g6 := by omega
 have u6 : g6 < g10 := by omega
 have lq3 := q.size
 have lw5 : w0.heap.size ≤ g5 := by omega
 clear hq2 hs5 hg5 hs6 hg6 hs10 hg10
 cases run with
 | false =>
  refine go TS_ok 200 rfl ?_
  repeat ((first | refine ldA TS_ok rfl rfl rfl rfl rfl (Bk.all B5) ?_ | refine ldA TS_ok rfl rfl rfl rfl rfl (Bk.all B6) ?_ | refine ldA TS_ok rfl rfl rfl rfl rfl (Bk.all B10) ?_ | refine ld TS_ok rfl rfl rfl rfl (Bk.get B5 rfl) ?_ | refine ld TS_ok rfl rfl rfl rfl (Bk.get B6 rfl) ?_ | refine ld TS_ok rfl rfl rfl rfl (Bk.get B10 rfl) ?_ | refine gT rfl rfl rfl rfl ?_ | refine gF rfl rfl rfl rfl ?_ | refine condT rfl rfl ?_ | refine condF rfl rfl ?_); refine go TS_ok 200 rfl ?_)
  rw [w64_id (x := sun - (m.a.idle)) (by omega) (by omega), w64_id (x := x.ch + (sun - (m.a.idle))) (by omega) (by omega)]
  refine st TS_ok rfl rfl rfl rfl (v := I (x.ch + (sun - (m.a.idle)))) rfl rfl B5 rfl ?_
  intro w qk B5 hzz
  have B5 : Bk w g5 135 ([I (x.ch + (sun - (m.a.idle))), I (x.gas + d.gas), I (x.dat), I (day : Int)]) := B5
  have B6 := B6.keep qk (by omega)
  have B10 := B10.keep qk (by omega)
  have q := q.step qk (fun k hk e => by omega)
  refine go TS_ok 200 rfl ?_
  repeat ((first | refine ldA TS_ok rfl rfl rfl rfl rfl (Bk.all B5) ?_ | refine ldA TS_ok rfl rfl rfl rfl rfl (Bk.all B6) ?_ | refine ldA TS_ok rfl rfl rfl rfl rfl (Bk.all B10) ?_ | refine ld TS_ok rfl rfl rfl rfl (Bk.get B5 rfl) ?_ | refine ld TS_ok rfl rfl rfl rfl (Bk.get B6 rfl) ?_ | refine ld TS_ok rfl rfl rfl rfl (Bk.get B10 rfl) ?_ | refine gT rfl rfl rfl rfl ?_ | refine gF rfl rfl rfl rfl ?_ | refine condT rfl rfl ?_ | refine condF rfl rfl ?_); refine go TS_ok 200 rfl ?_)
  rw [w64_id (x := x.dat - link) (by omega) (by omega)]
  refine st TS_ok rfl rfl rfl rfl (v := I (max 0 (x.dat - link))) rfl rfl B5 rfl ?_
  intro w qk B5 hzz
  have B5 : Bk w g5 135 ([I (x.ch + (sun - (m.a.idle))), I (x.gas + d.gas), I (max 0 (x.dat - link)), I (day : Int)]) := B5
  have B6 := B6.keep qk (by omega)
  have B10 := B10.keep qk (by omega)
  have q := q.step qk (fun k hk e => by omega)
  refine go TS_ok 200 rfl ?_
  repeat ((first | refine ldA TS_ok rfl rfl rfl rfl rfl (Bk.all B5) ?_ | refine ldA TS_ok rfl rfl rfl rfl rfl (Bk.all B6) ?_ | refine ldA TS_ok rfl rfl rfl rfl rfl (Bk.all B10) ?_ | refine ld TS_ok rfl rfl rfl rfl (Bk.get B5 rfl) ?_ | refine ld TS_ok rfl rfl rfl rfl (Bk.get B6 rfl) ?_ | refine ld TS_ok rfl rfl rfl rfl (Bk.get B10 rfl) ?_ | refine gT rfl rfl rfl rfl ?_ | refine gF rfl rfl rfl rfl ?_ | refine condT rfl rfl ?_ | refine condF rfl rfl ?_); refine go TS_ok 200 rfl ?_)
  by_cases h1 : 0 ≤ x.ch + (sun - (m.a.idle))
  case neg =>
   rw [decide_eq_false h1]
   refine go TS_ok 200 rfl ?_
   repeat ((first | refine ldA TS_ok rfl rfl rfl rfl rfl (Bk.all B5) ?_ | refine ldA TS_ok rfl rfl rfl rfl rfl (Bk.all B6) ?_ | refine ldA TS_ok rfl rfl rfl rfl rfl (Bk.all B10) ?_ | refine ld TS_ok rfl rfl rfl rfl (Bk.get B5 rfl) ?_ | refine ld TS_ok rfl rfl rfl rfl (Bk.get B6 rfl) ?_ | refine ld TS_ok rfl rfl rfl rfl (Bk.get B10 rfl) ?_ | refine gT rfl rfl rfl rfl ?_ | refine gF rfl rfl rfl rfl ?_ | refine condT rfl rfl ?_ | refine condF rfl rfl ?_); refine go TS_ok 200 rfl ?_)
   refine st TS_ok rfl rfl rfl rfl (v := I (min m.a.room (x.ch + (sun - (m.a.idle))))) rfl rfl B5 rfl ?_
   intro w qk B5 hzz
   have B5 : Bk w g5 135 ([I (min m.a.room (x.ch + (sun - (m.a.idle)))), I (x.gas + d.gas), I ((max 0 (x.dat - link))), I (day : Int)]) := B5
   have B6 := B6.keep qk (by omega)
   have B10 := B10.keep qk (by omega)
   have q := q.step qk (fun k hk e => by omega)
   refine go TS_ok 200 rfl ?_
   repeat ((first | refine ldA TS_ok rfl rfl rfl rfl rfl (Bk.all B5) ?_ | refine ldA TS_ok rfl rfl rfl rfl rfl (Bk.all B6) ?_ | refine ldA TS_ok rfl rfl rfl rfl rfl (Bk.all B10) ?_ | refine ld TS_ok rfl rfl rfl rfl (Bk.get B5 rfl) ?_ | refine ld TS_ok rfl rfl rfl rfl (Bk.get B6 rfl) ?_ | refine ld TS_ok rfl rfl rfl rfl (Bk.get B10 rfl) ?_ | refine gT rfl rfl rfl rfl ?_ | refine gF rfl rfl rfl rfl ?_ | refine condT rfl rfl ?_ | refine condF rfl rfl ?_); refine go TS_ok 200 rfl ?_)
   rw [w64_id (x := (day : Int) + 1) (by omega) (by omega)]
   refine st TS_ok rfl rfl rfl rfl (v := I (((day + 1 : Nat) : Int))) rfl rfl B5 rfl ?_
   intro w qk B5 hzz
   have B5 : Bk w g5 135 ([I (min m.a.room (x.ch + (sun - (m.a.idle)))), I (x.gas + d.gas), I ((max 0 (x.dat - link))), I ((day + 1 : Nat) : Int)]) := B5
   have B6 := B6.keep qk (by omega)
   have B10 := B10.keep qk (by omega)
   have q := q.step qk (fun k hk e => by omega)
   refine go TS_ok 200 rfl ?_
   repeat ((first | refine ldA TS_ok rfl rfl rfl rfl rfl (Bk.all B5) ?_ | refine ldA TS_ok rfl rfl rfl rfl rfl (Bk.all B6) ?_ | refine ldA TS_ok rfl rfl rfl rfl rfl (Bk.all B10) ?_ | refine ld TS_ok rfl rfl rfl rfl (Bk.get B5 rfl) ?_ | refine ld TS_ok rfl rfl rfl rfl (Bk.get B6 rfl) ?_ | refine ld TS_ok rfl rfl rfl rfl (Bk.get B10 rfl) ?_ | refine gT rfl rfl rfl rfl ?_ | refine gF rfl rfl rfl rfl ?_ | refine condT rfl rfl ?_ | refine condF rfl rfl ?_); refine go TS_ok 200 rfl ?_)
   refine stA TS_ok rfl rfl rfl rfl (vs := [I (min m.a.room (x.ch + (sun - (m.a.idle)))), I (x.gas + d.gas), I ((max 0 (x.dat - link))), I ((day + 1 : Nat) : Int)]) rfl rfl rfl B10 rfl ?_
   intro w9 qk B10 hz10
   have B10 : Bk w9 g10 135 [I (min m.a.room (x.ch + (sun - (m.a.idle)))), I (x.gas + d.gas), I ((max 0 (x.dat - link))), I ((day + 1 : Nat) : Int)] := B10
   have q := q.step qk (fun k hk e => by omega)
   refine go TS_ok 200 rfl ?_
   refine ret (retR2 Try.results96 (resA TS_ok rfl rfl rfl B10.all) (s := .tmp 11) (x := .bool (false)) rfl ⟨?_, q⟩)
   have e1 : okN m.a d x false sun link = false := (by rw [okN_idle, decide_eq_false h1]; rfl)
   rw [e1]
   simp [stL, nextN, capN, rawN]
  rw [decide_eq_true h1]
  refine go TS_ok 200 rfl ?_
  repeat ((first | refine ldA TS_ok rfl rfl rfl rfl rfl (Bk.all B5) ?_ | refine ldA TS_ok rfl rfl rfl rfl rfl (Bk.all B6) ?_ | refine ldA TS_ok rfl rfl rfl rfl rfl (Bk.all B10) ?_ | refine ld TS_ok rfl rfl rfl rfl (Bk.get B5 rfl) ?_ | refine ld TS_ok rfl rfl rfl rfl (Bk.get B6 rfl) ?_ | refine ld TS_ok rfl rfl rfl rfl (Bk.get B10 rfl) ?_ | refine gT rfl rfl rfl rfl ?_ | refine gF rfl rfl rfl rfl ?_ | refine condT rfl rfl ?_ | refine condF rfl rfl ?_); refine go TS_ok 200 rfl ?_)
  by_cases h2 : 0 ≤ x.gas + d.gas
  case neg =>
   rw [decide_eq_false h2]
   refine go TS_ok 200 rfl ?_
   repeat ((first | refine ldA TS_ok rfl rfl rfl rfl rfl (Bk.all B5) ?_ | refine ldA TS_ok rfl rfl rfl rfl rfl (Bk.all B6) ?_ | refine ldA TS_ok rfl rfl rfl rfl rfl (Bk.all B10) ?_ | refine ld TS_ok rfl rfl rfl rfl (Bk.get B5 rfl) ?_ | refine ld TS_ok rfl rfl rfl rfl (Bk.get B6 rfl) ?_ | refine ld TS_ok rfl rfl rfl rfl (Bk.get B10 rfl) ?_ | refine gT rfl rfl rfl rfl ?_ | refine gF rfl rfl rfl rfl ?_ | refine condT rfl rfl ?_ | refine condF rfl rfl ?_); refine go TS_ok 200 rfl ?_)
   refine st TS_ok rfl rfl rfl rfl (v := I (min m.a.room (x.ch + (sun - (m.a.idle))))) rfl rfl B5 rfl ?_
   intro w qk B5 hzz
   have B5 : Bk w g5 135 ([I (min m.a.room (x.ch + (sun - (m.a.idle)))), I (x.gas + d.gas), I ((max 0 (x.dat - link))), I (day : Int)]) := B5
   have B6 := B6.keep qk (by omega)
   have B10 := B10.keep qk (by omega)
   have q := q.step qk (fun k hk e => by omega)
   refine go TS_ok 200 rfl ?_
   repeat ((first | refine ldA TS_ok rfl rfl rfl rfl rfl (Bk.all B5) ?_ | refine ldA TS_ok rfl rfl rfl rfl rfl (Bk.all B6) ?_ | refine ldA TS_ok rfl rfl rfl rfl rfl (Bk.all B10) ?_ | refine ld TS_ok rfl rfl rfl rfl (Bk.get B5 rfl) ?_ | refine ld TS_ok rfl rfl rfl rfl (Bk.get B6 rfl) ?_ | refine ld TS_ok rfl rfl rfl rfl (Bk.get B10 rfl) ?_ | refine gT rfl rfl rfl rfl ?_ | refine gF rfl rfl rfl rfl ?_ | refine condT rfl rfl ?_ | refine condF rfl rfl ?_); refine go TS_ok 200 rfl ?_)
   rw [w64_id (x := (day : Int) + 1) (by omega) (by omega)]
   refine st TS_ok rfl rfl rfl rfl (v := I (((day + 1 : Nat) : Int))) rfl rfl B5 rfl ?_
   intro w qk B5 hzz
   have B5 : Bk w g5 135 ([I (min m.a.room (x.ch + (sun - (m.a.idle)))), I (x.gas + d.gas), I ((max 0 (x.dat - link))), I ((day + 1 : Nat) : Int)]) := B5
   have B6 := B6.keep qk (by omega)
   have B10 := B10.keep qk (by omega)
   have q := q.step qk (fun k hk e => by omega)
   refine go TS_ok 200 rfl ?_
   repeat ((first | refine ldA TS_ok rfl rfl rfl rfl rfl (Bk.all B5) ?_ | refine ldA TS_ok rfl rfl rfl rfl rfl (Bk.all B6) ?_ | refine ldA TS_ok rfl rfl rfl rfl rfl (Bk.all B10) ?_ | refine ld TS_ok rfl rfl rfl rfl (Bk.get B5 rfl) ?_ | refine ld TS_ok rfl rfl rfl rfl (Bk.get B6 rfl) ?_ | refine ld TS_ok rfl rfl rfl rfl (Bk.get B10 rfl) ?_ | refine gT rfl rfl rfl rfl ?_ | refine gF rfl rfl rfl rfl ?_ | refine condT rfl rfl ?_ | refine condF rfl rfl ?_); refine go TS_ok 200 rfl ?_)
   refine stA TS_ok rfl rfl rfl rfl (vs := [I (min m.a.room (x.ch + (sun - (m.a.idle)))), I (x.gas + d.gas), I ((max 0 (x.dat - link))), I ((day + 1 : Nat) : Int)]) rfl rfl rfl B10 rfl ?_
   intro w9 qk B10 hz10
   have B10 : Bk w9 g10 135 [I (min m.a.room (x.ch + (sun - (m.a.idle)))), I (x.gas + d.gas), I ((max 0 (x.dat - link))), I ((day + 1 : Nat) : Int)] := B10
   have q := q.step qk (fun k hk e => by omega)
   refine go TS_ok 200 rfl ?_
   refine ret (retR2 Try.results96 (resA TS_ok rfl rfl rfl B10.all) (s := .tmp 11) (x := .bool (false)) rfl ⟨?_, q⟩)
   have e1 : okN m.a d x false sun link = false := (by rw [okN_idle, decide_eq_true h1, decide_eq_false h2]; rfl)
   rw [e1]
   simp [stL, nextN, capN, rawN]
  rw [decide_eq_true h2]
  refine go TS_ok 200 rfl ?_
  repeat ((first | refine ldA TS_ok rfl rfl rfl rfl rfl (Bk.all B5) ?_ | refine ldA TS_ok rfl rfl rfl rfl rfl (Bk.all B6) ?_ | refine ldA TS_ok rfl rfl rfl rfl rfl (Bk.all B10) ?_ | refine ld TS_ok rfl rfl rfl rfl (Bk.get B5 rfl) ?_ | refine ld TS_ok rfl rfl rfl rfl (Bk.get B6 rfl) ?_ | refine ld TS_ok rfl rfl rfl rfl (Bk.get B10 rfl) ?_ | refine gT rfl rfl rfl rfl ?_ | refine gF rfl rfl rfl rfl ?_ | refine condT rfl rfl ?_ | refine condF rfl rfl ?_); refine go TS_ok 200 rfl ?_)
  by_cases h3 : max 0 (x.dat - link) ≤ m.a.store
  case neg =>
   rw [decide_eq_false h3]
   refine go TS_ok 200 rfl ?_
   repeat ((first | refine ldA TS_ok rfl rfl rfl rfl rfl (Bk.all B5) ?_ | refine ldA TS_ok rfl rfl rfl rfl rfl (Bk.all B6) ?_ | refine ldA TS_ok rfl rfl rfl rfl rfl (Bk.all B10) ?_ | refine ld TS_ok rfl rfl rfl rfl (Bk.get B5 rfl) ?_ | refine ld TS_ok rfl rfl rfl rfl (Bk.get B6 rfl) ?_ | refine ld TS_ok rfl rfl rfl rfl (Bk.get B10 rfl) ?_ | refine gT rfl rfl rfl rfl ?_ | refine gF rfl rfl rfl rfl ?_ | refine condT rfl rfl ?_ | refine condF rfl rfl ?_); refine go TS_ok 200 rfl ?_)
   refine st TS_ok rfl rfl rfl rfl (v := I (min m.a.room (x.ch + (sun - (m.a.idle))))) rfl rfl B5 rfl ?_
   intro w qk B5 hzz
   have B5 : Bk w g5 135 ([I (min m.a.room (x.ch + (sun - (m.a.idle)))), I (x.gas + d.gas), I ((max 0 (x.dat - link))), I (day : Int)]) := B5
   have B6 := B6.keep qk (by omega)
   have B10 := B10.keep qk (by omega)
   have q := q.step qk (fun k hk e => by omega)
   refine go TS_ok 200 rfl ?_
   repeat ((first | refine ldA TS_ok rfl rfl rfl rfl rfl (Bk.all B5) ?_ | refine ldA TS_ok rfl rfl rfl rfl rfl (Bk.all B6) ?_ | refine ldA TS_ok rfl rfl rfl rfl rfl (Bk.all B10) ?_ | refine ld TS_ok rfl rfl rfl rfl (Bk.get B5 rfl) ?_ | refine ld TS_ok rfl rfl rfl rfl (Bk.get B6 rfl) ?_ | refine ld TS_ok rfl rfl rfl rfl (Bk.get B10 rfl) ?_ | refine gT rfl rfl rfl rfl ?_ | refine gF rfl rfl rfl rfl ?_ | refine condT rfl rfl ?_ | refine condF rfl rfl ?_); refine go TS_ok 200 rfl ?_)
   rw [w64_id (x := (day : Int) + 1) (by omega) (by omega)]
   refine st TS_ok rfl rfl rfl rfl (v := I (((day + 1 : Nat) : Int))) rfl rfl B5 rfl ?_
   intro w qk B5 hzz
   have B5 : Bk w g5 135 ([I (min m.a.room (x.ch + (sun - (m.a.idle)))), I (x.gas + d.gas), I ((max 0 (x.dat - link))), I ((day + 1 : Nat) : Int)]) := B5
   have B6 := B6.keep qk (by omega)
   have B10 := B10.keep qk (by omega)
   have q := q.step qk (fun k hk e => by omega)
   refine go TS_ok 200 rfl ?_
   repeat ((first | refine ldA TS_ok rfl rfl rfl rfl rfl (Bk.all B5) ?_ | refine ldA TS_ok rfl rfl rfl rfl rfl (Bk.all B6) ?_ | refine ldA TS_ok rfl rfl rfl rfl rfl (Bk.all B10) ?_ | refine ld TS_ok rfl rfl rfl rfl (Bk.get B5 rfl) ?_ | refine ld TS_ok rfl rfl rfl rfl (Bk.get B6 rfl) ?_ | refine ld TS_ok rfl rfl rfl rfl (Bk.get B10 rfl) ?_ | refine gT rfl rfl rfl rfl ?_ | refine gF rfl rfl rfl rfl ?_ | refine condT rfl rfl ?_ | refine condF rfl rfl ?_); refine go TS_ok 200 rfl ?_)
   refine stA TS_ok rfl rfl rfl rfl (vs := [I (min m.a.room (x.ch + (sun - (m.a.idle)))), I (x.gas + d.gas), I ((max 0 (x.dat - link))), I ((day + 1 : Nat) : Int)]) rfl rfl rfl B10 rfl ?_
   intro w9 qk B10 hz10
   have B10 : Bk w9 g10 135 [I (min m.a.room (x.ch + (sun - (m.a.idle)))), I (x.gas + d.gas), I ((max 0 (x.dat - link))), I ((day + 1 : Nat) : Int)] := B10
   have q := q.step qk (fun k hk e => by omega)
   refine go TS_ok 200 rfl ?_
   refine ret (retR2 Try.results96 (resA TS_ok rfl rfl rfl B10.all) (s := .tmp 11) (x := .bool (false)) rfl ⟨?_, q⟩)
   have e1 : okN m.a d x false sun link = false := (by rw [okN_idle, decide_eq_true h1, decide_eq_true h2, decide_eq_false h3]; rfl)
   rw [e1]
   simp [stL, nextN, capN, rawN]
  rw [decide_eq_true h3]
  refine go TS_ok 200 rfl ?_
  repeat ((first | refine ldA TS_ok rfl rfl rfl rfl rfl (Bk.all B5) ?_ | refine ldA TS_ok rfl rfl rfl rfl rfl (Bk.all B6) ?_ | refine ldA TS_ok rfl rfl rfl rfl rfl (Bk.all B10) ?_ | refine ld TS_ok rfl rfl rfl rfl (Bk.get B5 rfl) ?_ | refine ld TS_ok rfl rfl rfl rfl (Bk.get B6 rfl) ?_ | refine ld TS_ok rfl rfl rfl rfl (Bk.get B10 rfl) ?_ | refine gT rfl rfl rfl rfl ?_ | refine gF rfl rfl rfl rfl ?_ | refine condT rfl rfl ?_ | refine condF rfl rfl ?_); refine go TS_ok 200 rfl ?_)
  refine st TS_ok rfl rfl rfl rfl (v := I (min m.a.room (x.ch + (sun - (m.a.idle))))) rfl rfl B5 rfl ?_
  intro w qk B5 hzz
  have B5 : Bk w g5 135 ([I (min m.a.room (x.ch + (sun - (m.a.idle)))), I (x.gas + d.gas), I ((max 0 (x.dat - link))), I (day : Int)]) := B5
  have B6 := B6.keep qk (by omega)
  have B10 := B10.keep qk (by omega)
  have q := q.step qk (fun k hk e => by omega)
  refine go TS_ok 200 rfl ?_
  repeat ((first | refine ldA TS_ok rfl rfl rfl rfl rfl (Bk.all B5) ?_ | refine ldA TS_ok rfl rfl rfl rfl rfl (Bk.all B6) ?_ | refine ldA TS_ok rfl rfl rfl rfl rfl (Bk.all B10) ?_ | refine ld TS_ok rfl rfl rfl rfl (Bk.get B5 rfl) ?_ | refine ld TS_ok rfl rfl rfl rfl (Bk.get B6 rfl) ?_ | refine ld TS_ok rfl rfl rfl rfl (Bk.get B10 rfl) ?_ | refine gT rfl rfl rfl rfl ?_ | refine gF rfl rfl rfl rfl ?_ | refine condT rfl rfl ?_ | refine condF rfl rfl ?_); refine go TS_ok 200 rfl ?_)
  rw [w64_id (x := (day : Int) + 1) (by omega) (by omega)]
  refine st TS_ok rfl rfl rfl rfl (v := I (((day + 1 : Nat) : Int))) rfl rfl B5 rfl ?_
  intro w qk B5 hzz
  have B5 : Bk w g5 135 ([I (min m.a.room (x.ch + (sun - (m.a.idle)))), I (x.gas + d.gas), I ((max 0 (x.dat - link))), I ((day + 1 : Nat) : Int)]) := B5
  have B6 := B6.keep qk (by omega)
  have B10 := B10.keep qk (by omega)
  have q := q.step qk (fun k hk e => by omega)
  refine go TS_ok 200 rfl ?_
  repeat ((first | refine ldA TS_ok rfl rfl rfl rfl rfl (Bk.all B5) ?_ | refine ldA TS_ok rfl rfl rfl rfl rfl (Bk.all B6) ?_ | refine ldA TS_ok rfl rfl rfl rfl rfl (Bk.all B10) ?_ | refine ld TS_ok rfl rfl rfl rfl (Bk.get B5 rfl) ?_ | refine ld TS_ok rfl rfl rfl rfl (Bk.get B6 rfl) ?_ | refine ld TS_ok rfl rfl rfl rfl (Bk.get B10 rfl) ?_ | refine gT rfl rfl rfl rfl ?_ | refine gF rfl rfl rfl rfl ?_ | refine condT rfl rfl ?_ | refine condF rfl rfl ?_); refine go TS_ok 200 rfl ?_)
  refine stA TS_ok rfl rfl rfl rfl (vs := [I (min m.a.room (x.ch + (sun - (m.a.idle)))), I (x.gas + d.gas), I ((max 0 (x.dat - link))), I ((day + 1 : Nat) : Int)]) rfl rfl rfl B10 rfl ?_
  intro w9 qk B10 hz10
  have B10 : Bk w9 g10 135 [I (min m.a.room (x.ch + (sun - (m.a.idle)))), I (x.gas + d.gas), I ((max 0 (x.dat - link))), I ((day + 1 : Nat) : Int)] := B10
  have q := q.step qk (fun k hk e => by omega)
  refine go TS_ok 200 rfl ?_
  refine ret (retR2 Try.results96 (resA TS_ok rfl rfl rfl B10.all) (s := .tmp 11) (x := .bool (true)) rfl ⟨?_, q⟩)
  have e1 : okN m.a d x false sun link = true := (by rw [okN_idle, decide_eq_true h1, decide_eq_true h2, decide_eq_true h3]; rfl)
  rw [e1]
  simp [stL, nextN, capN, rawN]
 | true =>
  refine go TS_ok 200 rfl ?_
  repeat ((first | refine ldA TS_ok rfl rfl rfl rfl rfl (Bk.all B5) ?_ | refine ldA TS_ok rfl rfl rfl rfl rfl (Bk.all B6) ?_ | refine ldA TS_ok rfl rfl rfl rfl rfl (Bk.all B10) ?_ | refine ld TS_ok rfl rfl rfl rfl (Bk.get B5 rfl) ?_ | refine ld TS_ok rfl rfl rfl rfl (Bk.get B6 rfl) ?_ | refine ld TS_ok rfl rfl rfl rfl (Bk.get B10 rfl) ?_ | refine gT rfl rfl rfl rfl ?_ | refine gF rfl rfl rfl rfl ?_ | refine condT rfl rfl ?_ | refine condF rfl rfl ?_); refine go TS_ok 200 rfl ?_)
  rw [w64_id (x := x.gas + d.gas - m.a.burn) (by omega) (by omega)]
  refine st TS_ok rfl rfl rfl rfl (v := I (x.gas + d.gas - m.a.burn)) rfl rfl B5 rfl ?_
  intro w qk B5 hzz
  have B5 : Bk w g5 135 ([I x.ch, I (x.gas + d.gas - m.a.burn), I x.dat, I (day : Int)]) := B5
  have B6 := B6.keep qk (by omega)
  have B10 := B10.keep qk (by omega)
  have q := q.step qk (fun k hk e => by omega)
  refine go TS_ok 200 rfl ?_
  repeat ((first | refine ldA TS_ok rfl rfl rfl rfl rfl (Bk.all B5) ?_ | refine ldA TS_ok rfl rfl rfl rfl rfl (Bk.all B6) ?_ | refine ldA TS_ok rfl rfl rfl rfl rfl (Bk.all B10) ?_ | refine ld TS_ok rfl rfl rfl rfl (Bk.get B5 rfl) ?_ | refine ld TS_ok rfl rfl rfl rfl (Bk.get B6 rfl) ?_ | refine ld TS_ok rfl rfl rfl rfl (Bk.get B10 rfl) ?_ | refine gT rfl rfl rfl rfl ?_ | refine gF rfl rfl rfl rfl ?_ | refine condT rfl rfl ?_ | refine condF rfl rfl ?_); refine go TS_ok 200 rfl ?_)
  rw [w64_id (x := x.dat + m.a.dat) (by omega) (by omega)]
  refine st TS_ok rfl rfl rfl rfl (v := I (x.dat + m.a.dat)) rfl rfl B5 rfl ?_
  intro w qk B5 hzz
  have B5 : Bk w g5 135 ([I x.ch, I (x.gas + d.gas - m.a.burn), I (x.dat + m.a.dat), I (day : Int)]) := B5
  have B6 := B6.keep qk (by omega)
  have B10 := B10.keep qk (by omega)
  have q := q.step qk (fun k hk e => by omega)
  refine go TS_ok 200 rfl ?_
  repeat ((first | refine ldA TS_ok rfl rfl rfl rfl rfl (Bk.all B5) ?_ | refine ldA TS_ok rfl rfl rfl rfl rfl (Bk.all B6) ?_ | refine ldA TS_ok rfl rfl rfl rfl rfl (Bk.all B10) ?_ | refine ld TS_ok rfl rfl rfl rfl (Bk.get B5 rfl) ?_ | refine ld TS_ok rfl rfl rfl rfl (Bk.get B6 rfl) ?_ | refine ld TS_ok rfl rfl rfl rfl (Bk.get B10 rfl) ?_ | refine gT rfl rfl rfl rfl ?_ | refine gF rfl rfl rfl rfl ?_ | refine condT rfl rfl ?_ | refine condF rfl rfl ?_); refine go TS_ok 200 rfl ?_)
  rw [w64_id (x := sun - (m.a.run)) (by omega) (by omega), w64_id (x := x.ch + (sun - (m.a.run))) (by omega) (by omega)]
  refine st TS_ok rfl rfl rfl rfl (v := I (x.ch + (sun - (m.a.run)))) rfl rfl B5 rfl ?_
  intro w qk B5 hzz
  have B5 : Bk w g5 135 ([I (x.ch + (sun - (m.a.run))), I (x.gas + d.gas - m.a.burn), I ((x.dat + m.a.dat)), I (day : Int)]) := B5
  have B6 := B6.keep qk (by omega)
  have B10 := B10.keep qk (by omega)
  have q := q.step qk (fun k hk e => by omega)
  refine go TS_ok 200 rfl ?_
  repeat ((first | refine ldA TS_ok rfl rfl rfl rfl rfl (Bk.all B5) ?_ | refine ldA TS_ok rfl rfl rfl rfl rfl (Bk.all B6) ?_ | refine ldA TS_ok rfl rfl rfl rfl rfl (Bk.all B10) ?_ | refine ld TS_ok rfl rfl rfl rfl (Bk.get B5 rfl) ?_ | refine ld TS_ok rfl rfl rfl rfl (Bk.get B6 rfl) ?_ | refine ld TS_ok rfl rfl rfl rfl (Bk.get B10 rfl) ?_ | refine gT rfl rfl rfl rfl ?_ | refine gF rfl rfl rfl rfl ?_ | refine condT rfl rfl ?_ | refine condF rfl rfl ?_); refine go TS_ok 200 rfl ?_)
  rw [w64_id (x := (x.dat + m.a.dat) - link) (by omega) (by omega)]
  refine st TS_ok rfl rfl rfl rfl (v := I (max 0 ((x.dat + m.a.dat) - link))) rfl rfl B5 rfl ?_
  intro w qk B5 hzz
  have B5 : Bk w g5 135 ([I (x.ch + (sun - (m.a.run))), I (x.gas + d.gas - m.a.burn), I (max 0 ((x.dat + m.a.dat) - link)), I (day : Int)]) := B5
  have B6 := B6.keep qk (by omega)
  have B10 := B10.keep qk (by omega)
  have q := q.step qk (fun k hk e => by omega)
  refine go TS_ok 200 rfl ?_
  repeat ((first | refine ldA TS_ok rfl rfl rfl rfl rfl (Bk.all B5) ?_ | refine ldA TS_ok rfl rfl rfl rfl rfl (Bk.all B6) ?_ | refine ldA TS_ok rfl rfl rfl rfl rfl (Bk.all B10) ?_ | refine ld TS_ok rfl rfl rfl rfl (Bk.get B5 rfl) ?_ | refine ld TS_ok rfl rfl rfl rfl (Bk.get B6 rfl) ?_ | refine ld TS_ok rfl rfl rfl rfl (Bk.get B10 rfl) ?_ | refine gT rfl rfl rfl rfl ?_ | refine gF rfl rfl rfl rfl ?_ | refine condT rfl rfl ?_ | refine condF rfl rfl ?_); refine go TS_ok 200 rfl ?_)
  by_cases h1 : 0 ≤ x.ch + (sun - (m.a.run))
  case neg =>
   rw [decide_eq_false h1]
   refine go TS_ok 200 rfl ?_
   repeat ((first | refine ldA TS_ok rfl rfl rfl rfl rfl (Bk.all B5) ?_ | refine ldA TS_ok rfl rfl rfl rfl rfl (Bk.all B6) ?_ | refine ldA TS_ok rfl rfl rfl rfl rfl (Bk.all B10) ?_ | refine ld TS_ok rfl rfl rfl rfl (Bk.get B5 rfl) ?_ | refine ld TS_ok rfl rfl rfl rfl (Bk.get B6 rfl) ?_ | refine ld TS_ok rfl rfl rfl rfl (Bk.get B10 rfl) ?_ | refine gT rfl rfl rfl rfl ?_ | refine gF rfl rfl rfl rfl ?_ | refine condT rfl rfl ?_ | refine condF rfl rfl ?_); refine go TS_ok 200 rfl ?_)
   refine st TS_ok rfl rfl rfl rfl (v := I (min m.a.room (x.ch + (sun - (m.a.run))))) rfl rfl B5 rfl ?_
   intro w qk B5 hzz
   have B5 : Bk w g5 135 ([I (min m.a.room (x.ch + (sun - (m.a.run)))), I (x.gas + d.gas - m.a.burn), I ((max 0 ((x.dat + m.a.dat) - link))), I (day : Int)]) := B5
   have B6 := B6.keep qk (by omega)
   have B10 := B10.keep qk (by omega)
   have q := q.step qk (fun k hk e => by omega)
   refine go TS_ok 200 rfl ?_
   repeat ((first | refine ldA TS_ok rfl rfl rfl rfl rfl (Bk.all B5) ?_ | refine ldA TS_ok rfl rfl rfl rfl rfl (Bk.all B6) ?_ | refine ldA TS_ok rfl rfl rfl rfl rfl (Bk.all B10) ?_ | refine ld TS_ok rfl rfl rfl rfl (Bk.get B5 rfl) ?_ | refine ld TS_ok rfl rfl rfl rfl (Bk.get B6 rfl) ?_ | refine ld TS_ok rfl rfl rfl rfl (Bk.get B10 rfl) ?_ | refine gT rfl rfl rfl rfl ?_ | refine gF rfl rfl rfl rfl ?_ | refine condT rfl rfl ?_ | refine condF rfl rfl ?_); refine go TS_ok 200 rfl ?_)
   rw [w64_id (x := (day : Int) + 1) (by omega) (by omega)]
   refine st TS_ok rfl rfl rfl rfl (v := I (((day + 1 : Nat) : Int))) rfl rfl B5 rfl ?_
   intro w qk B5 hzz
   have B5 : Bk w g5 135 ([I (min m.a.room (x.ch + (sun - (m.a.run)))), I (x.gas + d.gas - m.a.burn), I ((max 0 ((x.dat + m.a.dat) - link))), I ((day + 1 : Nat) : Int)]) := B5
   have B6 := B6.keep qk (by omega)
   have B10 := B10.keep qk (by omega)
   have q := q.step qk (fun k hk e => by omega)
   refine go TS_ok 200 rfl ?_
   repeat ((first | refine ldA TS_ok rfl rfl rfl rfl rfl (Bk.all B5) ?_ | refine ldA TS_ok rfl rfl rfl rfl rfl (Bk.all B6) ?_ | refine ldA TS_ok rfl rfl rfl rfl rfl (Bk.all B10) ?_ | refine ld TS_ok rfl rfl rfl rfl (Bk.get B5 rfl) ?_ | refine ld TS_ok rfl rfl rfl rfl (Bk.get B6 rfl) ?_ | refine ld TS_ok rfl rfl rfl rfl (Bk.get B10 rfl) ?_ | refine gT rfl rfl rfl rfl ?_ | refine gF rfl rfl rfl rfl ?_ | refine condT rfl rfl ?_ | refine condF rfl rfl ?_); refine go TS_ok 200 rfl ?_)
   refine stA TS_ok rfl rfl rfl rfl (vs := [I (min m.a.room (x.ch + (sun - (m.a.run)))), I (x.gas + d.gas - m.a.burn), I ((max 0 ((x.dat + m.a.dat) - link))), I ((day + 1 : Nat) : Int)]) rfl rfl rfl B10 rfl ?_
   intro w9 qk B10 hz10
   have B10 : Bk w9 g10 135 [I (min m.a.room (x.ch + (sun - (m.a.run)))), I (x.gas + d.gas - m.a.burn), I ((max 0 ((x.dat + m.a.dat) - link))), I ((day + 1 : Nat) : Int)] := B10
   have q := q.step qk (fun k hk e => by omega)
   refine go TS_ok 200 rfl ?_
   refine ret (retR2 Try.results96 (resA TS_ok rfl rfl rfl B10.all) (s := .tmp 11) (x := .bool (false)) rfl ⟨?_, q⟩)
   have e1 : okN m.a d x true sun link = false := (by rw [okN_run, decide_eq_false h1]; rfl)
   rw [e1]
   simp [stL, nextN, capN, rawN]
  rw [decide_eq_true h1]
  refine go TS_ok 200 rfl ?_
  repeat ((first | refine ldA TS_ok rfl rfl rfl rfl rfl (Bk.all B5) ?_ | refine ldA TS_ok rfl rfl rfl rfl rfl (Bk.all B6) ?_ | refine ldA TS_ok rfl rfl rfl rfl rfl (Bk.all B10) ?_ | refine ld TS_ok rfl rfl rfl rfl (Bk.get B5 rfl) ?_ | refine ld TS_ok rfl rfl rfl rfl (Bk.get B6 rfl) ?_ | refine ld TS_ok rfl rfl rfl rfl (Bk.get B10 rfl) ?_ | refine gT rfl rfl rfl rfl ?_ | refine gF rfl rfl rfl rfl ?_ | refine condT rfl rfl ?_ | refine condF rfl rfl ?_); refine go TS_ok 200 rfl ?_)
  by_cases h2 : 0 ≤ x.gas + d.gas - m.a.burn
  case neg =>
   rw [decide_eq_false h2]
   refine go TS_ok 200 rfl ?_
   repeat ((first | refine ldA TS_ok rfl rfl rfl rfl rfl (Bk.all B5) ?_ | refine ldA TS_ok rfl rfl rfl rfl rfl (Bk.all B6) ?_ | refine ldA TS_ok rfl rfl rfl rfl rfl (Bk.all B10) ?_ | refine ld TS_ok rfl rfl rfl rfl (Bk.get B5 rfl) ?_ | refine ld TS_ok rfl rfl rfl rfl (Bk.get B6 rfl) ?_ | refine ld TS_ok rfl rfl rfl rfl (Bk.get B10 rfl) ?_ | refine gT rfl rfl rfl rfl ?_ | refine gF rfl rfl rfl rfl ?_ | refine condT rfl rfl ?_ | refine condF rfl rfl ?_); refine go TS_ok 200 rfl ?_)
   refine st TS_ok rfl rfl rfl rfl (v := I (min m.a.room (x.ch + (sun - (m.a.run))))) rfl rfl B5 rfl ?_
   intro w qk B5 hzz
   have B5 : Bk w g5 135 ([I (min m.a.room (x.ch + (sun - (m.a.run)))), I (x.gas + d.gas - m.a.burn), I ((max 0 ((x.dat + m.a.dat) - link))), I (day : Int)]) := B5
   have B6 := B6.keep qk (by omega)
   have B10 := B10.keep qk (by omega)
   have q := q.step qk (fun k hk e => by omega)
   refine go TS_ok 200 rfl ?_
   repeat ((first | refine ldA TS_ok rfl rfl rfl rfl rfl (Bk.all B5) ?_ | refine ldA TS_ok rfl rfl rfl rfl rfl (Bk.all B6) ?_ | refine ldA TS_ok rfl rfl rfl rfl rfl (Bk.all B10) ?_ | refine ld TS_ok rfl rfl rfl rfl (Bk.get B5 rfl) ?_ | refine ld TS_ok rfl rfl rfl rfl (Bk.get B6 rfl) ?_ | refine ld TS_ok rfl rfl rfl rfl (Bk.get B10 rfl) ?_ | refine gT rfl rfl rfl rfl ?_ | refine gF rfl rfl rfl rfl ?_ | refine condT rfl rfl ?_ | refine condF rfl rfl ?_); refine go TS_ok 200 rfl ?_)
   rw [w64_id (x := (day : Int) + 1) (by omega) (by omega)]
   refine st TS_ok rfl rfl rfl rfl (v := I (((day + 1 : Nat) : Int))) rfl rfl B5 rfl ?_
   intro w qk B5 hzz
   have B5 : Bk w g5 135 ([I (min m.a.room (x.ch + (sun - (m.a.run)))), I (x.gas + d.gas - m.a.burn), I ((max 0 ((x.dat + m.a.dat) - link))), I ((day + 1 : Nat) : Int)]) := B5
   have B6 := B6.keep qk (by omega)
   have B10 := B10.keep qk (by omega)
   have q := q.step qk (fun k hk e => by omega)
   refine go TS_ok 200 rfl ?_
   repeat ((first | refine ldA TS_ok rfl rfl rfl rfl rfl (Bk.all B5) ?_ | refine ldA TS_ok rfl rfl rfl rfl rfl (Bk.all B6) ?_ | refine ldA TS_ok rfl rfl rfl rfl rfl (Bk.all B10) ?_ | refine ld TS_ok rfl rfl rfl rfl (Bk.get B5 rfl) ?_ | refine ld TS_ok rfl rfl rfl rfl (Bk.get B6 rfl) ?_ | refine ld TS_ok rfl rfl rfl rfl (Bk.get B10 rfl) ?_ | refine gT rfl rfl rfl rfl ?_ | refine gF rfl rfl rfl rfl ?_ | refine condT rfl rfl ?_ | refine condF rfl rfl ?_); refine go TS_ok 200 rfl ?_)
   refine stA TS_ok rfl rfl rfl rfl (vs := [I (min m.a.room (x.ch + (sun - (m.a.run)))), I (x.gas + d.gas - m.a.burn), I ((max 0 ((x.dat + m.a.dat) - link))), I ((day + 1 : Nat) : Int)]) rfl rfl rfl B10 rfl ?_
   intro w9 qk B10 hz10
   have B10 : Bk w9 g10 135 [I (min m.a.room (x.ch + (sun - (m.a.run)))), I (x.gas + d.gas - m.a.burn), I ((max 0 ((x.dat + m.a.dat) - link))), I ((day + 1 : Nat) : Int)] := B10
   have q := q.step qk (fun k hk e => by omega)
   refine go TS_ok 200 rfl ?_
   refine ret (retR2 Try.results96 (resA TS_ok rfl rfl rfl B10.all) (s := .tmp 11) (x := .bool (false)) rfl ⟨?_, q⟩)
   have e1 : okN m.a d x true sun link = false := (by rw [okN_run, decide_eq_true h1, decide_eq_false h2]; rfl)
   rw [e1]
   simp [stL, nextN, capN, rawN]
  rw [decide_eq_true h2]
  refine go TS_ok 200 rfl ?_
  repeat ((first | refine ldA TS_ok rfl rfl rfl rfl rfl (Bk.all B5) ?_ | refine ldA TS_ok rfl rfl rfl rfl rfl (Bk.all B6) ?_ | refine ldA TS_ok rfl rfl rfl rfl rfl (Bk.all B10) ?_ | refine ld TS_ok rfl rfl rfl rfl (Bk.get B5 rfl) ?_ | refine ld TS_ok rfl rfl rfl rfl (Bk.get B6 rfl) ?_ | refine ld TS_ok rfl rfl rfl rfl (Bk.get B10 rfl) ?_ | refine gT rfl rfl rfl rfl ?_ | refine gF rfl rfl rfl rfl ?_ | refine condT rfl rfl ?_ | refine condF rfl rfl ?_); refine go TS_ok 200 rfl ?_)
  by_cases h3 : max 0 ((x.dat + m.a.dat) - link) ≤ m.a.store
  case neg =>
   rw [decide_eq_false h3]
   refine go TS_ok 200 rfl ?_
   repeat ((first | refine ldA TS_ok rfl rfl rfl rfl rfl (Bk.all B5) ?_ | refine ldA TS_ok rfl rfl rfl rfl rfl (Bk.all B6) ?_ | refine ldA TS_ok rfl rfl rfl rfl rfl (Bk.all B10) ?_ | refine ld TS_ok rfl rfl rfl rfl (Bk.get B5 rfl) ?_ | refine ld TS_ok rfl rfl rfl rfl (Bk.get B6 rfl) ?_ | refine ld TS_ok rfl rfl rfl rfl (Bk.get B10 rfl) ?_ | refine gT rfl rfl rfl rfl ?_ | refine gF rfl rfl rfl rfl ?_ | refine condT rfl rfl ?_ | refine condF rfl rfl ?_); refine go TS_ok 200 rfl ?_)
   refine st TS_ok rfl rfl rfl rfl (v := I (min m.a.room (x.ch + (sun - (m.a.run))))) rfl rfl B5 rfl ?_
   intro w qk B5 hzz
   have B5 : Bk w g5 135 ([I (min m.a.room (x.ch + (sun - (m.a.run)))), I (x.gas + d.gas - m.a.burn), I ((max 0 ((x.dat + m.a.dat) - link))), I (day : Int)]) := B5
   have B6 := B6.keep qk (by omega)
   have B10 := B10.keep qk (by omega)
   have q := q.step qk (fun k hk e => by omega)
   refine go TS_ok 200 rfl ?_
   repeat ((first | refine ldA TS_ok rfl rfl rfl rfl rfl (Bk.all B5) ?_ | refine ldA TS_ok rfl rfl rfl rfl rfl (Bk.all B6) ?_ | refine ldA TS_ok rfl rfl rfl rfl rfl (Bk.all B10) ?_ | refine ld TS_ok rfl rfl rfl rfl (Bk.get B5 rfl) ?_ | refine ld TS_ok rfl rfl rfl rfl (Bk.get B6 rfl) ?_ | refine ld TS_ok rfl rfl rfl rfl (Bk.get B10 rfl) ?_ | refine gT rfl rfl rfl rfl ?_ | refine gF rfl rfl rfl rfl ?_ | refine condT rfl rfl ?_ | refine condF rfl rfl ?_); refine go TS_ok 200 rfl ?_)
   rw [w64_id (x := (day : Int) + 1) (by omega) (by omega)]
   refine st TS_ok rfl rfl rfl rfl (v := I (((day + 1 : Nat) : Int))) rfl rfl B5 rfl ?_
   intro w qk B5 hzz
   have B5 : Bk w g5 135 ([I (min m.a.room (x.ch + (sun - (m.a.run)))), I (x.gas + d.gas - m.a.burn), I ((max 0 ((x.dat + m.a.dat) - link))), I ((day + 1 : Nat) : Int)]) := B5
   have B6 := B6.keep qk (by omega)
   have B10 := B10.keep qk (by omega)
   have q := q.step qk (fun k hk e => by omega)
   refine go TS_ok 200 rfl ?_
   repeat ((first | refine ldA TS_ok rfl rfl rfl rfl rfl (Bk.all B5) ?_ | refine ldA TS_ok rfl rfl rfl rfl rfl (Bk.all B6) ?_ | refine ldA TS_ok rfl rfl rfl rfl rfl (Bk.all B10) ?_ | refine ld TS_ok rfl rfl rfl rfl (Bk.get B5 rfl) ?_ | refine ld TS_ok rfl rfl rfl rfl (Bk.get B6 rfl) ?_ | refine ld TS_ok rfl rfl rfl rfl (Bk.get B10 rfl) ?_ | refine gT rfl rfl rfl rfl ?_ | refine gF rfl rfl rfl rfl ?_ | refine condT rfl rfl ?_ | refine condF rfl rfl ?_); refine go TS_ok 200 rfl ?_)
   refine stA TS_ok rfl rfl rfl rfl (vs := [I (min m.a.room (x.ch + (sun - (m.a.run)))), I (x.gas + d.gas - m.a.burn), I ((max 0 ((x.dat + m.a.dat) - link))), I ((day + 1 : Nat) : Int)]) rfl rfl rfl B10 rfl ?_
   intro w9 qk B10 hz10
   have B10 : Bk w9 g10 135 [I (min m.a.room (x.ch + (sun - (m.a.run)))), I (x.gas + d.gas - m.a.burn), I ((max 0 ((x.dat + m.a.dat) - link))), I ((day + 1 : Nat) : Int)] := B10
   have q := q.step qk (fun k hk e => by omega)
   refine go TS_ok 200 rfl ?_
   refine ret (retR2 Try.results96 (resA TS_ok rfl rfl rfl B10.all) (s := .tmp 11) (x := .bool (false)) rfl ⟨?_, q⟩)
   have e1 : okN m.a d x true sun link = false := (by rw [okN_run, decide_eq_true h1, decide_eq_true h2, decide_eq_false h3]; rfl)
   rw [e1]
   simp [stL, nextN, capN, rawN]
  rw [decide_eq_true h3]
  refine go TS_ok 200 rfl ?_
  repeat ((first | refine ldA TS_ok rfl rfl rfl rfl rfl (Bk.all B5) ?_ | refine ldA TS_ok rfl rfl rfl rfl rfl (Bk.all B6) ?_ | refine ldA TS_ok rfl rfl rfl rfl rfl (Bk.all B10) ?_ | refine ld TS_ok rfl rfl rfl rfl (Bk.get B5 rfl) ?_ | refine ld TS_ok rfl rfl rfl rfl (Bk.get B6 rfl) ?_ | refine ld TS_ok rfl rfl rfl rfl (Bk.get B10 rfl) ?_ | refine gT rfl rfl rfl rfl ?_ | refine gF rfl rfl rfl rfl ?_ | refine condT rfl rfl ?_ | refine condF rfl rfl ?_); refine go TS_ok 200 rfl ?_)
  refine st TS_ok rfl rfl rfl rfl (v := I (min m.a.room (x.ch + (sun - (m.a.run))))) rfl rfl B5 rfl ?_
  intro w qk B5 hzz
  have B5 : Bk w g5 135 ([I (min m.a.room (x.ch + (sun - (m.a.run)))), I (x.gas + d.gas - m.a.burn), I ((max 0 ((x.dat + m.a.dat) - link))), I (day : Int)]) := B5
  have B6 := B6.keep qk (by omega)
  have B10 := B10.keep qk (by omega)
  have q := q.step qk (fun k hk e => by omega)
  refine go TS_ok 200 rfl ?_
  repeat ((first | refine ldA TS_ok rfl rfl rfl rfl rfl (Bk.all B5) ?_ | refine ldA TS_ok rfl rfl rfl rfl rfl (Bk.all B6) ?_ | refine ldA TS_ok rfl rfl rfl rfl rfl (Bk.all B10) ?_ | refine ld TS_ok rfl rfl rfl rfl (Bk.get B5 rfl) ?_ | refine ld TS_ok rfl rfl rfl rfl (Bk.get B6 rfl) ?_ | refine ld TS_ok rfl rfl rfl rfl (Bk.get B10 rfl) ?_ | refine gT rfl rfl rfl rfl ?_ | refine gF rfl rfl rfl rfl ?_ | refine condT rfl rfl ?_ | refine condF rfl rfl ?_); refine go TS_ok 200 rfl ?_)
  rw [w64_id (x := (day : Int) + 1) (by omega) (by omega)]
  refine st TS_ok rfl rfl rfl rfl (v := I (((day + 1 : Nat) : Int))) rfl rfl B5 rfl ?_
  intro w qk B5 hzz
  have B5 : Bk w g5 135 ([I (min m.a.room (x.ch + (sun - (m.a.run)))), I (x.gas + d.gas - m.a.burn), I ((max 0 ((x.dat + m.a.dat) - link))), I ((day + 1 : Nat) : Int)]) := B5
  have B6 := B6.keep qk (by omega)
  have B10 := B10.keep qk (by omega)
  have q := q.step qk (fun k hk e => by omega)
  refine go TS_ok 200 rfl ?_
  repeat ((first | refine ldA TS_ok rfl rfl rfl rfl rfl (Bk.all B5) ?_ | refine ldA TS_ok rfl rfl rfl rfl rfl (Bk.all B6) ?_ | refine ldA TS_ok rfl rfl rfl rfl rfl (Bk.all B10) ?_ | refine ld TS_ok rfl rfl rfl rfl (Bk.get B5 rfl) ?_ | refine ld TS_ok rfl rfl rfl rfl (Bk.get B6 rfl) ?_ | refine ld TS_ok rfl rfl rfl rfl (Bk.get B10 rfl) ?_ | refine gT rfl rfl rfl rfl ?_ | refine gF rfl rfl rfl rfl ?_ | refine condT rfl rfl ?_ | refine condF rfl rfl ?_); refine go TS_ok 200 rfl ?_)
  refine stA TS_ok rfl rfl rfl rfl (vs := [I (min m.a.room (x.ch + (sun - (m.a.run)))), I (x.gas + d.gas - m.a.burn), I ((max 0 ((x.dat + m.a.dat) - link))), I ((day + 1 : Nat) : Int)]) rfl rfl rfl B10 rfl ?_
  intro w9 qk B10 hz10
  have B10 : Bk w9 g10 135 [I (min m.a.room (x.ch + (sun - (m.a.run)))), I (x.gas + d.gas - m.a.burn), I ((max 0 ((x.dat + m.a.dat) - link))), I ((day + 1 : Nat) : Int)] := B10
  have q := q.step qk (fun k hk e => by omega)
  refine go TS_ok 200 rfl ?_
  refine ret (retR2 Try.results96 (resA TS_ok rfl rfl rfl B10.all) (s := .tmp 11) (x := .bool (true)) rfl ⟨?_, q⟩)
  have e1 : okN m.a d x true sun link = true := (by rw [okN_run, decide_eq_true h1, decide_eq_true h2, decide_eq_true h3]; rfl)
  rw [e1]
  simp [stL, nextN, capN, rawN]
end Go.Proofs.Yteenhfnamjbaiaa
namespace Go.Proofs.Yteenhfnamjbaiaa
open Go.Ev Go.Proofs Go.Camp
attribute [local irreducible] At AtH
set_option maxRecDepth 20000 in
set_option maxHeartbeats 4000000 in
theorem worst_any (m : Sm) (x : Stk) (day : Nat) (d : Dy) (run : Bool) (w0 : World) (H : SuM w0 m) (ha : SupOk m.a) (hd : m.a.days[day]? = some d) (hx : StB x) :
  Ret Try.prog 79 [.agg (stL x day).toArray, .agg (suL m).toArray, .bool run] w0 fun v w' => v = .tuple #[.agg (stL (nextN m.a d x run d.slo d.llo) (day + 1)).toArray, .bool (okN m.a d x run d.slo d.llo)] ∧ Chg No w0 w' := by
 have hday := (List.getElem?_eq_some_iff.1 hd).1
 have hdo := ha.days d (List.mem_of_getElem? hd)
 have d1 := hdo.s0; have d2 := hdo.s1; have d3 := hdo.s2; have d4 := hdo.l0; have d5 := hdo.l1; have d6 := hdo.l2
 refine enter Try.func79 rfl Try.ntmps79 rfl ?_
 refine go TS_ok 200 rfl ?_
 refine bx rfl rfl rfl (cs := stL x day) rfl ?_
 intro g3 u3 hg3 hs3 q3 B3
 have q := q3
 refine go TS_ok 200 rfl ?_
 refine bx rfl rfl rfl (cs := suL m) rfl ?_
 intro g4 w1 hg4 hs4 qk B4
 have B3 := B3.no qk
 have q := q.trans qk
 refine go TS_ok 200 rfl ?_
 refine nw rfl rfl (z := .agg #[I 0, I 0, I 0, I 0]) (by kernel_rfl) (cs := [I 0, I 0, I 0, I 0]) rfl ?_
 intro g6 w2 hg6 hs6 qk B6
 have B3 := B3.no qk
 have B4 := B4.no qk
 have q := q.trans qk
 obtain ⟨b1, o1, hA1, hb1, hc1⟩ := Sl.el (H.no q).sl dyL_len hd
 refine go TS_ok 200 rfl ?_
 repeat ((first | refine ldA TS_ok rfl rfl rfl rfl rfl (Bk.all B3) ?_ | refine ldA TS_ok rfl rfl rfl rfl rfl (Bk.all B4) ?_ | refine ldA TS_ok rfl rfl rfl rfl rfl (Bk.all B6) ?_ | refine ld TS_ok rfl rfl rfl rfl (Bk.get B3 rfl) ?_ | refine ld TS_ok rfl rfl rfl rfl (Bk.get B4 rfl) ?_ | refine ld TS_ok rfl rfl rfl rfl (Bk.get B6 rfl) ?_ | refine gT rfl rfl rfl rfl ?_ | refine gF rfl rfl rfl rfl ?_ | refine condT rfl rfl ?_ | refine condF rfl rfl ?_); refine go TS_ok 200 rfl ?_)
 rw [hA1]
 refine idx TS_ok rfl rfl rfl rfl rfl day rfl hday ?_
 refine go TS_ok 200 rfl ?_
 refine ldA TS_ok rfl rfl rfl rfl rfl hc1 ?_
 rw [← hA1]
 refine go TS_ok 200 rfl ?_
 have yB3 := B3.lt
 have yB4 := B4.lt
 have yB6 := B6.lt
 have yq := q.size
 refine nw rfl rfl (z := .agg #[I 0, I 0, I 0, I 0, I 0]) (by kernel_rfl) (cs := [I 0, I 0, I 0, I 0, I 0]) rfl ?_
 intro g8 w hg8 hs8 qk B8
 have B3 := B3.no qk
 have B4 := B4.no qk
 have B6 := B6.no qk
 have q := q.trans qk
 refine go TS_ok 200 rfl ?_
 refine stA TS_ok rfl rfl rfl rfl (vs := dyL d) rfl rfl rfl B8 rfl ?_
 intro w qk B8 hz8
 have B8 : Bk w g8 95 (dyL d) := B8
 have B3 := Bk.keep B3 qk (by omega)
 have B4 := Bk.keep B4 qk (by omega)
 have B6 := Bk.keep B6 qk (by omega)
 have q := q.step qk (fun k hk e => by omega)
 refine go TS_ok 200 rfl ?_
 repeat ((first | refine ldA TS_ok rfl rfl rfl rfl rfl (Bk.all B3) ?_ | refine ldA TS_ok rfl rfl rfl rfl rfl (Bk.all B4) ?_ | refine ldA TS_ok rfl rfl rfl rfl rfl (Bk.all B6) ?_ | refine ldA TS_ok rfl rfl rfl rfl rfl (Bk.all B8) ?_ | refine ld TS_ok rfl rfl rfl rfl (Bk.get B3 rfl) ?_ | refine ld TS_ok rfl rfl rfl rfl (Bk.get B4 rfl) ?_ | refine ld TS_ok rfl rfl rfl rfl (Bk.get B6 rfl) ?_ | refine ld TS_ok rfl rfl rfl rfl (Bk.get B8 rfl) ?_ | refine gT rfl rfl rfl rfl ?_ | refine gF rfl rfl rfl rfl ?_ | refine condT rfl rfl ?_ | refine condF rfl rfl ?_); refine go TS_ok 200 rfl ?_)
 have X := next_any m x day d run d.slo d.llo
 refine call rfl rfl rfl (ok _ (by decide) rfl) (X _ (H.no q) ha hd hx d1 (by omega) d4 (by omega)) ?_
 rintro x w ⟨rfl, qk⟩
 have B3 := B3.no qk
 have B4 := B4.no qk
 have B6 := B6.no qk
 have B8 := B8.no qk
 have q := q.trans qk
 refine go TS_ok 200 rfl ?_
 refine stA TS_ok rfl rfl rfl rfl (vs := stL (nextN m.a d x run d.slo d.llo) (day + 1)) rfl rfl rfl B6 rfl ?_
 intro w9 qk B6 hz6
 have B6 : Bk w9 g6 135 (stL (nextN m.a d x run d.slo d.llo) (day + 1)) := B6
 have lq := q.size
 refine go TS_ok 200 rfl ?_
 exact ret (retR2 Try.results79 (resA TS_ok rfl rfl rfl B6.all) (s := .tmp 7) (x := .bool _) rfl ⟨rfl, q.step qk (fun k hk e => by omega)⟩)
/-! ### What the search has found -/
theorem K135 : Go.Maps.Keyed Try.prog 135 := Go.Maps.Keyed.of_law (deep_law_laid (by kernel_rfl) (m := 3) (by omega) (of_decide_eq_true (by kernel_rfl)) (by kernel_rfl) (by rw [Try.underlying135]))
def ekT (k : Stk × Nat) : Value := .agg (stL k.1 k.2).toArray
theorem ekT_inj (a : Stk × Nat) : ∀ a', ekT a' = ekT a → a' = a := by
 intro a' h
 obtain ⟨⟨x, y, z⟩, d⟩ := a
 obtain ⟨⟨x', y', z'⟩, d'⟩ := a'
 simp [ekT, stL] at h
 obtain ⟨rfl, rfl, rfl, h⟩ := h
 obtain rfl : d' = d := by omega
 rfl
/-- a stock as it can be on a day -/
structure StD (day : Nat) (x : Stk) : Prop where
 c0 : 0 ≤ x.ch
 c1 : x.ch ≤ 50
 g0 : 0 ≤ x.gas
 g1 : x.gas ≤ 1000 * ((day : Int) + 1)
 d0 : 0 ≤ x.dat
 d1 : x.dat ≤ 50
theorem StD.b {day : Nat} {x : Stk} (h : StD day x) (hd : day ≤ 30) : StB x := ⟨h.c0, h.c1, h.g0, by have := h.g1; omega, h.d0, h.d1⟩
theorem StD.next {a : Sup} (ha : SupOk a) {day : Nat} {x : Stk} (h : StD day x) {d : Dy} (hd : DyOk d) {run : Bool} {sun link : Int} (_ : 0 ≤ sun) (_ : 0 ≤ link) (hf : okN a d x run sun link = true) : StD (day + 1) (nextN a d x run sun link) := by
 have h1 := h.c0; have h2 := h.c1; have h3 := h.g0; have h4 := h.g1; have h5 := h.d0; have h6 := h.d1
 have a1 := ha.r0; have a2 := ha.r1; have a4 := ha.t1; have a8 := ha.b0; have d2 := hd.g1
 unfold okN fineN rawN at hf
 simp only [Bool.and_eq_true, decide_eq_true_eq] at hf
 obtain ⟨f1, f2, f3⟩ := hf
 refine ⟨?_, ?_, ?_, ?_, ?_, ?_⟩ <;> simp only [nextN, capN, rawN] <;> cases run <;> simp only [if_true, if_false, Bool.false_eq_true] at * <;> omega
theorem kT (k : Stk × Nat) (h : StD k.2 k.1) (hd : k.2 ≤ 30) : ∃ l, keyOf Try.prog 135 (ekT k) = some l := by
 have h1 := h.c0; have h2 := h.c1; have h3 := h.g0; have h4 := h.g1; have h5 := h.d0; have h6 := h.d1
 exact keyStr2_some (bss := [[false, false, false], [false]]) (vs := stL k.1 k.2) (by kernel_rfl) ⟨wf_i64 (by omega) (by omega), wf_i64 (by omega) (by omega), wf_i64 (by omega) (by omega), wf_i64 (by omega) (by omega), trivial⟩ (by have h : 192 < Try.prog.types.size := row192; omega)
/-- on how many days the detector can run from some day on -/
def mostD (a : Sup) (day : Nat) (x : Stk) : Int := most a (a.days.drop day) x
section
variable (m : Sm) (gs gk gm mb : Nat)
def capsS : List Value := [.pointer (some ⟨gs, 0, none⟩), .pointer (some ⟨gk, 0, none⟩), .pointer (some ⟨gm, 0, none⟩)]
/-- the search in memory: what is known is right -/
structure SC (w : World) : Prop where
 bs : Bk w gs 44 (suL m)
 bk : Bk w gk 132 [.map (some mb)]
 bm : Bk w gm 133 [.func (.func 78) #[] (capsS gs gk gm).toArray]
 mp : ∃ n f, Mt Try.prog 135 w mb n ekT I f ∧ ∀ k v, f k = some v → v = mostD m.a k.2 k.1
 su : SuM w m
 n1 : gs ≠ mb
 n2 : gk ≠ mb
 n3 : gm ≠ mb
end
section
variable {m : Sm} {gs gk gm mb : Nat} {w w' : World}
theorem SC.no (h : SC m gs gk gm mb w) (c : Chg No w w') : SC m gs gk gm mb w' := by
 obtain ⟨n, f, h1, h2⟩ := h.mp
 exact ⟨h.bs.no c, h.bk.no c, h.bm.no c, ⟨n, f, h1.no c, h2⟩, h.su.no c, h.n1, h.n2, h.n3⟩
theorem SC.lm (h : SC m gs gk gm mb w) : mb < w.heap.size := by
 obtain ⟨n, f, h1, h2⟩ := h.mp
 exact h1.lt
theorem SC.map (h : SC m gs gk gm mb w) (c : Chg (fun k => k = mb) w w') (hm : ∃ n f, Mt Try.prog 135 w' mb n ekT I f ∧ ∀ k v, f k = some v → v = mostD m.a k.2 k.1) : SC m gs gk gm mb w' := by
 obtain ⟨n, f, h1, h2⟩ := h.mp
 exact ⟨h.bs.keep c h.n1, h.bk.keep c h.n2, h.bm.keep c h.n3, hm, ⟨sl_map h.su.sl (by decide) h1 c, h.su.len⟩, h.n1, h.n2, h.n3⟩
end
theorem drop_day {l : List Dy} {i : Nat} {d : Dy} (h : l[i]? = some d) : l.drop i = d :: l.drop (i + 1) := by
 obtain ⟨hi, rfl⟩ := List.getElem?_eq_some_iff.1 h
 exact List.drop_eq_getElem_cons hi
set_option maxRecDepth 20000 in
set_option maxHeartbeats 8000000 in
theorem most_ok (m : Sm) (ha : SupOk m.a) (gs gk gm mb : Nat) : ∀ (r day : Nat) (x : Stk) (w0 : World), day + r = m.a.days.length → StD day x → SC m gs gk gm mb w0 →
  Ret Try.prog 78 (.agg (stL x day).toArray :: capsS gs gk gm) w0 fun v w' => v = I (mostD m.a day x) ∧ Chg (fun k => k = mb) w0 w' ∧ SC m gs gk gm mb w' := by
 have hl30 := ha.len
 intro r
 induction r with
 | zero =>
  intro day x w0 hr hx H
  have e0 : mostD m.a day x = 0 := by unfold mostD; rw [List.drop_eq_nil_of_le (by omega)]; rfl
  rw [e0]
  refine enter Try.func78 rfl Try.ntmps78 rfl ?_
  refine go TS_ok 200 rfl ?_
  refine bx rfl rfl rfl (cs := stL x day) rfl ?_
  intro g4 u4 hg4 hs4 q4 B4
  have q := q4
  have H := H.no q4
  have Bs := H.bs
  refine go TS_ok 200 rfl ?_
  repeat ((first | refine ldA TS_ok rfl rfl rfl rfl rfl (Bk.all B4) ?_ | refine ldA TS_ok rfl rfl rfl rfl rfl (Bk.all Bs) ?_ | refine ld TS_ok rfl rfl rfl rfl (Bk.get B4 rfl) ?_ | refine ld TS_ok rfl rfl rfl rfl (Bk.get Bs rfl) ?_ | refine gT rfl rfl rfl rfl ?_ | refine gF rfl rfl rfl rfl ?_ | refine condT rfl rfl ?_ | refine condF rfl rfl ?_); refine go TS_ok 200 rfl ?_)
  refine condT rfl (by simp; omega) ?_
  refine go TS_ok 200 rfl ?_
  exact ret (ret1 (v := I 0) Try.results78 rfl ⟨rfl, q.mono fun _ _ h => h.elim, H⟩)
 | succ r ih =>
  intro day x w0 hr hx H
  have hlm := H.lm
  obtain ⟨d, hd⟩ := getA_of (l := m.a.days) (i := day) (by omega)
  have hdo := ha.days d (List.mem_of_getElem? hd)
  have hsb := hx.b (by omega)
  have hkey := kT (x, day) hx (by show day ≤ 30; omega)
  have emost : mostD m.a day x = (let k1 := mostD m.a (day + 1) (nextN m.a d x true d.slo d.llo)
    let k2 := mostD m.a (day + 1) (nextN m.a d x false d.slo d.llo)
    let n1 := if okN m.a d x true d.slo d.llo then max (-1) (if 0 ≤ k1 then k1 + 1 else k1) else -1
    if okN m.a d x false d.slo d.llo then max n1 k2 else n1) := by unfold mostD; rw [drop_day hd]; rfl
  simp only at emost
  refine enter Try.func78 rfl Try.ntmps78 rfl ?_
  refine go TS_ok 200 rfl ?_
  refine bx rfl rfl rfl (cs := stL x day) rfl ?_
  intro g4 u4 hg4 hs4 q4 B4
  have q := q4
  have H := H.no q4
  have Bs := H.bs
  refine go TS_ok 200 rfl ?_
  repeat ((first | refine ldA TS_ok rfl rfl rfl rfl rfl (Bk.all B4) ?_ | refine ldA TS_ok rfl rfl rfl rfl rfl (Bk.all Bs) ?_ | refine ld TS_ok rfl rfl rfl rfl (Bk.get B4 rfl) ?_ | refine ld TS_ok rfl rfl rfl rfl (Bk.get Bs rfl) ?_ | refine gT rfl rfl rfl rfl ?_ | refine gF rfl rfl rfl rfl ?_ | refine condT rfl rfl ?_ | refine condF rfl rfl ?_); refine go TS_ok 200 rfl ?_)
  refine condF rfl (by simp; omega) ?_
  have Bk2 := H.bk
  refine go TS_ok 200 rfl ?_
  repeat ((first | refine ldA TS_ok rfl rfl rfl rfl rfl (Bk.all B4) ?_ | refine ldA TS_ok rfl rfl rfl rfl rfl (Bk.all Bk2) ?_ | refine ld TS_ok rfl rfl rfl rfl (Bk.get B4 rfl) ?_ | refine ld TS_ok rfl rfl rfl rfl (Bk.get Bk2 rfl) ?_ | refine gT rfl rfl rfl rfl ?_ | refine gF rfl rfl rfl rfl ?_ | refine condT rfl rfl ?_ | refine condF rfl rfl ?_); refine go TS_ok 200 rfl ?_)
  obtain ⟨n, f, Mm, hf⟩ := H.mp
  have hz : zeroOf Try.prog 3 = some (.int .i64 0) := by kernel_rfl
  cases hfk : f (x, day) with
  | some v =>
   have hv := hf _ _ hfk
   refine lookS K135 rfl rfl Try.underlying132 rfl (ek := ekT) (a := (x, day)) rfl hkey (ekT_inj _) Mm hz hfk ?_
   refine go TS_ok 200 rfl ?_
   refine condT rfl rfl ?_
   refine go TS_ok 200 rfl ?_
   exact ret (ret1 (v := I v) Try.results78 rfl ⟨by rw [hv], q.mono fun _ _ h => h.elim, H⟩)
  | none =>
   refine lookN K135 rfl rfl Try.underlying132 rfl (ek := ekT) (a := (x, day)) rfl hkey (ekT_inj _) Mm hz hfk ?_
   refine go TS_ok 200 rfl ?_
   refine condF rfl rfl ?_
   refine go TS_ok 200 rfl ?_
   refine bldA TS_ok rfl rfl rfl (z := .agg #[.bool false, .bool false]) (by kernel_rfl) (cs := [.bool true, .bool false]) rfl ?_
   refine go TS_ok 200 rfl ?_
   obtain ⟨k1, hk1⟩ : ∃ k, k = mostD m.a (day + 1) (nextN m.a d x true d.slo d.llo) := ⟨_, rfl⟩
   obtain ⟨k2, hk2⟩ : ∃ k, k = mostD m.a (day + 1) (nextN m.a d x false d.slo d.llo) := ⟨_, rfl⟩
   have b1 : k1 ≤ 30 ∧ -1 ≤ k1 := by rw [hk1]; exact ⟨by have := most_le m.a (m.a.days.drop (day + 1)) (nextN m.a d x true d.slo d.llo); rw [List.length_drop] at this; unfold mostD; omega, most_ge _ _ _⟩
   have b2 : k2 ≤ 30 ∧ -1 ≤ k2 := by rw [hk2]; exact ⟨by have := most_le m.a (m.a.days.drop (day + 1)) (nextN m.a d x false d.slo d.llo); rw [List.length_drop] at this; unfold mostD; omega, most_ge _ _ _⟩
   rw [← hk1, ← hk2] at emost
   obtain ⟨n1, hn1⟩ : ∃ n1, n1 = if okN m.a d x true d.slo d.llo then max (-1) (if 0 ≤ k1 then k1 + 1 else k1) else -1 := ⟨_, rfl⟩
   rw [← hn1] at emost
   obtain ⟨N, hN⟩ : ∃ N : Nat → Int, N = fun j => if j = 0 then -1 else if j = 1 then n1 else mostD m.a day x := ⟨_, rfl⟩
   have N0 : N 0 = -1 := by rw [hN]; rfl
   have N1 : N 1 = n1 := by rw [hN]; rfl
   have N2 : N 2 = mostD m.a day x := by rw [hN]; rfl
   have lq4 := q.size
   refine loop [1, 2, 3, 4, 8, 28, 29] (fun j : Nat => capsS gs gk gm ++ [.pointer (some ⟨g4, 0, none⟩), I (N j), .agg #[.bool true, .bool false], .int .i64 (j : Int)])
    (fun j w' => j ≤ 2 ∧ Chg (fun k => k = mb) w0 w' ∧ SC m gs gk gm mb w' ∧ Bk w' g4 135 (stL x day)) (fun j => 2 - j) 0 (fun _ => rfl) (by rw [N0]; rfl) ⟨by omega, q.mono fun _ _ h => h.elim, H, B4⟩ ?_
   rintro j τ w ⟨hj, q, H, B4⟩
   refine go TS_ok 200 rfl ?_
   refine condD rfl (fun hlt => ?_) (fun hlt => ?_)
   ·have hlt : j < 2 := by omega
    have lmw := H.lm
    have l4w := B4.lt
    obtain hj' | hj' : j = 0 ∨ j = 1 := by omega
    ·skip
     subst hj'
     refine go TS_ok 200 rfl ?_
     refine ix1 TS_ok rfl rfl rfl rfl rfl 0 rfl (by decide) rfl ?_
     have Bs := H.bs
     refine go TS_ok 200 rfl ?_
     repeat ((first | refine ldA TS_ok rfl rfl rfl rfl rfl (Bk.all B4) ?_ | refine ldA TS_ok rfl rfl rfl rfl rfl (Bk.all Bs) ?_ | refine ld TS_ok rfl rfl rfl rfl (Bk.get B4 rfl) ?_ | refine ld TS_ok rfl rfl rfl rfl (Bk.get Bs rfl) ?_ | refine gT rfl rfl rfl rfl ?_ | refine gF rfl rfl rfl rfl ?_ | refine condT rfl rfl ?_ | refine condF rfl rfl ?_); refine go TS_ok 200 rfl ?_)
     refine call rfl rfl rfl (ok _ (by decide) rfl) (worst_any m x day d true _ H.su ha hd hsb) ?_
     rintro v w1 ⟨rfl, qk⟩
     have H := H.no qk
     have B4 := B4.no qk
     have q := q.no qk
     have lq1 := q.size
     refine go TS_ok 200 rfl ?_
     refine nw rfl rfl (z := .agg #[I 0, I 0, I 0, I 0]) (by kernel_rfl) (cs := [I 0, I 0, I 0, I 0]) rfl ?_
     intro g11 w2 hg11 hs11 qa B11
     refine go TS_ok 200 rfl ?_
     refine stA TS_ok rfl rfl rfl rfl (vs := stL (nextN m.a d x true d.slo d.llo) (day + 1)) rfl rfl rfl B11 rfl ?_
     intro w3 qb B11 hz11
     have B11 : Bk w3 g11 135 (stL (nextN m.a d x true d.slo d.llo) (day + 1)) := B11
     have qk : Chg No w1 w3 := qa.step qb (fun k hk e => by omega)
     have H := H.no qk
     have B4 := B4.no qk
     have q := q.no qk
     have lm3 := H.lm
     have l11 : mb ≠ g11 := by have := H.n1; omega
     refine go TS_ok 200 rfl ?_
     cases hok : okN m.a d x true d.slo d.llo with
     | false =>
      refine condT rfl rfl ?_
      refine go TS_ok 200 rfl ?_
      rw [w64_id (x := ((0 : Nat) : Int) + 1) (by omega) (by omega)]
      have eN : N 0 = N (0 + 1) := by rw [N0, N1, hn1, hok]; rfl
      rw [eN]
      exact round ⟨0 + 1, rfl, ⟨by omega, q, H, B4⟩, by omega⟩
     | true =>
      refine condF rfl rfl ?_
      have Bm := H.bm
      refine go TS_ok 200 rfl ?_
      repeat ((first | refine ldA TS_ok rfl rfl rfl rfl rfl (Bk.all B11) ?_ | refine ldA TS_ok rfl rfl rfl rfl rfl (Bk.all Bm) ?_ | refine ld TS_ok rfl rfl rfl rfl (Bk.get B11 rfl) ?_ | refine ld TS_ok rfl rfl rfl rfl (Bk.get Bm rfl) ?_ | refine gT rfl rfl rfl rfl ?_ | refine gF rfl rfl rfl rfl ?_ | refine condT rfl rfl ?_ | refine condF rfl rfl ?_); refine go TS_ok 200 rfl ?_)
      refine call rfl rfl rfl (ok _ (by decide) rfl) (ih (day + 1) (nextN m.a d x true d.slo d.llo) w3 (by omega) (hx.next ha hdo hdo.s0 hdo.l0 hok) H) ?_
      rintro v w4 ⟨rfl, qk, H⟩
      have q := q.trans qk
      have B4 := B4.keep qk (by omega)
      rw [← hk1]
      refine go TS_ok 200 rfl ?_
      by_cases hk0 : 0 ≤ k1
      ·rw [decide_eq_true hk0]
       refine go TS_ok 200 rfl ?_
       repeat ((first | refine ldA TS_ok rfl rfl rfl rfl rfl (Bk.all B11) ?_ | refine ldA TS_ok rfl rfl rfl rfl rfl (Bk.all Bm) ?_ | refine ld TS_ok rfl rfl rfl rfl (Bk.get B11 rfl) ?_ | refine ld TS_ok rfl rfl rfl rfl (Bk.get Bm rfl) ?_ | refine gT rfl rfl rfl rfl ?_ | refine gF rfl rfl rfl rfl ?_ | refine condT rfl rfl ?_ | refine condF rfl rfl ?_); refine go TS_ok 200 rfl ?_)
       rw [w64_id (x := k1 + 1) (by omega) (by omega), w64_id (x := ((0 : Nat) : Int) + 1) (by omega) (by omega)]
       have eN : max (N 0) (k1 + 1) = N (0 + 1) := by rw [N0, N1, hn1, hok, if_pos rfl, if_pos hk0]
       rw [eN]
       exact round ⟨0 + 1, rfl, ⟨by omega, q, H, B4⟩, by omega⟩
      ·rw [decide_eq_false hk0]
       refine go TS_ok 200 rfl ?_
       repeat ((first | refine ldA TS_ok rfl rfl rfl rfl rfl (Bk.all B11) ?_ | refine ldA TS_ok rfl rfl rfl rfl rfl (Bk.all Bm) ?_ | refine ld TS_ok rfl rfl rfl rfl (Bk.get B11 rfl) ?_ | refine ld TS_ok rfl rfl rfl rfl (Bk.get Bm rfl) ?_ | refine gT rfl rfl rfl rfl ?_ | refine gF rfl rfl rfl rfl ?_ | refine condT rfl rfl ?_ | refine condF rfl rfl ?_); refine go TS_ok 200 rfl ?_)
       rw [w64_id (x := ((0 : Nat) : Int) + 1) (by omega) (by omega)]
       have eN : max (N 0) k1 = N (0 + 1) := by rw [N0, N1, hn1, hok, if_pos rfl, if_neg hk0]
       rw [eN]
       exact round ⟨0 + 1, rfl, ⟨by omega, q, H, B4⟩, by omega⟩
    ·skip
     subst hj'
     refine go TS_ok 200 rfl ?_
     refine ix1 TS_ok rfl rfl rfl rfl rfl 1 rfl (by decide) rfl ?_
     have Bs := H.bs
     refine go TS_ok 200 rfl ?_
     repeat ((first | refine ldA TS_ok rfl rfl rfl rfl rfl (Bk.all B4) ?_ | refine ldA TS_ok rfl rfl rfl rfl rfl (Bk.all Bs) ?_ | refine ld TS_ok rfl rfl rfl rfl (Bk.get B4 rfl) ?_ | refine ld TS_ok rfl rfl rfl rfl (Bk.get Bs rfl) ?_ | refine gT rfl rfl rfl rfl ?_ | refine gF rfl rfl rfl rfl ?_ | refine condT rfl rfl ?_ | refine condF rfl rfl ?_); refine go TS_ok 200 rfl ?_)
     refine call rfl rfl rfl (ok _ (by decide) rfl) (worst_any m x day d false _ H.su ha hd hsb) ?_
     rintro v w1 ⟨rfl, qk⟩
     have H := H.no qk
     have B4 := B4.no qk
     have q := q.no qk
     have lq1 := q.size
     refine go TS_ok 200 rfl ?_
     refine nw rfl rfl (z := .agg #[I 0, I 0, I 0, I 0]) (by kernel_rfl) (cs := [I 0, I 0, I 0, I 0]) rfl ?_
     intro g11 w2 hg11 hs11 qa B11
     refine go TS_ok 200 rfl ?_
     refine stA TS_ok rfl rfl rfl rfl (vs := stL (nextN m.a d x false d.slo d.llo) (day + 1)) rfl rfl rfl B11 rfl ?_
     intro w3 qb B11 hz11
     have B11 : Bk w3 g11 135 (stL (nextN m.a d x false d.slo d.llo) (day + 1)) := B11
     have qk : Chg No w1 w3 := qa.step qb (fun k hk e => by omega)
     have H := H.no qk
     have B4 := B4.no qk
     have q := q.no qk
     have lm3 := H.lm
     have l11 : mb ≠ g11 := by have := H.n1; omega
     refine go TS_ok 200 rfl ?_
     cases hok : okN m.a d x false d.slo d.llo with
     | false =>
      refine condT rfl rfl ?_
      refine go TS_ok 200 rfl ?_
      rw [w64_id (x := ((1 : Nat) : Int) + 1) (by omega) (by omega)]
      have eN : N 1 = N (1 + 1) := by rw [N1, N2, emost, hok]; rfl
      rw [eN]
      exact round ⟨1 + 1, rfl, ⟨by omega, q, H, B4⟩, by omega⟩
     | true =>
      refine condF rfl rfl ?_
      have Bm := H.bm
      refine go TS_ok 200 rfl ?_
      repeat ((first | refine ldA TS_ok rfl rfl rfl rfl rfl (Bk.all B11) ?_ | refine ldA TS_ok rfl rfl rfl rfl rfl (Bk.all Bm) ?_ | refine ld TS_ok rfl rfl rfl rfl (Bk.get B11 rfl) ?_ | refine ld TS_ok rfl rfl rfl rfl (Bk.get Bm rfl) ?_ | refine gT rfl rfl rfl rfl ?_ | refine gF rfl rfl rfl rfl ?_ | refine condT rfl rfl ?_ | refine condF rfl rfl ?_); refine go TS_ok 200 rfl ?_)
      refine call rfl rfl rfl (ok _ (by decide) rfl) (ih (day + 1) (nextN m.a d x false d.slo d.llo) w3 (by omega) (hx.next ha hdo hdo.s0 hdo.l0 hok) H) ?_
      rintro v w4 ⟨rfl, qk, H⟩
      have q := q.trans qk
      have B4 := B4.keep qk (by omega)
      rw [← hk2]
      refine go TS_ok 200 rfl ?_
      have eN : max (N 1) k2 = N (1 + 1) := by rw [N1, N2, emost, hok, if_pos rfl]
      by_cases hk0 : 0 ≤ k2
      ·rw [decide_eq_true hk0]
       refine go TS_ok 200 rfl ?_
       repeat ((first | refine ldA TS_ok rfl rfl rfl rfl rfl (Bk.all B11) ?_ | refine ldA TS_ok rfl rfl rfl rfl rfl (Bk.all Bm) ?_ | refine ld TS_ok rfl rfl rfl rfl (Bk.get B11 rfl) ?_ | refine ld TS_ok rfl rfl rfl rfl (Bk.get Bm rfl) ?_ | refine gT rfl rfl rfl rfl ?_ | refine gF rfl rfl rfl rfl ?_ | refine condT rfl rfl ?_ | refine condF rfl rfl ?_); refine go TS_ok 200 rfl ?_)
       rw [w64_id (x := ((1 : Nat) : Int) + 1) (by omega) (by omega), eN]
       exact round ⟨1 + 1, rfl, ⟨by omega, q, H, B4⟩, by omega⟩
      ·rw [decide_eq_false hk0]
       refine go TS_ok 200 rfl ?_
       repeat ((first | refine ldA TS_ok rfl rfl rfl rfl rfl (Bk.all B11) ?_ | refine ldA TS_ok rfl rfl rfl rfl rfl (Bk.all Bm) ?_ | refine ld TS_ok rfl rfl rfl rfl (Bk.get B11 rfl) ?_ | refine ld TS_ok rfl rfl rfl rfl (Bk.get Bm rfl) ?_ | refine gT rfl rfl rfl rfl ?_ | refine gF rfl rfl rfl rfl ?_ | refine condT rfl rfl ?_ | refine condF rfl rfl ?_); refine go TS_ok 200 rfl ?_)
       rw [w64_id (x := ((1 : Nat) : Int) + 1) (by omega) (by omega), eN]
       exact round ⟨1 + 1, rfl, ⟨by omega, q, H, B4⟩, by omega⟩
   ·obtain rfl : j = 2 := by omega
    rw [N2]
    have Bk2 := H.bk
    have lmw := H.lm
    refine go TS_ok 200 rfl ?_
    repeat ((first | refine ldA TS_ok rfl rfl rfl rfl rfl (Bk.all B4) ?_ | refine ldA TS_ok rfl rfl rfl rfl rfl (Bk.all Bk2) ?_ | refine ld TS_ok rfl rfl rfl rfl (Bk.get B4 rfl) ?_ | refine ld TS_ok rfl rfl rfl rfl (Bk.get Bk2 rfl) ?_ | refine gT rfl rfl rfl rfl ?_ | refine gF rfl rfl rfl rfl ?_ | refine condT rfl rfl ?_ | refine condF rfl rfl ?_); refine go TS_ok 200 rfl ?_)
    obtain ⟨n', f', Mm, hf⟩ := H.mp
    obtain ⟨kl, hkl⟩ := hkey
    refine upd_map K135 rfl rfl Try.underlying132 rfl (ek := ekT) (eb := I) (a := (x, day)) rfl hkl (ekT_inj _) (v := mostD m.a day x) rfl Mm ?_
    intro w9 qk Mm hz9
    refine go TS_ok 200 rfl ?_
    refine ret (ret1 (v := I _) Try.results78 rfl ⟨rfl, q.trans qk, H.map qk ⟨_, _, Mm, fun k v hv => ?_⟩⟩)
    have hv : (if k = (x, day) then some (mostD m.a day x) else f' k) = some v := hv
    by_cases hk : k = (x, day)
    ·rw [if_pos hk] at hv
     cases hv
     rw [hk]
    ·rw [if_neg hk] at hv
     exact hf k v hv
end Go.Proofs.Yteenhfnamjbaiaa
namespace Go.Proofs.Yteenhfnamjbaiaa
open Go.Ev Go.Proofs Go.Camp
attribute [local irreducible] At AtH
def bL (l : List Bool) : List Value := l.map Value.bool
theorem bL_snoc (l : List Bool) (b : Bool) : bL (l ++ [b]) = bL l ++ [.bool b] := by simp [bL]
theorem bL_len (l : List Bool) : (bL l).length = l.length := by simp [bL]
theorem runs_ok {a : Sup} {d : Dy} {ds : List Dy} {x : Stk} (h : 0 ≤ most a (d :: ds) x) : okN a d x (runsN a d ds x) d.slo d.llo = true ∧ 0 ≤ most a ds (nextN a d x (runsN a d ds x) d.slo d.llo) := by
 have h1 := (Go.Camp.best_ok a (d :: ds) x h).1
 simp only [best, safeN, Bool.and_eq_true] at h1
 have h2 := most_up a ds _ _ (best_len a ds _) h1.2
 exact ⟨h1.1, by omega⟩
theorem stD_begin {a : Sup} (h : SupOk a) : StD 0 a.b := ⟨h.c0, by have := h.c1; have := h.r1; omega, h.g0, by have := h.g1; omega, h.d0, by have := h.d1; have := h.t1; omega⟩
theorem SC.keep {m : Sm} {gs gk gm mb : Nat} {w w' : World} {M : Nat → Prop} (h : SC m gs gk gm mb w) (c : Chg M w w') (h1 : ¬ M gs) (h2 : ¬ M gk) (h3 : ¬ M gm) (h4 : ¬ M mb) (hs : SuM w' m) : SC m gs gk gm mb w' := by
 obtain ⟨n, f, a1, a2⟩ := h.mp
 exact ⟨h.bs.keep c h1, h.bk.keep c h2, h.bm.keep c h3, ⟨n, f, a1.keep c h4, a2⟩, hs, h.n1, h.n2, h.n3⟩
set_option maxRecDepth 20000 in
set_option maxHeartbeats 8000000 in
theorem Schedule_any (m : Sm) (w0 : World) (H : SuM w0 m) : Ret Try.prog 27 [.agg (suL m).toArray] w0 fun v w' => ∃ A c e l, v = .tuple #[.slice A l.length c, I e] ∧ Chg No w0 w' ∧ w'.ownsRow w0.heap.size 4 1 (.slice A l.length c) l.length (bL l) ∧
  (¬ SupOk m.a → e = 2 ∧ l = []) ∧ (SupOk m.a → mostD m.a 0 m.a.b < 0 → e = 5 ∧ l = []) ∧ (SupOk m.a → 0 ≤ mostD m.a 0 m.a.b → e = 0 ∧ l = best m.a m.a.days m.a.b) := by
 refine enter Try.func27 rfl Try.ntmps27 rfl ?_
 refine go TS_ok 200 rfl ?_
 refine bx rfl rfl rfl (cs := suL m) rfl ?_
 intro g1 u1 hg1 hs1 q1 B1
 have q := q1
 refine go TS_ok 200 rfl ?_
 repeat ((first | refine ldA TS_ok rfl rfl rfl rfl rfl (Bk.all B1) ?_ | refine ld TS_ok rfl rfl rfl rfl (Bk.get B1 rfl) ?_ | refine gT rfl rfl rfl rfl ?_ | refine gF rfl rfl rfl rfl ?_ | refine condT rfl rfl ?_ | refine condF rfl rfl ?_); refine go TS_ok 200 rfl ?_)
 refine call rfl rfl rfl (ok _ (by decide) rfl) (supplied_any m _ (H.no q)) ?_
 rintro x w ⟨⟨b, rfl, hb⟩, qk⟩
 have B1 := B1.no qk
 have q := q.trans qk
 by_cases hbb : b = true
 case neg =>
  obtain rfl : b = false := by simpa using hbb
  have hns : ¬ SupOk m.a := fun h => by have := hb.2 h; cases this
  refine go TS_ok 200 rfl ?_
  repeat ((first | refine ldA TS_ok rfl rfl rfl rfl rfl (Bk.all B1) ?_ | refine ld TS_ok rfl rfl rfl rfl (Bk.get B1 rfl) ?_ | refine gT rfl rfl rfl rfl ?_ | refine gF rfl rfl rfl rfl ?_ | refine condT rfl rfl ?_ | refine condF rfl rfl ?_); refine go TS_ok 200 rfl ?_)
  exact ret (ret2 (v := .slice none 0 0) (x := I 2) Try.results27 rfl rfl ⟨none, 0, 2, [], rfl, q, own_nil, fun _ => ⟨rfl, rfl⟩, fun h => absurd h hns, fun h => absurd h hns⟩)
 obtain rfl := hbb
 have ha := hb.1 rfl
 have hl := ha.len
 refine go TS_ok 200 rfl ?_
 repeat ((first | refine ldA TS_ok rfl rfl rfl rfl rfl (Bk.all B1) ?_ | refine ld TS_ok rfl rfl rfl rfl (Bk.get B1 rfl) ?_ | refine gT rfl rfl rfl rfl ?_ | refine gF rfl rfl rfl rfl ?_ | refine condT rfl rfl ?_ | refine condF rfl rfl ?_); refine go TS_ok 200 rfl ?_)
 have l1 := B1.lt
 refine mkM (kt := 135) rfl rfl ?_
 intro mb w2 hmb hsm qk Mm
 have Mm := Mm ekT I
 have hq := q.size
 have l1' : g1 < mb := by omega
 have B1 := B1.no qk
 have q := q.trans qk
 refine go TS_ok 200 rfl ?_
 refine nw rfl rfl (z := .map none) (by kernel_rfl) (cs := [.map none]) rfl ?_
 intro g4 w3 hg4 hs4 qa B4
 refine go TS_ok 200 rfl ?_
 refine st TS_ok rfl rfl rfl rfl (v := .map (some mb)) rfl rfl B4 rfl ?_
 intro w4 qb B4 hz4
 have B4 : Bk w4 g4 132 [.map (some mb)] := B4
 have qk : Chg No w2 w4 := qa.step qb (fun k hk e => by omega)
 have B1 := B1.no qk
 have q := q.trans qk
 have Mm := Mm.no qk
 refine go TS_ok 200 rfl ?_
 refine nw rfl rfl (z := .nilFunc) (by kernel_rfl) (cs := [.nilFunc]) rfl ?_
 intro g5 w5 hg5 hs5 qa B5
 refine go TS_ok 200 rfl ?_
 refine st TS_ok rfl rfl rfl rfl (v := .func (.func 78) #[] (capsS g1 g4 g5).toArray) rfl rfl B5 rfl ?_
 intro w6 qb B5 hz5
 have B5 : Bk w6 g5 133 [.func (.func 78) #[] (capsS g1 g4 g5).toArray] := B5
 have qk : Chg No w4 w6 := qa.step qb (fun k hk e => by omega)
 have B1 := B1.no qk
 have B4 := B4.no qk
 have q := q.trans qk
 have Mm := Mm.no qk
 refine go TS_ok 200 rfl ?_
 repeat ((first | refine ldA TS_ok rfl rfl rfl rfl rfl (Bk.all B1) ?_ | refine ldA TS_ok rfl rfl rfl rfl rfl (Bk.all B4) ?_ | refine ldA TS_ok rfl rfl rfl rfl rfl (Bk.all B5) ?_ | refine ld TS_ok rfl rfl rfl rfl (Bk.get B1 rfl) ?_ | refine ld TS_ok rfl rfl rfl rfl (Bk.get B4 rfl) ?_ | refine ld TS_ok rfl rfl rfl rfl (Bk.get B5 rfl) ?_ | refine gT rfl rfl rfl rfl ?_ | refine gF rfl rfl rfl rfl ?_ | refine condT rfl rfl ?_ | refine condF rfl rfl ?_); refine go TS_ok 200 rfl ?_)
 refine ldA TS_ok rfl rfl rfl rfl rfl (bk_at (ds := skL m.a.b) B1 rfl) ?_
 refine go TS_ok 200 rfl ?_
 refine nw rfl rfl (z := .agg #[I 0, I 0, I 0, I 0]) (by kernel_rfl) (cs := [I 0, I 0, I 0, I 0]) rfl ?_
 intro g6 w7 hg6 hs6 qa B6
 refine go TS_ok 200 rfl ?_
 refine stA TS_ok rfl rfl rfl rfl (vs := stL m.a.b 0) rfl rfl rfl B6 rfl ?_
 intro w8 qb B6 hz6
 have B6 : Bk w8 g6 135 (stL m.a.b 0) := B6
 have qk : Chg No w6 w8 := qa.step qb (fun k hk e => by omega)
 have B1 := B1.no qk
 have B4 := B4.no qk
 have B5 := B5.no qk
 have q := q.trans qk
 have Mm := Mm.no qk
 have hC : SC m g1 g4 g5 mb w8 := ⟨B1, B4, B5, ⟨0, _, Mm, fun k v h => by cases h⟩, H.no q, by omega, by omega, by omega⟩
 refine go TS_ok 200 rfl ?_
 repeat ((first | refine ldA TS_ok rfl rfl rfl rfl rfl (Bk.all B5) ?_ | refine ldA TS_ok rfl rfl rfl rfl rfl (Bk.all B6) ?_ | refine ld TS_ok rfl rfl rfl rfl (Bk.get B5 rfl) ?_ | refine ld TS_ok rfl rfl rfl rfl (Bk.get B6 rfl) ?_ | refine gT rfl rfl rfl rfl ?_ | refine gF rfl rfl rfl rfl ?_ | refine condT rfl rfl ?_ | refine condF rfl rfl ?_); refine go TS_ok 200 rfl ?_)
 refine call rfl rfl rfl (ok _ (by decide) rfl) (most_ok m ha g1 g4 g5 mb m.a.days.length 0 m.a.b _ (by omega) (stD_begin ha) hC) ?_
 rintro v w9 ⟨rfl, qk, hC⟩
 have l6 : mb < g6 := by omega
 have w0mb : w0.heap.size ≤ mb := by omega
 have B6 := B6.keep qk (by omega)
 have q := q.step qk (fun k hk e => by omega)
 refine go TS_ok 200 rfl ?_
 by_cases hneg : mostD m.a 0 m.a.b < 0
 ·refine condT rfl (decide_eq_true hneg) ?_
  refine go TS_ok 200 rfl ?_
  exact ret (ret2 (v := .slice none 0 0) (x := I 5) Try.results27 rfl rfl ⟨none, 0, 5, [], rfl, q, own_nil, fun h => absurd ha h, fun _ _ => ⟨rfl, rfl⟩, fun _ h => absurd h (Int.not_le.2 hneg)⟩)
 refine condF rfl (decide_eq_false hneg) ?_
 refine go TS_ok 200 rfl ?_
 obtain ⟨R, hR⟩ : ∃ R, R = best m.a m.a.days m.a.b := ⟨_, rfl⟩
 have hRl : R.length = m.a.days.length := by rw [hR, best_len]
 refine loop [1, 5, 6, 7] (fun y : Nat × Option Addr × Nat => [.pointer (some ⟨g1, 0, none⟩), .pointer (some ⟨g5, 0, none⟩), .pointer (some ⟨g6, 0, none⟩), .slice y.2.1 y.1 y.2.2])
  (fun y w' => y.1 ≤ m.a.days.length ∧ Chg No w0 w' ∧ SC m g1 g4 g5 mb w' ∧ w'.ownsRow (g6 + 1) 4 1 (.slice y.2.1 y.1 y.2.2) y.1 (bL (R.take y.1)) ∧ ∃ x, Bk w' g6 135 (stL x y.1) ∧ StD y.1 x ∧ 0 ≤ mostD m.a y.1 x ∧ best m.a (m.a.days.drop y.1) x = R.drop y.1) (fun y => m.a.days.length - y.1) (0, none, 0) (fun _ => rfl) rfl
  ⟨Nat.zero_le _, q, hC, own_nil, m.a.b, B6, stD_begin ha, by show 0 ≤ mostD m.a 0 m.a.b; omega, by simp [hR]⟩ ?_
 rintro ⟨j, A, c⟩ τ w ⟨hj, q, hC, ho, x, B6, hx, hm0, hbest⟩
 have hj : j ≤ m.a.days.length := hj
 have B6 : Bk w g6 135 (stL x j) := B6
 have hx : StD j x := hx
 have hm0 : 0 ≤ mostD m.a j x := hm0
 have ho : w.ownsRow (g6 + 1) 4 1 (.slice A j c) j (bL (R.take j)) := ho
 have hbest : best m.a (m.a.days.drop j) x = R.drop j := hbest
 have Bs := hC.bs
 refine go TS_ok 200 rfl ?_
 repeat ((first | refine ldA TS_ok rfl rfl rfl rfl rfl (Bk.all B6) ?_ | refine ldA TS_ok rfl rfl rfl rfl rfl (Bk.all Bs) ?_ | refine ld TS_ok rfl rfl rfl rfl (Bk.get B6 rfl) ?_ | refine ld TS_ok rfl rfl rfl rfl (Bk.get Bs rfl) ?_ | refine gT rfl rfl rfl rfl ?_ | refine gF rfl rfl rfl rfl ?_ | refine condT rfl rfl ?_ | refine condF rfl rfl ?_); refine go TS_ok 200 rfl ?_)
 refine condD rfl (fun hlt => ?_) (fun hlt => ?_)
 ·have hlt : j < m.a.days.length := by omega
  obtain ⟨d, hd⟩ := getA_of hlt
  have hdo := ha.days d (List.mem_of_getElem? hd)
  have hsb := hx.b (by omega)
  have hdd := drop_day hd
  have lmw := hC.lm
  have l6w := B6.lt
  obtain ⟨run, hrun⟩ : ∃ r, r = runsN m.a d (m.a.days.drop (j + 1)) x := ⟨_, rfl⟩
  have hrk := runs_ok (a := m.a) (d := d) (ds := m.a.days.drop (j + 1)) (x := x) (by have := hm0; unfold mostD at this; rw [hdd] at this; exact this)
  rw [← hrun] at hrk
  have hb2 : best m.a (m.a.days.drop (j + 1)) (nextN m.a d x run d.slo d.llo) = R.drop (j + 1) ∧ R[j]? = some run := by
   rw [hdd] at hbest
   simp only [best] at hbest
   rw [← hrun] at hbest
   have e1 : R.drop (j + 1) = (R.drop j).drop 1 := by rw [List.drop_drop]
   have e2 : R[j]? = (R.drop j)[0]? := by rw [List.getElem?_drop]; rfl
   rw [e1, e2, ← hbest]
   exact ⟨rfl, rfl⟩
  have hrundef : run = (okN m.a d x true d.slo d.llo && (decide (0 ≤ mostD m.a (j + 1) (nextN m.a d x true d.slo d.llo)) && (mostD m.a (j + 1) (nextN m.a d x true d.slo d.llo) + 1 == mostD m.a j x))) := by
   rw [hrun]
   unfold runsN mostD
   rw [hdd]
  have tk : R.take (j + 1) = R.take j ++ [run] := by rw [List.take_add_one, hb2.2]; rfl
  have Bm := hC.bm
  refine go TS_ok 200 rfl ?_
  repeat ((first | refine ldA TS_ok rfl rfl rfl rfl rfl (Bk.all B6) ?_ | refine ldA TS_ok rfl rfl rfl rfl rfl (Bk.all Bm) ?_ | refine ld TS_ok rfl rfl rfl rfl (Bk.get B6 rfl) ?_ | refine ld TS_ok rfl rfl rfl rfl (Bk.get Bm rfl) ?_ | refine gT rfl rfl rfl rfl ?_ | refine gF rfl rfl rfl rfl ?_ | refine condT rfl rfl ?_ | refine condF rfl rfl ?_); refine go TS_ok 200 rfl ?_)
  have X1 := most_ok m ha g1 g4 g5 mb (m.a.days.length - j) j x w (by omega) hx hC
  refine call rfl rfl rfl (ok _ (by decide) rfl) (X1) ?_
  rintro v w1 ⟨rfl, qk, hC⟩
  have B6 := B6.keep qk (by omega)
  have q := q.step qk (fun k hk e => by omega)
  have ho := own_keep ho qk (fun k e h => by have := own_ge ho e; omega)
  have Bs := hC.bs
  have lq1 := qk.size
  refine go TS_ok 200 rfl ?_
  repeat ((first | refine ldA TS_ok rfl rfl rfl rfl rfl (Bk.all B6) ?_ | refine ldA TS_ok rfl rfl rfl rfl rfl (Bk.all Bs) ?_ | refine ld TS_ok rfl rfl rfl rfl (Bk.get B6 rfl) ?_ | refine ld TS_ok rfl rfl rfl rfl (Bk.get Bs rfl) ?_ | refine gT rfl rfl rfl rfl ?_ | refine gF rfl rfl rfl rfl ?_ | refine condT rfl rfl ?_ | refine condF rfl rfl ?_); refine go TS_ok 200 rfl ?_)
  refine call rfl rfl rfl (ok _ (by decide) rfl) (worst_any m x j d true _ hC.su ha hd hsb) ?_
  rintro v w2 ⟨rfl, qk⟩
  have B6 := B6.no qk
  have Bs := Bs.no qk
  have q := q.trans qk
  have hC := hC.no qk
  have ho := own_no ho qk
  have lq2 := qk.size
  have ho3 := ho
  refine go TS_ok 200 rfl ?_
  refine nw rfl rfl (z := .agg #[I 0, I 0, I 0, I 0]) (by kernel_rfl) (cs := [I 0, I 0, I 0, I 0]) rfl ?_
  intro g9 w3 hg9 hs9 qa B9
  refine go TS_ok 200 rfl ?_
  refine stA TS_ok rfl rfl rfl rfl (vs := stL (nextN m.a d x true d.slo d.llo) (j + 1)) rfl rfl rfl B9 rfl ?_
  intro w4 qb B9 hz9
  have B9 : Bk w4 g9 135 (stL (nextN m.a d x true d.slo d.llo) (j + 1)) := B9
  have qk : Chg No w2 w4 := qa.step qb (fun k hk e => by omega)
  have B6 := B6.no qk
  have Bs := Bs.no qk
  have q := q.trans qk
  have hC := hC.no qk
  have ho := own_no ho qk
  have l9 : mb < g9 := by omega
  have l96 : g6 < g9 := by omega
  have l0w : w0.heap.size ≤ g9 := by have := q.size; omega
  have ow9 : ∀ k, (Value.slice A j c).ownBlock = some k → k ≠ g9 := fun k e h => by have := lt_own ho3 e; omega
  have hog : ∀ k, (Value.slice A j c).ownBlock = some k → g6 + 1 ≤ k := fun k e => own_ge ho e
  have u1 : g1 < mb := l1'
  have u4 : mb < g4 := by omega
  have u5 : g4 < g5 := by omega
  have u6 : g5 < g6 := by omega
  clear hs9 hg9 hs6 hg6 hs5 hg5 hs4 hg4 hsm hmb lq1 lq2 l6w lmw
  refine go TS_ok 200 rfl ?_
  cases hok : okN m.a d x true d.slo d.llo with
  | false =>
   have hr : run = false := by rw [hrundef, hok]; rfl
   subst hr
   refine go TS_ok 200 rfl ?_
   repeat ((first | refine ldA TS_ok rfl rfl rfl rfl rfl (Bk.all B6) ?_ | refine ld TS_ok rfl rfl rfl rfl (Bk.get B6 rfl) ?_ | refine gT rfl rfl rfl rfl ?_ | refine gF rfl rfl rfl rfl ?_ | refine condT rfl rfl ?_ | refine condF rfl rfl ?_); refine go TS_ok 200 rfl ?_)
   have Bs := hC.bs
   refine go TS_ok 200 rfl ?_
   repeat ((first | refine ldA TS_ok rfl rfl rfl rfl rfl (Bk.all B6) ?_ | refine ldA TS_ok rfl rfl rfl rfl rfl (Bk.all Bs) ?_ | refine ld TS_ok rfl rfl rfl rfl (Bk.get B6 rfl) ?_ | refine ld TS_ok rfl rfl rfl rfl (Bk.get Bs rfl) ?_ | refine gT rfl rfl rfl rfl ?_ | refine gF rfl rfl rfl rfl ?_ | refine condT rfl rfl ?_ | refine condF rfl rfl ?_); refine go TS_ok 200 rfl ?_)
   refine call rfl rfl rfl (ok _ (by decide) rfl) (worst_any m x j d false _ hC.su ha hd hsb) ?_
   rintro v w5 ⟨rfl, qk⟩
   have B6 := B6.no qk
   have B9 := B9.no qk
   have q := q.trans qk
   have hC := hC.no qk
   have ho := own_no ho qk
   refine go TS_ok 200 rfl ?_
   refine stA TS_ok rfl rfl rfl rfl (vs := stL (nextN m.a d x false d.slo d.llo) (j + 1)) rfl rfl rfl B9 rfl ?_
   intro w5b qk B9 hz9b
   have B9 : Bk w5b g9 135 (stL (nextN m.a d x false d.slo d.llo) (j + 1)) := B9
   have B6 := B6.keep qk (by omega)
   have q := q.step qk (fun k hk e => by omega)
   have hC := hC.keep qk (by omega) (by omega) (by omega) (by omega) (H.no q)
   have ho := own_keep ho qk (fun k e h => ow9 k e h)
   refine go TS_ok 200 rfl ?_
   repeat ((first | refine ldA TS_ok rfl rfl rfl rfl rfl (Bk.all B9) ?_ | refine ldA TS_ok rfl rfl rfl rfl rfl (Bk.all B6) ?_ | refine ld TS_ok rfl rfl rfl rfl (Bk.get B9 rfl) ?_ | refine ld TS_ok rfl rfl rfl rfl (Bk.get B6 rfl) ?_ | refine gT rfl rfl rfl rfl ?_ | refine gF rfl rfl rfl rfl ?_ | refine condT rfl rfl ?_ | refine condF rfl rfl ?_); refine go TS_ok 200 rfl ?_)
   refine app1 TS_ok rfl rfl rfl rfl rfl rfl (cs := [.bool false]) rfl rfl rfl rfl (fun _ => rfl) (fun _ => rfl) (fun _ => rfl) ho (by unfold maxLen; omega) (by omega) (by have := B9.lt; omega) ?_
   intro gx A' c' w6 o6 qk hs6 _
   have B9 := B9.keep qk (fun e => ow9 _ e rfl)
   have B6 := B6.keep qk (fun e => by have := hog _ e; omega)
   have q := q.step qk (fun k hk e => by have := hog _ e; omega)
   have hC := hC.keep qk (fun e => by have := hog _ e; omega) (fun e => by have := hog _ e; omega) (fun e => by have := hog _ e; omega) (fun e => by have := hog _ e; omega) (H.no q)
   refine go TS_ok 200 rfl ?_
   repeat ((first | refine ldA TS_ok rfl rfl rfl rfl rfl (Bk.all B9) ?_ | refine ldA TS_ok rfl rfl rfl rfl rfl (Bk.all B6) ?_ | refine ld TS_ok rfl rfl rfl rfl (Bk.get B9 rfl) ?_ | refine ld TS_ok rfl rfl rfl rfl (Bk.get B6 rfl) ?_ | refine gT rfl rfl rfl rfl ?_ | refine gF rfl rfl rfl rfl ?_ | refine condT rfl rfl ?_ | refine condF rfl rfl ?_); refine go TS_ok 200 rfl ?_)
   refine stA TS_ok rfl rfl rfl rfl (vs := stL (nextN m.a d x false d.slo d.llo) (j + 1)) rfl rfl rfl B6 rfl ?_
   intro w7 qk B6 hz7
   have B6 : Bk w7 g6 135 (stL (nextN m.a d x false d.slo d.llo) (j + 1)) := B6
   have q := q.step qk (fun k hk e => by omega)
   have hC := hC.keep qk (by omega) (by omega) (by omega) (by omega) (H.no q)
   have o7 := own_keep o6 qk (fun k e h => by have := own_ge o6 e; omega)
   refine go TS_ok 200 rfl ?_
   refine round ⟨(j + 1, A', c'), rfl, ⟨by show j + 1 ≤ _; omega, q, hC, ?_, _, B6, hx.next ha hdo hdo.s0 hdo.l0 hrk.1, hrk.2, hb2.1⟩, by show _ - (j + 1) < _ - j; omega⟩
   show w7.ownsRow (g6 + 1) 4 1 (.slice A' (j + 1) c') (j + 1) (bL (R.take (j + 1)))
   rw [tk, bL_snoc]
   exact o7
  | true =>
   have hxn := hx.next ha hdo hdo.s0 hdo.l0 hok
   have Bm := hC.bm
   refine go TS_ok 200 rfl ?_
   repeat ((first | refine ldA TS_ok rfl rfl rfl rfl rfl (Bk.all B9) ?_ | refine ldA TS_ok rfl rfl rfl rfl rfl (Bk.all Bm) ?_ | refine ld TS_ok rfl rfl rfl rfl (Bk.get B9 rfl) ?_ | refine ld TS_ok rfl rfl rfl rfl (Bk.get Bm rfl) ?_ | refine gT rfl rfl rfl rfl ?_ | refine gF rfl rfl rfl rfl ?_ | refine condT rfl rfl ?_ | refine condF rfl rfl ?_); refine go TS_ok 200 rfl ?_)
   have X2 := most_ok m ha g1 g4 g5 mb (m.a.days.length - (j + 1)) (j + 1) (nextN m.a d x true d.slo d.llo) _ (by omega) hxn hC
   refine call rfl rfl rfl (ok _ (by decide) rfl) (X2) ?_
   rintro v w5 ⟨rfl, qk, hC⟩
   have B6 := B6.keep qk (by omega)
   have B9 := B9.keep qk (by omega)
   have q := q.step qk (fun k hk e => by omega)
   have ho := own_keep ho qk (fun k e h => by have := hog _ e; omega)
   refine go TS_ok 200 rfl ?_
   repeat ((first | refine ldA TS_ok rfl rfl rfl rfl rfl (Bk.all B6) ?_ | refine ld TS_ok rfl rfl rfl rfl (Bk.get B6 rfl) ?_ | refine gT rfl rfl rfl rfl ?_ | refine gF rfl rfl rfl rfl ?_ | refine condT rfl rfl ?_ | refine condF rfl rfl ?_); refine go TS_ok 200 rfl ?_)
   by_cases hk1 : 0 ≤ mostD m.a (j + 1) (nextN m.a d x true d.slo d.llo)
   case neg =>
    have hr : run = false := by rw [hrundef, hok, decide_eq_false hk1]; rfl
    subst hr
    rw [decide_eq_false hk1]
    refine go TS_ok 200 rfl ?_
    repeat ((first | refine ldA TS_ok rfl rfl rfl rfl rfl (Bk.all B6) ?_ | refine ld TS_ok rfl rfl rfl rfl (Bk.get B6 rfl) ?_ | refine gT rfl rfl rfl rfl ?_ | refine gF rfl rfl rfl rfl ?_ | refine condT rfl rfl ?_ | refine condF rfl rfl ?_); refine go TS_ok 200 rfl ?_)
    have Bs := hC.bs
    refine go TS_ok 200 rfl ?_
    repeat ((first | refine ldA TS_ok rfl rfl rfl rfl rfl (Bk.all B6) ?_ | refine ldA TS_ok rfl rfl rfl rfl rfl (Bk.all Bs) ?_ | refine ld TS_ok rfl rfl rfl rfl (Bk.get B6 rfl) ?_ | refine ld TS_ok rfl rfl rfl rfl (Bk.get Bs rfl) ?_ | refine gT rfl rfl rfl rfl ?_ | refine gF rfl rfl rfl rfl ?_ | refine condT rfl rfl ?_ | refine condF rfl rfl ?_); refine go TS_ok 200 rfl ?_)
    refine call rfl rfl rfl (ok _ (by decide) rfl) (worst_any m x j d false _ hC.su ha hd hsb) ?_
    rintro v w5 ⟨rfl, qk⟩
    have B6 := B6.no qk
    have B9 := B9.no qk
    have q := q.trans qk
    have hC := hC.no qk
    have ho := own_no ho qk
    refine go TS_ok 200 rfl ?_
    refine stA TS_ok rfl rfl rfl rfl (vs := stL (nextN m.a d x false d.slo d.llo) (j + 1)) rfl rfl rfl B9 rfl ?_
    intro w5b qk B9 hz9b
    have B9 : Bk w5b g9 135 (stL (nextN m.a d x false d.slo d.llo) (j + 1)) := B9
    have B6 := B6.keep qk (by omega)
    have q := q.step qk (fun k hk e => by omega)
    have hC := hC.keep qk (by omega) (by omega) (by omega) (by omega) (H.no q)
    have ho := own_keep ho qk (fun k e h => ow9 k e h)
    refine go TS_ok 200 rfl ?_
    repeat ((first | refine ldA TS_ok rfl rfl rfl rfl rfl (Bk.all B9) ?_ | refine ldA TS_ok rfl rfl rfl rfl rfl (Bk.all B6) ?_ | refine ld TS_ok rfl rfl rfl rfl (Bk.get B9 rfl) ?_ | refine ld TS_ok rfl rfl rfl rfl (Bk.get B6 rfl) ?_ | refine gT rfl rfl rfl rfl ?_ | refine gF rfl rfl rfl rfl ?_ | refine condT rfl rfl ?_ | refine condF rfl rfl ?_); refine go TS_ok 200 rfl ?_)
    refine app1 TS_ok rfl rfl rfl rfl rfl rfl (cs := [.bool false]) rfl rfl rfl rfl (fun _ => rfl) (fun _ => rfl) (fun _ => rfl) ho (by unfold maxLen; omega) (by omega) (by have := B9.lt; omega) ?_
    intro gx A' c' w6 o6 qk hs6 _
    have B9 := B9.keep qk (fun e => ow9 _ e rfl)
    have B6 := B6.keep qk (fun e => by have := hog _ e; omega)
    have q := q.step qk (fun k hk e => by have := hog _ e; omega)
    have hC := hC.keep qk (fun e => by have := hog _ e; omega) (fun e => by have := hog _ e; omega) (fun e => by have := hog _ e; omega) (fun e => by have := hog _ e; omega) (H.no q)
    refine go TS_ok 200 rfl ?_
    repeat ((first | refine ldA TS_ok rfl rfl rfl rfl rfl (Bk.all B9) ?_ | refine ldA TS_ok rfl rfl rfl rfl rfl (Bk.all B6) ?_ | refine ld TS_ok rfl rfl rfl rfl (Bk.get B9 rfl) ?_ | refine ld TS_ok rfl rfl rfl rfl (Bk.get B6 rfl) ?_ | refine gT rfl rfl rfl rfl ?_ | refine gF rfl rfl rfl rfl ?_ | refine condT rfl rfl ?_ | refine condF rfl rfl ?_); refine go TS_ok 200 rfl ?_)
    refine stA TS_ok rfl rfl rfl rfl (vs := stL (nextN m.a d x false d.slo d.llo) (j + 1)) rfl rfl rfl B6 rfl ?_
    intro w7 qk B6 hz7
    have B6 : Bk w7 g6 135 (stL (nextN m.a d x false d.slo d.llo) (j + 1)) := B6
    have q := q.step qk (fun k hk e => by omega)
    have hC := hC.keep qk (by omega) (by omega) (by omega) (by omega) (H.no q)
    have o7 := own_keep o6 qk (fun k e h => by have := own_ge o6 e; omega)
    refine go TS_ok 200 rfl ?_
    refine round ⟨(j + 1, A', c'), rfl, ⟨by show j + 1 ≤ _; omega, q, hC, ?_, _, B6, hx.next ha hdo hdo.s0 hdo.l0 hrk.1, hrk.2, hb2.1⟩, by show _ - (j + 1) < _ - j; omega⟩
    show w7.ownsRow (g6 + 1) 4 1 (.slice A' (j + 1) c') (j + 1) (bL (R.take (j + 1)))
    rw [tk, bL_snoc]
    exact o7
   rw [decide_eq_true hk1]
   have Bm := hC.bm
   refine go TS_ok 200 rfl ?_
   repeat ((first | refine ldA TS_ok rfl rfl rfl rfl rfl (Bk.all B9) ?_ | refine ldA TS_ok rfl rfl rfl rfl rfl (Bk.all Bm) ?_ | refine ld TS_ok rfl rfl rfl rfl (Bk.get B9 rfl) ?_ | refine ld TS_ok rfl rfl rfl rfl (Bk.get Bm rfl) ?_ | refine gT rfl rfl rfl rfl ?_ | refine gF rfl rfl rfl rfl ?_ | refine condT rfl rfl ?_ | refine condF rfl rfl ?_); refine go TS_ok 200 rfl ?_)
   have X2 := most_ok m ha g1 g4 g5 mb (m.a.days.length - (j + 1)) (j + 1) (nextN m.a d x true d.slo d.llo) _ (by omega) hxn hC
   refine call rfl rfl rfl (ok _ (by decide) rfl) (X2) ?_
   rintro v w5 ⟨rfl, qk, hC⟩
   have B6 := B6.keep qk (by omega)
   have B9 := B9.keep qk (by omega)
   have q := q.step qk (fun k hk e => by omega)
   have ho := own_keep ho qk (fun k e h => by have := hog _ e; omega)
   have hml : mostD m.a (j + 1) (nextN m.a d x true d.slo d.llo) ≤ 30 := by
    have := most_le m.a (m.a.days.drop (j + 1)) (nextN m.a d x true d.slo d.llo)
    rw [List.length_drop] at this
    unfold mostD
    omega
   refine go TS_ok 200 rfl ?_
   rw [w64_id (x := mostD m.a (j + 1) (nextN m.a d x true d.slo d.llo) + 1) (by omega) (by omega)]
   have er : (mostD m.a (j + 1) (nextN m.a d x true d.slo d.llo) + 1 == mostD m.a j x) = run := by rw [hrundef, hok, decide_eq_true hk1]; rfl
   rw [er]
   cases hr : run with
   | false =>
    subst hr
    refine go TS_ok 200 rfl ?_
    repeat ((first | refine ldA TS_ok rfl rfl rfl rfl rfl (Bk.all B6) ?_ | refine ld TS_ok rfl rfl rfl rfl (Bk.get B6 rfl) ?_ | refine gT rfl rfl rfl rfl ?_ | refine gF rfl rfl rfl rfl ?_ | refine condT rfl rfl ?_ | refine condF rfl rfl ?_); refine go TS_ok 200 rfl ?_)
    have Bs := hC.bs
    refine go TS_ok 200 rfl ?_
    repeat ((first | refine ldA TS_ok rfl rfl rfl rfl rfl (Bk.all B6) ?_ | refine ldA TS_ok rfl rfl rfl rfl rfl (Bk.all Bs) ?_ | refine ld TS_ok rfl rfl rfl rfl (Bk.get B6 rfl) ?_ | refine ld TS_ok rfl rfl rfl rfl (Bk.get Bs rfl) ?_ | refine gT rfl rfl rfl rfl ?_ | refine gF rfl rfl rfl rfl ?_ | refine condT rfl rfl ?_ | refine condF rfl rfl ?_); refine go TS_ok 200 rfl ?_)
    refine call rfl rfl rfl (ok _ (by decide) rfl) (worst_any m x j d false _ hC.su ha hd hsb) ?_
    rintro v w5 ⟨rfl, qk⟩
    have B6 := B6.no qk
    have B9 := B9.no qk
    have q := q.trans qk
    have hC := hC.no qk
    have ho := own_no ho qk
    refine go TS_ok 200 rfl ?_
    refine stA TS_ok rfl rfl rfl rfl (vs := stL (nextN m.a d x false d.slo d.llo) (j + 1)) rfl rfl rfl B9 rfl ?_
    intro w5b qk B9 hz9b
    have B9 : Bk w5b g9 135 (stL (nextN m.a d x false d.slo d.llo) (j + 1)) := B9
    have B6 := B6.keep qk (by omega)
    have q := q.step qk (fun k hk e => by omega)
    have hC := hC.keep qk (by omega) (by omega) (by omega) (by omega) (H.no q)
    have ho := own_keep ho qk (fun k e h => ow9 k e h)
    refine go TS_ok 200 rfl ?_
    repeat ((first | refine ldA TS_ok rfl rfl rfl rfl rfl (Bk.all B9) ?_ | refine ldA TS_ok rfl rfl rfl rfl rfl (Bk.all B6) ?_ | refine ld TS_ok rfl rfl rfl rfl (Bk.get B9 rfl) ?_ | refine ld TS_ok rfl rfl rfl rfl (Bk.get B6 rfl) ?_ | refine gT rfl rfl rfl rfl ?_ | refine gF rfl rfl rfl rfl ?_ | refine condT rfl rfl ?_ | refine condF rfl rfl ?_); refine go TS_ok 200 rfl ?_)
    refine app1 TS_ok rfl rfl rfl rfl rfl rfl (cs := [.bool false]) rfl rfl rfl rfl (fun _ => rfl) (fun _ => rfl) (fun _ => rfl) ho (by unfold maxLen; omega) (by omega) (by have := B9.lt; omega) ?_
    intro gx A' c' w6 o6 qk hs6 _
    have B9 := B9.keep qk (fun e => ow9 _ e rfl)
    have B6 := B6.keep qk (fun e => by have := hog _ e; omega)
    have q := q.step qk (fun k hk e => by have := hog _ e; omega)
    have hC := hC.keep qk (fun e => by have := hog _ e; omega) (fun e => by have := hog _ e; omega) (fun e => by have := hog _ e; omega) (fun e => by have := hog _ e; omega) (H.no q)
    refine go TS_ok 200 rfl ?_
    repeat ((first | refine ldA TS_ok rfl rfl rfl rfl rfl (Bk.all B9) ?_ | refine ldA TS_ok rfl rfl rfl rfl rfl (Bk.all B6) ?_ | refine ld TS_ok rfl rfl rfl rfl (Bk.get B9 rfl) ?_ | refine ld TS_ok rfl rfl rfl rfl (Bk.get B6 rfl) ?_ | refine gT rfl rfl rfl rfl ?_ | refine gF rfl rfl rfl rfl ?_ | refine condT rfl rfl ?_ | refine condF rfl rfl ?_); refine go TS_ok 200 rfl ?_)
    refine stA TS_ok rfl rfl rfl rfl (vs := stL (nextN m.a d x false d.slo d.llo) (j + 1)) rfl rfl rfl B6 rfl ?_
    intro w7 qk B6 hz7
    have B6 : Bk w7 g6 135 (stL (nextN m.a d x false d.slo d.llo) (j + 1)) := B6
    have q := q.step qk (fun k hk e => by omega)
    have hC := hC.keep qk (by omega) (by omega) (by omega) (by omega) (H.no q)
    have o7 := own_keep o6 qk (fun k e h => by have := own_ge o6 e; omega)
    refine go TS_ok 200 rfl ?_
    refine round ⟨(j + 1, A', c'), rfl, ⟨by show j + 1 ≤ _; omega, q, hC, ?_, _, B6, hx.next ha hdo hdo.s0 hdo.l0 hrk.1, hrk.2, hb2.1⟩, by show _ - (j + 1) < _ - j; omega⟩
    show w7.ownsRow (g6 + 1) 4 1 (.slice A' (j + 1) c') (j + 1) (bL (R.take (j + 1)))
    rw [tk, bL_snoc]
    exact o7
   | true =>
    subst hr
    refine go TS_ok 200 rfl ?_
    repeat ((first | refine ldA TS_ok rfl rfl rfl rfl rfl (Bk.all B6) ?_ | refine ld TS_ok rfl rfl rfl rfl (Bk.get B6 rfl) ?_ | refine gT rfl rfl rfl rfl ?_ | refine gF rfl rfl rfl rfl ?_ | refine condT rfl rfl ?_ | refine condF rfl rfl ?_); refine go TS_ok 200 rfl ?_)
    refine go TS_ok 200 rfl ?_
    repeat ((first | refine ldA TS_ok rfl rfl rfl rfl rfl (Bk.all B9) ?_ | refine ldA TS_ok rfl rfl rfl rfl rfl (Bk.all B6) ?_ | refine ld TS_ok rfl rfl rfl rfl (Bk.get B9 rfl) ?_ | refine ld TS_ok rfl rfl rfl rfl (Bk.get B6 rfl) ?_ | refine gT rfl rfl rfl rfl ?_ | refine gF rfl rfl rfl rfl ?_ | refine condT rfl rfl ?_ | refine condF rfl rfl ?_); refine go TS_ok 200 rfl ?_)
    refine app1 TS_ok rfl rfl rfl rfl rfl rfl (cs := [.bool true]) rfl rfl rfl rfl (fun _ => rfl) (fun _ => rfl) (fun _ => rfl) ho (by unfold maxLen; omega) (by omega) (by have := B9.lt; omega) ?_
    intro gx A' c' w6 o6 qk hs6 _
    have B9 := B9.keep qk (fun e => ow9 _ e rfl)
    have B6 := B6.keep qk (fun e => by have := hog _ e; omega)
    have q := q.step qk (fun k hk e => by have := hog _ e; omega)
    have hC := hC.keep qk (fun e => by have := hog _ e; omega) (fun e => by have := hog _ e; omega) (fun e => by have := hog _ e; omega) (fun e => by have := hog _ e; omega) (H.no q)
    refine go TS_ok 200 rfl ?_
    repeat ((first | refine ldA TS_ok rfl rfl rfl rfl rfl (Bk.all B9) ?_ | refine ldA TS_ok rfl rfl rfl rfl rfl (Bk.all B6) ?_ | refine ld TS_ok rfl rfl rfl rfl (Bk.get B9 rfl) ?_ | refine ld TS_ok rfl rfl rfl rfl (Bk.get B6 rfl) ?_ | refine gT rfl rfl rfl rfl ?_ | refine gF rfl rfl rfl rfl ?_ | refine condT rfl rfl ?_ | refine condF rfl rfl ?_); refine go TS_ok 200 rfl ?_)
    refine stA TS_ok rfl rfl rfl rfl (vs := stL (nextN m.a d x true d.slo d.llo) (j + 1)) rfl rfl rfl B6 rfl ?_
    intro w7 qk B6 hz7
    have B6 : Bk w7 g6 135 (stL (nextN m.a d x true d.slo d.llo) (j + 1)) := B6
    have q := q.step qk (fun k hk e => by omega)
    have hC := hC.keep qk (by omega) (by omega) (by omega) (by omega) (H.no q)
    have o7 := own_keep o6 qk (fun k e h => by have := own_ge o6 e; omega)
    refine go TS_ok 200 rfl ?_
    refine round ⟨(j + 1, A', c'), rfl, ⟨by show j + 1 ≤ _; omega, q, hC, ?_, _, B6, hx.next ha hdo hdo.s0 hdo.l0 hrk.1, hrk.2, hb2.1⟩, by show _ - (j + 1) < _ - j; omega⟩
    show w7.ownsRow (g6 + 1) 4 1 (.slice A' (j + 1) c') (j + 1) (bL (R.take (j + 1)))
    rw [tk, bL_snoc]
    exact o7
 ·have hlt : ¬ j < m.a.days.length := by omega
  obtain rfl : j = m.a.days.length := by omega
  refine go TS_ok 200 rfl ?_
  refine ret (ret2 (v := .slice _ _ _) (x := I 0) Try.results27 rfl rfl ⟨A, c, 0, R, by rw [hRl], q, ?_, fun h => absurd ha h, fun _ h => absurd h hneg, fun _ _ => ⟨rfl, hR⟩⟩)
  rw [hRl]
  rw [List.take_of_length_le (by omega)] at ho
  exact own_base ho (by omega)
end Go.Proofs.Yteenhfnamjbaiaa
