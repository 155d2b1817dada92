/- The walk of CampHolds. -/
import Derived.Test.YteenhfnamjbaiaaK1
import Derived.Test.YteenhfnamjbaiaaR5
import Derived.Test.YteenhfnamjbaiaaE4
namespace Go.Proofs.Yteenhfnamjbaiaa
open Go.Ev Go.Proofs
open Go.Camp (Stk Sup SupOk DyOk okN nextN safeN runs sooner best most runC dayC least)
attribute [local irreducible] At AtH
def pctN (lo hi a : Int) : Int := lo + ((hi - lo) * a).tdiv 100
theorem pct_bd {lo hi a : Int} (h : lo ≤ hi) (h1 : hi ≤ 50) (h0 : 0 ≤ lo) (a0 : 0 ≤ a) (a1 : a ≤ 100) : 0 ≤ (hi - lo) * a ∧ (hi - lo) * a ≤ 5000 ∧ lo ≤ pctN lo hi a ∧ pctN lo hi a ≤ hi := by
  have m1 : 0 ≤ (hi - lo) * a := Int.mul_nonneg (by omega) a0
  have m2 : (hi - lo) * a ≤ (hi - lo) * 100 := Int.mul_le_mul_of_nonneg_left a1 (by omega)
  unfold pctN
  rw [Int.tdiv_eq_ediv_of_nonneg m1]
  refine ⟨m1, by omega, ?_, ?_⟩ <;> omega
def dayB (sun link gas : Int) (d : Go.Camp.Dy) : Go.Camp.Dy := ⟨d.slo + min sun (50 - d.slo), 50, d.llo + min link (50 - d.llo), 50, d.gas + min gas (1000 - d.gas)⟩
def supB (a : Sup) (sun link gas : Int) : Sup := ⟨a.b, a.room, a.store, a.run, a.idle, a.burn, a.dat, a.days.map (dayB sun link gas)⟩
theorem supB_ok {a : Sup} (h : SupOk a) {sun link gas : Int} (s0 : 0 ≤ sun) (l0 : 0 ≤ link) (g0 : 0 ≤ gas) : SupOk (supB a sun link gas) :=
  ⟨h.r0, h.r1, h.t0, h.t1, h.c0, h.c1, h.g0, h.g1, h.d0, h.d1, h.i0, h.i1, h.u1, h.b0, h.b1, h.a0, h.a1, fun d hd => by
    obtain ⟨e, he, rfl⟩ := List.mem_map.1 hd
    have h1 := h.days e he
    have := h1.s0; have := h1.s1; have := h1.s2; have := h1.l0; have := h1.l1; have := h1.l2; have := h1.g0; have := h1.g1
    unfold dayB
    exact ⟨by show 0 ≤ e.slo + min sun (50 - e.slo); omega, by show e.slo + min sun (50 - e.slo) ≤ 50; omega, by show (50 : Int) ≤ 50; omega, by show 0 ≤ e.llo + min link (50 - e.llo); omega, by show e.llo + min link (50 - e.llo) ≤ 50; omega, by show (50 : Int) ≤ 50; omega, by show 0 ≤ e.gas + min gas (1000 - e.gas); omega, by show e.gas + min gas (1000 - e.gas) ≤ 1000; omega⟩, by show (a.days.map _).length ≤ 30; rw [List.length_map]; exact h.len⟩
theorem least_get {ds : List Go.Camp.Dy} {sch : List Bool} {i : Nat} {p : Go.Camp.Dy × Bool × Int × Int} (h : (least ds sch)[i]? = some p) : ∃ d r, ds[i]? = some d ∧ sch[i]? = some r ∧ p = (d, r, d.slo, d.llo) := by
  unfold least at h
  rw [List.getElem?_map] at h
  cases hz : (ds.zip sch)[i]? with
  | none => rw [hz] at h; cases h
  | some x =>
    rw [hz] at h
    obtain ⟨d, r⟩ := x
    rw [List.getElem?_zip_eq_some] at hz
    exact ⟨d, r, hz.1, hz.2, by injection h with h; exact h.symm⟩
theorem zipC_inv {ds : List Go.Camp.Dy} {sch : List Bool} {sun link : List Int} {i : Nat} {p : Go.Camp.Dy × Bool × Int × Int} (h : (zipC ds sch sun link)[i]? = some p) : ds[i]? = some p.1 ∧ sch[i]? = some p.2.1 ∧ sun[i]? = some p.2.2.1 ∧ link[i]? = some p.2.2.2 := by
  unfold zipC at h
  rw [List.getElem?_zip_eq_some] at h
  obtain ⟨h1, h2⟩ := h
  rw [List.getElem?_zip_eq_some] at h2
  obtain ⟨h2, h3⟩ := h2
  rw [List.getElem?_zip_eq_some] at h3
  exact ⟨h1, h2, h3.1, h3.2⟩
/-- on a safe schedule, whatever course does not fail -/
theorem safe_any {a : Sup} {sch : List Bool} {sun link : List Int} (hs : safeN a a.days sch a.b = true) (hl : sch.length = a.days.length) (hin : DaysIn a sun link) : (runC a (zipC a.days sch sun link) a.b).2 = false := by
  rw [Go.Camp.safe_run] at hs
  have hs : (runC a (least a.days sch) a.b).2 = false := by cases h : (runC a (least a.days sch) a.b).2 with | false => rfl | true => rw [h] at hs; cases hs
  refine Go.Camp.run_mono (a' := a) ⟨rfl, rfl, rfl, rfl, rfl, rfl⟩ (least a.days sch) _ a.b a.b (Go.Camp.Le.refl _) ?_ ?_ hs
  · unfold least zipC
    simp [hl, hin.l1, hin.l2]
  · intro i p q hp hq
    obtain ⟨d, r, h1, h2, rfl⟩ := least_get hp
    obtain ⟨e1, e2, e3, e4⟩ := zipC_inv hq
    rw [h1] at e1
    injection e1 with e1
    rw [h2] at e2
    injection e2 with e2
    have := hin.d i d _ _ h1 e3 e4
    rw [← e1]
    exact ⟨Int.le_refl _, e2, this.1.1, this.2.1⟩
/-- with more of everything, a safe schedule stays safe -/
theorem safe_more {a : Sup} (ha : SupOk a) {sch : List Bool} {sun link gas : Int} (s0 : 0 ≤ sun) (l0 : 0 ≤ link) (g0 : 0 ≤ gas) (hs : safeN a a.days sch a.b = true) : safeN (supB a sun link gas) (supB a sun link gas).days sch (supB a sun link gas).b = true := by
  rw [Go.Camp.safe_run] at hs ⊢
  have hs : (runC a (least a.days sch) a.b).2 = false := by cases h : (runC a (least a.days sch) a.b).2 with | false => rfl | true => rw [h] at hs; cases hs
  have := Go.Camp.run_mono (a := a) (a' := supB a sun link gas) ⟨rfl, rfl, rfl, rfl, rfl, rfl⟩ (least a.days sch) (least (supB a sun link gas).days sch) a.b (supB a sun link gas).b (Go.Camp.Le.refl _) (by unfold least supB; simp) (fun i p q hp hq => by
    obtain ⟨d, r, h1, h2, rfl⟩ := least_get hp
    obtain ⟨d', r', h3, h4, rfl⟩ := least_get hq
    have h3 : (a.days.map (dayB sun link gas))[i]? = some d' := h3
    rw [List.getElem?_map, h1] at h3
    injection h3 with h3
    subst h3
    rw [h2] at h4
    injection h4 with h4
    have hd := ha.days d (List.mem_of_getElem? h1)
    have := hd.s0; have := hd.s1; have := hd.s2; have := hd.l0; have := hd.l1; have := hd.l2; have := hd.g0; have := hd.g1
    refine ⟨?_, h4, ?_, ?_⟩
    · show d.gas ≤ d.gas + min gas (1000 - d.gas); omega
    · show d.slo ≤ d.slo + min sun (50 - d.slo); omega
    · show d.llo ≤ d.llo + min link (50 - d.llo); omega) hs
  rw [this]; rfl
theorem worst_fails {a : Sup} {sch : List Bool} (hs : safeN a a.days sch a.b = false) : 0 ≤ dayC (runC a (zipC a.days sch (a.days.map (·.slo)) (a.days.map (·.llo))) a.b) := by
  rw [zip_least]
  rw [Go.Camp.safe_run] at hs
  have hs : (runC a (least a.days sch) a.b).2 = true := by cases h : (runC a (least a.days sch) a.b).2 with | true => rfl | false => rw [h] at hs; cases hs
  unfold dayC
  rw [if_pos hs]
  omega
def tr16 : F3.Tr := .fork [(0, true), (1, true), (2, true), (3, true), (4, true), (5, true), (6, true), (7, true), (8, true), (9, true), (10, true), (11, true), (12, true), (13, true), (14, true), (17, true), (18, true), (19, true), (20, true), (21, true), (22, true), (23, true), (24, true), (25, true), (26, true), (27, true), (28, true), (29, true), (30, true), (31, true)] (.fork [(15, false)] (.fin [(16, false), (32, false), (33, false), (34, true), (35, true)]) (.fin [(32, false), (16, false), (33, false), (34, true), (35, true)])) (.fin [(32, false), (15, false), (16, false), (33, false), (34, true), (35, true)])
def tr17 : F3.Tr := .fork [(0, true), (1, true), (2, true), (3, true), (6, true), (7, true), (8, true), (9, true)] (.fork [(4, false)] (.fin [(5, false), (10, false), (11, false), (12, true), (13, true)]) (.fin [(10, false), (5, false), (11, false), (12, true), (13, true)])) (.fin [(10, false), (4, false), (5, false), (11, false), (12, true), (13, true)])
def sBL (m : Sm) (A : Option Addr) (n c : Nat) : List Value := [I m.a.b.ch, I m.a.b.gas, I m.a.b.dat, I m.a.room, I m.a.store, I m.a.run, I m.a.idle, I m.a.burn, I m.a.dat, .slice A n c]
structure Hx where
  j : Nat
  us : List Int
  ls : List Int
  A5 : Option Addr
  c5 : Nat
  A6 : Option Addr
  c6 : Nat
  A7 : Option Addr
  c7 : Nat
  A8 : Option Addr
  c8 : Nat
  A9 : Option Addr
  c9 : Nat
/-- no two of the slices lie in one block -/
def Ap (v u : Value) : Prop := ∀ k, v.ownBlock = some k → u.ownBlock ≠ some k
theorem Ap.symm {v u : Value} (h : Ap v u) : Ap u v := fun k e e2 => h k e2 e
theorem Ap.up {v v' u : Value} {n : Nat} (h : Ap v u) (h1 : ∀ k, v'.ownBlock = some k → v.ownBlock = some k ∨ n ≤ k) (h2 : ∀ k, u.ownBlock = some k → k < n) : Ap v' u := fun k e e2 => by
  rcases h1 k e with h' | h'
  · exact h k h' e2
  · have := h2 k e2; omega
set_option maxRecDepth 20000 in
set_option maxHeartbeats 32000000 in
theorem walk_CampHolds (m : Sm) (o : Sli Bool) (p : Sli Int) (sun link gas : Int) (w0 : World) (hm : InS w0 m) (ho : InB w0 o) (hp : InI w0 p) (hsu : I64 sun) (hli : I64 link) (hga : I64 gas) :
    Ret Try.prog 12 [.agg (suL m).toArray, .slice o.A o.l.length o.c, .slice p.A p.l.length p.c, I sun, I link, I gas] w0 fun x w' => x = .bool true ∧ Chg No w0 w' := by
  have So := ho.sl
  have Sp := hp.sl
  have Hm := hm.m
  refine enter Try.func12 rfl Try.ntmps12 rfl ?_
  refine go TL_ok 200 rfl ?_
  refine bx rfl rfl rfl (cs := suL m) rfl ?_
  intro g6 u6 hg6 hs6 q6 B6
  have q := q6
  have So := So.no q
  have Sp := Sp.no q
  have Hm := Hm.no q
  refine go TL_ok 200 rfl ?_
  repeat ((first | refine ldA TL_ok rfl rfl rfl rfl rfl (Bk.all B6) ?_ | refine ld TL_ok rfl rfl rfl rfl (Bk.get B6 rfl) ?_ | refine guardA (b := true) rfl rfl rfl rfl (fun _ => ?_) (fun e => by cases e) | refine guardA (b := false) rfl rfl rfl rfl (fun e => by cases e) (fun _ => ?_) | refine condT rfl rfl ?_ | refine condF rfl rfl ?_); refine go TL_ok 200 rfl ?_)
  by_cases h30 : 30 < (m.a.days.length : Int)
  case pos =>
    rw [decide_eq_true h30]
    refine go TL_ok 200 rfl ?_
    repeat ((first | refine ldA TL_ok rfl rfl rfl rfl rfl (Bk.all B6) ?_ | refine ld TL_ok rfl rfl rfl rfl (Bk.get B6 rfl) ?_ | refine guardA (b := true) rfl rfl rfl rfl (fun _ => ?_) (fun e => by cases e) | refine guardA (b := false) rfl rfl rfl rfl (fun e => by cases e) (fun _ => ?_) | refine condT rfl rfl ?_ | refine condF rfl rfl ?_); refine go TL_ok 200 rfl ?_)
    refine call rfl rfl rfl (ok _ (by decide) rfl) (known_any _) ?_
    rintro v wk ⟨rfl, qk⟩
    refine go TL_ok 200 rfl ?_
    exact ret (ret1 (v := .bool true) Try.results12 rfl ⟨rfl, q.trans qk⟩)
  rw [decide_eq_false h30]
  refine go TL_ok 200 rfl ?_
  repeat ((first | refine ldA TL_ok rfl rfl rfl rfl rfl (Bk.all B6) ?_ | refine ld TL_ok rfl rfl rfl rfl (Bk.get B6 rfl) ?_ | refine guardA (b := true) rfl rfl rfl rfl (fun _ => ?_) (fun e => by cases e) | refine guardA (b := false) rfl rfl rfl rfl (fun e => by cases e) (fun _ => ?_) | refine condT rfl rfl ?_ | refine condF rfl rfl ?_); refine go TL_ok 200 rfl ?_)
  refine call rfl rfl rfl (ok _ (by decide) rfl) (rSupply_any m _ Hm) ?_
  rintro x w ⟨⟨b, rfl, hb⟩, qk⟩
  have B6 := B6.no qk
  have So := So.no qk
  have Sp := Sp.no qk
  have Hm := Hm.no qk
  have q := q.trans qk
  by_cases hbb : b = true
  case neg =>
    have e := Bool.eq_false_iff.2 hbb
    subst e
    refine go TL_ok 200 rfl ?_
    repeat ((first | refine ldA TL_ok rfl rfl rfl rfl rfl (Bk.all B6) ?_ | refine ld TL_ok rfl rfl rfl rfl (Bk.get B6 rfl) ?_ | refine guardA (b := true) rfl rfl rfl rfl (fun _ => ?_) (fun e => by cases e) | refine guardA (b := false) rfl rfl rfl rfl (fun e => by cases e) (fun _ => ?_) | refine condT rfl rfl ?_ | refine condF rfl rfl ?_); refine go TL_ok 200 rfl ?_)
    refine call rfl rfl rfl (ok _ (by decide) rfl) (known_any _) ?_
    rintro v wk ⟨rfl, qk⟩
    refine go TL_ok 200 rfl ?_
    exact ret (ret1 (v := .bool true) Try.results12 rfl ⟨rfl, q.trans qk⟩)
  subst hbb
  have ha := hb.1 rfl
  refine go TL_ok 200 rfl ?_
  repeat ((first | refine ldA TL_ok rfl rfl rfl rfl rfl (Bk.all B6) ?_ | refine ld TL_ok rfl rfl rfl rfl (Bk.get B6 rfl) ?_ | refine guardA (b := true) rfl rfl rfl rfl (fun _ => ?_) (fun e => by cases e) | refine guardA (b := false) rfl rfl rfl rfl (fun e => by cases e) (fun _ => ?_) | refine condT rfl rfl ?_ | refine condF rfl rfl ?_); refine go TL_ok 200 rfl ?_)
  by_cases hL : o.l.length = m.a.days.length
  case neg =>
    have e : ((o.l.length : Int) != (m.a.days.length : Int)) = true := bne_iff_ne.2 (by omega)
    rw [e]
    refine go TL_ok 200 rfl ?_
    repeat ((first | refine ldA TL_ok rfl rfl rfl rfl rfl (Bk.all B6) ?_ | refine ld TL_ok rfl rfl rfl rfl (Bk.get B6 rfl) ?_ | refine guardA (b := true) rfl rfl rfl rfl (fun _ => ?_) (fun e => by cases e) | refine guardA (b := false) rfl rfl rfl rfl (fun e => by cases e) (fun _ => ?_) | refine condT rfl rfl ?_ | refine condF rfl rfl ?_); refine go TL_ok 200 rfl ?_)
    refine call rfl rfl rfl (ok _ (by decide) rfl) (known_any _) ?_
    rintro v wk ⟨rfl, qk⟩
    refine go TL_ok 200 rfl ?_
    exact ret (ret1 (v := .bool true) Try.results12 rfl ⟨rfl, q.trans qk⟩)
  have e : ((o.l.length : Int) != (m.a.days.length : Int)) = false := bne_eq_false_iff_eq.2 (by omega)
  rw [e]
  refine go TL_ok 200 rfl ?_
  repeat ((first | refine ldA TL_ok rfl rfl rfl rfl rfl (Bk.all B6) ?_ | refine ld TL_ok rfl rfl rfl rfl (Bk.get B6 rfl) ?_ | refine guardA (b := true) rfl rfl rfl rfl (fun _ => ?_) (fun e => by cases e) | refine guardA (b := false) rfl rfl rfl rfl (fun e => by cases e) (fun _ => ?_) | refine condT rfl rfl ?_ | refine condF rfl rfl ?_); refine go TL_ok 200 rfl ?_)
  rw [w64_id (x := 2 * (m.a.days.length : Int)) (by omega) (by omega)]
  by_cases hP : p.l.length = 2 * m.a.days.length
  case neg =>
    have e : ((p.l.length : Int) != 2 * (m.a.days.length : Int)) = true := bne_iff_ne.2 (by omega)
    rw [e]
    refine go TL_ok 200 rfl ?_
    repeat ((first | refine ldA TL_ok rfl rfl rfl rfl rfl (Bk.all B6) ?_ | refine ld TL_ok rfl rfl rfl rfl (Bk.get B6 rfl) ?_ | refine guardA (b := true) rfl rfl rfl rfl (fun _ => ?_) (fun e => by cases e) | refine guardA (b := false) rfl rfl rfl rfl (fun e => by cases e) (fun _ => ?_) | refine condT rfl rfl ?_ | refine condF rfl rfl ?_); refine go TL_ok 200 rfl ?_)
    refine call rfl rfl rfl (ok _ (by decide) rfl) (known_any _) ?_
    rintro v wk ⟨rfl, qk⟩
    refine go TL_ok 200 rfl ?_
    exact ret (ret1 (v := .bool true) Try.results12 rfl ⟨rfl, q.trans qk⟩)
  have e : ((p.l.length : Int) != 2 * (m.a.days.length : Int)) = false := bne_eq_false_iff_eq.2 (by omega)
  rw [e]
  refine go TL_ok 200 rfl ?_
  repeat ((first | refine ldA TL_ok rfl rfl rfl rfl rfl (Bk.all B6) ?_ | refine ld TL_ok rfl rfl rfl rfl (Bk.get B6 rfl) ?_ | refine guardA (b := true) rfl rfl rfl rfl (fun _ => ?_) (fun e => by cases e) | refine guardA (b := false) rfl rfl rfl rfl (fun e => by cases e) (fun _ => ?_) | refine condT rfl rfl ?_ | refine condF rfl rfl ?_); refine go TL_ok 200 rfl ?_)
  by_cases n1 : sun < 0
  case pos =>
    rw [decide_eq_true n1]
    refine go TL_ok 200 rfl ?_
    repeat ((first | refine ldA TL_ok rfl rfl rfl rfl rfl (Bk.all B6) ?_ | refine ld TL_ok rfl rfl rfl rfl (Bk.get B6 rfl) ?_ | refine guardA (b := true) rfl rfl rfl rfl (fun _ => ?_) (fun e => by cases e) | refine guardA (b := false) rfl rfl rfl rfl (fun e => by cases e) (fun _ => ?_) | refine condT rfl rfl ?_ | refine condF rfl rfl ?_); refine go TL_ok 200 rfl ?_)
    refine call rfl rfl rfl (ok _ (by decide) rfl) (known_any _) ?_
    rintro v wk ⟨rfl, qk⟩
    refine go TL_ok 200 rfl ?_
    exact ret (ret1 (v := .bool true) Try.results12 rfl ⟨rfl, q.trans qk⟩)
  rw [decide_eq_false n1]
  refine go TL_ok 200 rfl ?_
  repeat ((first | refine ldA TL_ok rfl rfl rfl rfl rfl (Bk.all B6) ?_ | refine ld TL_ok rfl rfl rfl rfl (Bk.get B6 rfl) ?_ | refine guardA (b := true) rfl rfl rfl rfl (fun _ => ?_) (fun e => by cases e) | refine guardA (b := false) rfl rfl rfl rfl (fun e => by cases e) (fun _ => ?_) | refine condT rfl rfl ?_ | refine condF rfl rfl ?_); refine go TL_ok 200 rfl ?_)
  by_cases n2 : link < 0
  case pos =>
    rw [decide_eq_true n2]
    refine go TL_ok 200 rfl ?_
    repeat ((first | refine ldA TL_ok rfl rfl rfl rfl rfl (Bk.all B6) ?_ | refine ld TL_ok rfl rfl rfl rfl (Bk.get B6 rfl) ?_ | refine guardA (b := true) rfl rfl rfl rfl (fun _ => ?_) (fun e => by cases e) | refine guardA (b := false) rfl rfl rfl rfl (fun e => by cases e) (fun _ => ?_) | refine condT rfl rfl ?_ | refine condF rfl rfl ?_); refine go TL_ok 200 rfl ?_)
    refine call rfl rfl rfl (ok _ (by decide) rfl) (known_any _) ?_
    rintro v wk ⟨rfl, qk⟩
    refine go TL_ok 200 rfl ?_
    exact ret (ret1 (v := .bool true) Try.results12 rfl ⟨rfl, q.trans qk⟩)
  rw [decide_eq_false n2]
  refine go TL_ok 200 rfl ?_
  repeat ((first | refine ldA TL_ok rfl rfl rfl rfl rfl (Bk.all B6) ?_ | refine ld TL_ok rfl rfl rfl rfl (Bk.get B6 rfl) ?_ | refine guardA (b := true) rfl rfl rfl rfl (fun _ => ?_) (fun e => by cases e) | refine guardA (b := false) rfl rfl rfl rfl (fun e => by cases e) (fun _ => ?_) | refine condT rfl rfl ?_ | refine condF rfl rfl ?_); refine go TL_ok 200 rfl ?_)
  by_cases n3 : gas < 0
  case pos =>
    rw [decide_eq_true n3]
    refine go TL_ok 200 rfl ?_
    repeat ((first | refine ldA TL_ok rfl rfl rfl rfl rfl (Bk.all B6) ?_ | refine ld TL_ok rfl rfl rfl rfl (Bk.get B6 rfl) ?_ | refine guardA (b := true) rfl rfl rfl rfl (fun _ => ?_) (fun e => by cases e) | refine guardA (b := false) rfl rfl rfl rfl (fun e => by cases e) (fun _ => ?_) | refine condT rfl rfl ?_ | refine condF rfl rfl ?_); refine go TL_ok 200 rfl ?_)
    refine call rfl rfl rfl (ok _ (by decide) rfl) (known_any _) ?_
    rintro v wk ⟨rfl, qk⟩
    refine go TL_ok 200 rfl ?_
    exact ret (ret1 (v := .bool true) Try.results12 rfl ⟨rfl, q.trans qk⟩)
  rw [decide_eq_false n3]
  refine go TL_ok 200 rfl ?_
  repeat ((first | refine ldA TL_ok rfl rfl rfl rfl rfl (Bk.all B6) ?_ | refine ld TL_ok rfl rfl rfl rfl (Bk.get B6 rfl) ?_ | refine guardA (b := true) rfl rfl rfl rfl (fun _ => ?_) (fun e => by cases e) | refine guardA (b := false) rfl rfl rfl rfl (fun e => by cases e) (fun _ => ?_) | refine condT rfl rfl ?_ | refine condF rfl rfl ?_); refine go TL_ok 200 rfl ?_)
  refine call rfl rfl rfl (ok _ (by decide) rfl) (Safe_any m o.l o.A o.c _ _ Hm So) ?_
  rintro x w ⟨qk, hS⟩
  have B6 := B6.no qk
  have So := So.no qk
  have Sp := Sp.no qk
  have Hm := Hm.no qk
  have q := q.trans qk
  obtain rfl : x = .tuple #[.bool (safeN m.a m.a.days o.l m.a.b), I 0] := by
    rcases hS with ⟨h, _⟩ | ⟨_, h⟩
    · exact absurd ⟨ha, hL⟩ h
    · exact h
  clear hS
  obtain ⟨is, his⟩ : ∃ b, b = safeN m.a m.a.days o.l m.a.b := ⟨_, rfl⟩
  rw [← his]
  refine go TL_ok 200 rfl ?_
  repeat ((first | refine ldA TL_ok rfl rfl rfl rfl rfl (Bk.all B6) ?_ | refine ld TL_ok rfl rfl rfl rfl (Bk.get B6 rfl) ?_ | refine guardA (b := true) rfl rfl rfl rfl (fun _ => ?_) (fun e => by cases e) | refine guardA (b := false) rfl rfl rfl rfl (fun e => by cases e) (fun _ => ?_) | refine condT rfl rfl ?_ | refine condF rfl rfl ?_); refine go TL_ok 200 rfl ?_)
  have l6 := B6.lt
  have lq := q.size
  refine nw rfl rfl (z := .agg #[I 0, I 0, I 0, I 0, I 0, I 0, I 0, I 0, I 0, .slice none 0 0]) (by kernel_rfl) (cs := [I 0, I 0, I 0, I 0, I 0, I 0, I 0, I 0, I 0, .slice none 0 0]) rfl ?_
  intro g19 w hg19 hs19 qk B19
  have B6 := B6.no qk
  have So := So.no qk
  have Sp := Sp.no qk
  have Hm := Hm.no qk
  have q := q.trans qk
  refine go TL_ok 200 rfl ?_
  refine stA TL_ok rfl rfl rfl rfl (vs := suL m) rfl rfl rfl B19 rfl ?_
  intro w qk B19 hz19
  have B6 := B6.keep qk (by omega)
  have q := q.step qk (fun k hk e => by omega)
  have B19 : Bk w g19 44 (suL m) := B19
  refine go TL_ok 200 rfl ?_
  refine st TL_ok rfl rfl rfl rfl (v := .slice none 0 0) rfl rfl B19 rfl ?_
  intro w qk B19 hz19
  have B6 := B6.keep qk (by omega)
  have q := q.step qk (fun k hk e => by omega)
  have B19 : Bk w g19 44 (sBL m none 0 0) := B19
  have u19 : g6 < g19 := by omega
  have hw19 : w0.heap.size ≤ g19 := by omega
  clear hg19 hs19 hz19 So Sp Hm
  have So := ho.sl
  have Sp := hp.sl
  have Hm := hm.m
  refine go TL_ok 200 rfl ?_
  refine loop [1, 2, 3, 4, 5, 6, 13, 15, 16, 17, 18, 19, 20] (fun x : Hx => [.slice o.A o.l.length o.c, .slice p.A p.l.length p.c, I sun, I link, I gas, .pointer (some ⟨g6, 0, none⟩), .bool is, .slice x.A5 x.j x.c5, .slice x.A6 x.j x.c6, .slice x.A7 x.j x.c7, .slice x.A8 x.j x.c8, .pointer (some ⟨g19, 0, none⟩), .int .i64 (x.j : Int)])
    (fun x w' => x.j ≤ m.a.days.length ∧ x.us.length = x.j ∧ x.ls.length = x.j ∧ (∀ (i : Nat) d s l, m.a.days[i]? = some d → x.us[i]? = some s → x.ls[i]? = some l → (d.slo ≤ s ∧ s ≤ d.shi) ∧ d.llo ≤ l ∧ l ≤ d.lhi) ∧ Chg No w0 w' ∧ Bk w' g6 44 (suL m) ∧ Bk w' g19 44 (sBL m x.A9 x.j x.c9) ∧
      w'.ownsRow (g19 + 1) 3 1 (.slice x.A5 x.j x.c5) x.j (iL x.us) ∧ w'.ownsRow (g19 + 1) 3 1 (.slice x.A6 x.j x.c6) x.j (iL x.ls) ∧ w'.ownsRow (g19 + 1) 3 1 (.slice x.A7 x.j x.c7) x.j (iL ((m.a.days.take x.j).map (·.slo))) ∧ w'.ownsRow (g19 + 1) 3 1 (.slice x.A8 x.j x.c8) x.j (iL ((m.a.days.take x.j).map (·.llo))) ∧
      w'.ownsRow (g19 + 1) 95 5 (.slice x.A9 x.j x.c9) x.j (((m.a.days.take x.j).map (dayB sun link gas)).flatMap dyL) ∧
      Ap (.slice x.A5 x.j x.c5) (.slice x.A6 x.j x.c6) ∧ Ap (.slice x.A5 x.j x.c5) (.slice x.A7 x.j x.c7) ∧ Ap (.slice x.A5 x.j x.c5) (.slice x.A8 x.j x.c8) ∧ Ap (.slice x.A6 x.j x.c6) (.slice x.A7 x.j x.c7) ∧ Ap (.slice x.A6 x.j x.c6) (.slice x.A8 x.j x.c8) ∧ Ap (.slice x.A7 x.j x.c7) (.slice x.A8 x.j x.c8))
    (fun x => m.a.days.length - x.j) ⟨0, [], [], none, 0, none, 0, none, 0, none, 0, none, 0⟩ (fun _ => rfl) rfl ⟨Nat.zero_le _, rfl, rfl, (fun i d s l _ h => by simp at h), q, B6, B19, own_nil, own_nil, own_nil, own_nil, own_nil, (fun k e => by cases e), (fun k e => by cases e), (fun k e => by cases e), (fun k e => by cases e), (fun k e => by cases e), (fun k e => by cases e)⟩ ?_
  rintro ⟨j, us, ls, A5, c5, A6, c6, A7, c7, A8, c8, A9, c9⟩ τ w ⟨hj, hul, hll, hsl, q, B6, B19, own5, own6, own7, own8, own9, a56, a57, a58, a67, a68, a78⟩
  simp only at hj hul hll hsl B19 own5 own6 own7 own8 own9 a56 a57 a58 a67 a68 a78
  dsimp only
  refine go TL_ok 200 rfl ?_
  repeat ((first | refine ldA TL_ok rfl rfl rfl rfl rfl (Bk.all B6) ?_ | refine ld TL_ok rfl rfl rfl rfl (Bk.get B6 rfl) ?_ | refine guardA (b := true) rfl rfl rfl rfl (fun _ => ?_) (fun e => by cases e) | refine guardA (b := false) rfl rfl rfl rfl (fun e => by cases e) (fun _ => ?_) | refine condT rfl rfl ?_ | refine condF rfl rfl ?_); refine go TL_ok 200 rfl ?_)
  refine condD rfl (fun hlt => ?_) (fun hlt => ?_)
  · have hlt : j < m.a.days.length := by have : (j : Int) < (m.a.days.length : Int) := hlt; omega
    obtain ⟨d, hd⟩ := getA_of hlt
    obtain ⟨a, hpa⟩ := getA_of (l := p.l) (i := 2 * j) (by omega)
    obtain ⟨b, hpb⟩ := getA_of (l := p.l) (i := 2 * j + 1) (by omega)
    have hdo := ha.days d (List.mem_of_getElem? hd)
    have d1 := hdo.s0; have d2 := hdo.s1; have d3 := hdo.s2; have d4 := hdo.l0; have d5 := hdo.l1; have d6 := hdo.l2; have d7 := hdo.g0; have d8 := hdo.g1
    obtain ⟨b2, o2, hA2, hb2, hc2⟩ := (Sp.no q).elI hpa
    obtain ⟨b3, o3, hA3, hb3, hc3⟩ := (Sp.no q).elI hpb
    have y2 := (Sp.no q).2.1
    refine go TL_ok 200 rfl ?_
    refine draw mixed (fun w' => Chg No w w') ([0,1,2,3,4,5,6,7,8,9,10,11,12].map (fun i => (i, true))) rfl (by kernel_rfl) (Chg.drew _) ?_
    refine goH TL_ok 200 rfl ?_
    rw [show w64 (2 * (j : Int)) = ((2 * j : Nat) : Int) by rw [w64_id (by omega) (by omega)]; push_cast; rfl, hA2]
    refine quietH rfl (fun w' hS => r_idx TL_ok rfl rfl rfl rfl (2 * j) rfl (by omega)) ?_
    refine goH TL_ok 200 rfl ?_
    refine quietH rfl (fun w' hS => r_load TL_ok rfl rfl rfl ((hS.cell (a := ⟨b2, o2 + 2 * j * 1, none⟩) (by show b2 < _; omega) (fun h => h)).trans hc2)) ?_
    rw [← hA2]
    refine goH TL_ok 200 rfl ?_
    rw [show w64 (w64 (2 * (j : Int)) + 1) = ((2 * j + 1 : Nat) : Int) by rw [w64_id (x := 2 * (j : Int)) (by omega) (by omega), w64_id (by omega) (by omega)]; push_cast; rfl, hA3]
    refine quietH rfl (fun w' hS => r_idx TL_ok rfl rfl rfl rfl (2 * j + 1) rfl (by omega)) ?_
    refine goH TL_ok 200 rfl ?_
    refine quietH rfl (fun w' hS => r_load TL_ok rfl rfl rfl ((hS.cell (a := ⟨b3, o3 + (2 * j + 1) * 1, none⟩) (by show b3 < _; omega) (fun h => h)).trans hc3)) ?_
    rw [← hA3]
    refine goH TL_ok 200 rfl ?_
    refine endH ?_
    have qd := Chg.drew w
    have B6 := B6.no qd
    have B19 := B19.no qd
    have own5 := own_no own5 qd
    have own6 := own_no own6 qd
    have own7 := own_no own7 qd
    have own8 := own_no own8 qd
    have own9 := own_no own9 qd
    have q := q.trans qd
    generalize w.drew = w1 at *
    refine go TL_ok 200 rfl ?_
    repeat ((first | refine ldA TL_ok rfl rfl rfl rfl rfl (Bk.all B6) ?_ | refine ld TL_ok rfl rfl rfl rfl (Bk.get B6 rfl) ?_ | refine guardA (b := true) rfl rfl rfl rfl (fun _ => ?_) (fun e => by cases e) | refine guardA (b := false) rfl rfl rfl rfl (fun e => by cases e) (fun _ => ?_) | refine condT rfl rfl ?_ | refine condF rfl rfl ?_); refine go TL_ok 200 rfl ?_)
    by_cases k1 : a < 0
    case pos =>
      rw [decide_eq_true k1]
      refine go TL_ok 200 rfl ?_
      repeat ((first | refine ldA TL_ok rfl rfl rfl rfl rfl (Bk.all B6) ?_ | refine ld TL_ok rfl rfl rfl rfl (Bk.get B6 rfl) ?_ | refine guardA (b := true) rfl rfl rfl rfl (fun _ => ?_) (fun e => by cases e) | refine guardA (b := false) rfl rfl rfl rfl (fun e => by cases e) (fun _ => ?_) | refine condT rfl rfl ?_ | refine condF rfl rfl ?_); refine go TL_ok 200 rfl ?_)
      refine call rfl rfl rfl (ok _ (by decide) rfl) (known_any _) ?_
      rintro v wk ⟨rfl, qk⟩
      refine go TL_ok 200 rfl ?_
      exact ret (ret1 (v := .bool true) Try.results12 rfl ⟨rfl, q.trans qk⟩)
    rw [decide_eq_false k1]
    refine go TL_ok 200 rfl ?_
    repeat ((first | refine ldA TL_ok rfl rfl rfl rfl rfl (Bk.all B6) ?_ | refine ld TL_ok rfl rfl rfl rfl (Bk.get B6 rfl) ?_ | refine guardA (b := true) rfl rfl rfl rfl (fun _ => ?_) (fun e => by cases e) | refine guardA (b := false) rfl rfl rfl rfl (fun e => by cases e) (fun _ => ?_) | refine condT rfl rfl ?_ | refine condF rfl rfl ?_); refine go TL_ok 200 rfl ?_)
    by_cases k2 : 100 < a
    case pos =>
      rw [decide_eq_true k2]
      refine go TL_ok 200 rfl ?_
      repeat ((first | refine ldA TL_ok rfl rfl rfl rfl rfl (Bk.all B6) ?_ | refine ld TL_ok rfl rfl rfl rfl (Bk.get B6 rfl) ?_ | refine guardA (b := true) rfl rfl rfl rfl (fun _ => ?_) (fun e => by cases e) | refine guardA (b := false) rfl rfl rfl rfl (fun e => by cases e) (fun _ => ?_) | refine condT rfl rfl ?_ | refine condF rfl rfl ?_); refine go TL_ok 200 rfl ?_)
      refine call rfl rfl rfl (ok _ (by decide) rfl) (known_any _) ?_
      rintro v wk ⟨rfl, qk⟩
      refine go TL_ok 200 rfl ?_
      exact ret (ret1 (v := .bool true) Try.results12 rfl ⟨rfl, q.trans qk⟩)
    rw [decide_eq_false k2]
    refine go TL_ok 200 rfl ?_
    repeat ((first | refine ldA TL_ok rfl rfl rfl rfl rfl (Bk.all B6) ?_ | refine ld TL_ok rfl rfl rfl rfl (Bk.get B6 rfl) ?_ | refine guardA (b := true) rfl rfl rfl rfl (fun _ => ?_) (fun e => by cases e) | refine guardA (b := false) rfl rfl rfl rfl (fun e => by cases e) (fun _ => ?_) | refine condT rfl rfl ?_ | refine condF rfl rfl ?_); refine go TL_ok 200 rfl ?_)
    by_cases k3 : b < 0
    case pos =>
      rw [decide_eq_true k3]
      refine go TL_ok 200 rfl ?_
      repeat ((first | refine ldA TL_ok rfl rfl rfl rfl rfl (Bk.all B6) ?_ | refine ld TL_ok rfl rfl rfl rfl (Bk.get B6 rfl) ?_ | refine guardA (b := true) rfl rfl rfl rfl (fun _ => ?_) (fun e => by cases e) | refine guardA (b := false) rfl rfl rfl rfl (fun e => by cases e) (fun _ => ?_) | refine condT rfl rfl ?_ | refine condF rfl rfl ?_); refine go TL_ok 200 rfl ?_)
      refine call rfl rfl rfl (ok _ (by decide) rfl) (known_any _) ?_
      rintro v wk ⟨rfl, qk⟩
      refine go TL_ok 200 rfl ?_
      exact ret (ret1 (v := .bool true) Try.results12 rfl ⟨rfl, q.trans qk⟩)
    rw [decide_eq_false k3]
    refine go TL_ok 200 rfl ?_
    repeat ((first | refine ldA TL_ok rfl rfl rfl rfl rfl (Bk.all B6) ?_ | refine ld TL_ok rfl rfl rfl rfl (Bk.get B6 rfl) ?_ | refine guardA (b := true) rfl rfl rfl rfl (fun _ => ?_) (fun e => by cases e) | refine guardA (b := false) rfl rfl rfl rfl (fun e => by cases e) (fun _ => ?_) | refine condT rfl rfl ?_ | refine condF rfl rfl ?_); refine go TL_ok 200 rfl ?_)
    by_cases k4 : 100 < b
    case pos =>
      rw [decide_eq_true k4]
      refine go TL_ok 200 rfl ?_
      repeat ((first | refine ldA TL_ok rfl rfl rfl rfl rfl (Bk.all B6) ?_ | refine ld TL_ok rfl rfl rfl rfl (Bk.get B6 rfl) ?_ | refine guardA (b := true) rfl rfl rfl rfl (fun _ => ?_) (fun e => by cases e) | refine guardA (b := false) rfl rfl rfl rfl (fun e => by cases e) (fun _ => ?_) | refine condT rfl rfl ?_ | refine condF rfl rfl ?_); refine go TL_ok 200 rfl ?_)
      refine call rfl rfl rfl (ok _ (by decide) rfl) (known_any _) ?_
      rintro v wk ⟨rfl, qk⟩
      refine go TL_ok 200 rfl ?_
      exact ret (ret1 (v := .bool true) Try.results12 rfl ⟨rfl, q.trans qk⟩)
    rw [decide_eq_false k4]
    refine go TL_ok 200 rfl ?_
    repeat ((first | refine ldA TL_ok rfl rfl rfl rfl rfl (Bk.all B6) ?_ | refine ld TL_ok rfl rfl rfl rfl (Bk.get B6 rfl) ?_ | refine guardA (b := true) rfl rfl rfl rfl (fun _ => ?_) (fun e => by cases e) | refine guardA (b := false) rfl rfl rfl rfl (fun e => by cases e) (fun _ => ?_) | refine condT rfl rfl ?_ | refine condF rfl rfl ?_); refine go TL_ok 200 rfl ?_)
    obtain ⟨p1, p2, p3, p4⟩ := pct_bd (a := a) d2 d3 d1 (by omega) (by omega)
    obtain ⟨p5, p6, p7, p8⟩ := pct_bd (a := b) d5 d6 d4 (by omega) (by omega)
    obtain ⟨b1, o1, hA1, hb1, hc1⟩ := Sl.el (Hm.no q).sl dyL_len hd
    have hBB := (Hm.no q).sl.2.1
    refine go TL_ok 200 rfl ?_
    refine go TL_ok 200 rfl ?_
    repeat ((first | refine ldA TL_ok rfl rfl rfl rfl rfl (Bk.all B6) ?_ | refine ld TL_ok rfl rfl rfl rfl (Bk.get B6 rfl) ?_ | refine guardA (b := true) rfl rfl rfl rfl (fun _ => ?_) (fun e => by cases e) | refine guardA (b := false) rfl rfl rfl rfl (fun e => by cases e) (fun _ => ?_) | refine condT rfl rfl ?_ | refine condF rfl rfl ?_); refine go TL_ok 200 rfl ?_)
    rw [hA1]
    refine idx TL_ok rfl rfl rfl rfl rfl j rfl hlt ?_
    refine go TL_ok 200 rfl ?_
    refine ldA TL_ok rfl rfl rfl rfl rfl hc1 ?_
    rw [← hA1]
    refine go TL_ok 200 rfl ?_
    have l19 := B19.lt
    have hl9 : ∀ k, (Value.slice A9 j c9).ownBlock = some k → k < w1.heap.size := fun k e => lt_own own9 e
    refine nw rfl rfl (z := .agg #[I 0, I 0, I 0, I 0, I 0]) (by kernel_rfl) (cs := [I 0, I 0, I 0, I 0, I 0]) rfl ?_
    intro g23 w2 hg23 hs23 qk B23
    refine go TL_ok 200 rfl ?_
    refine stA TL_ok rfl rfl rfl rfl (vs := dyL d) rfl rfl rfl B23 rfl ?_
    intro w3 qk2 B23 hz23
    have B23 : Bk w3 g23 95 (dyL d) := B23
    have qd : Chg No w1 w3 := qk.step qk2 (fun k hk e => by omega)
    have B6 := B6.no qd
    have B19 := B19.no qd
    have own5 := own_no own5 qd
    have own6 := own_no own6 qd
    have own7 := own_no own7 qd
    have own8 := own_no own8 qd
    have hl9 : ∀ k, (Value.slice A9 j c9).ownBlock = some k → k ≠ g23 := fun k e => by have := hl9 k e; omega
    have own9 := own_no own9 qd
    have q := q.trans qd
    clear qd hz23 hs23
    have u23 : g19 < g23 := by omega
    have hsl0 : ∀ k, (Value.slice A5 j c5).ownBlock = some k ∨ (Value.slice A6 j c6).ownBlock = some k ∨ (Value.slice A7 j c7).ownBlock = some k ∨ (Value.slice A8 j c8).ownBlock = some k → k < w3.heap.size := fun k h => by
      rcases h with h | h | h | h
      · exact lt_own own5 h
      · exact lt_own own6 h
      · exact lt_own own7 h
      · exact lt_own own8 h
    clear hg23
    refine go TL_ok 200 rfl ?_
    have a59 : Ap (.slice A5 j c5) (.slice A9 j c9) := own_apart own5 own9 (by decide)
    have a69 : Ap (.slice A6 j c6) (.slice A9 j c9) := own_apart own6 own9 (by decide)
    have a79 : Ap (.slice A7 j c7) (.slice A9 j c9) := own_apart own7 own9 (by decide)
    have a89 : Ap (.slice A8 j c8) (.slice A9 j c9) := own_apart own8 own9 (by decide)
    obtain ⟨M, hM⟩ : ∃ M : Nat → Prop, M = fun k => (Value.slice A5 j c5).ownBlock = some k ∨ (Value.slice A6 j c6).ownBlock = some k := ⟨_, rfl⟩
    have hMl : ∀ k, (Value.slice A5 j c5).ownBlock = some k → M k := fun k h => by rw [hM]; exact .inl h
    have hMr : ∀ k, (Value.slice A6 j c6).ownBlock = some k → M k := fun k h => by rw [hM]; exact .inr h
    have hMg : ∀ k, M k → g19 + 1 ≤ k := fun k h => by
      rw [hM] at h
      rcases h with h | h
      · exact own_ge own5 h
      · exact own_ge own6 h
    have hMb : ∀ k t cs, Bk w3 k t cs → 3 ≠ t → ¬ M k := fun k t cs hb ht h => by
      rw [hM] at h
      unfold Bk at hb
      rcases h with h | h
      · exact no_own4 own5 hb ht h
      · exact no_own4 own6 hb ht h
    have hMo : ∀ v : Value, Ap (.slice A5 j c5) v → Ap (.slice A6 j c6) v → ∀ k, v.ownBlock = some k → ¬ M k := fun v e1 e2 k hk h => by
      rw [hM] at h
      rcases h with h | h
      · exact e1 k h hk
      · exact e2 k h hk
    clear hM
    refine go TL_ok 1 rfl ?_
    refine join [1, 2, 3, 4, 5, 6, 13, 15, 16, 17, 18, 19, 20, 23] (fun y : Option Addr × Nat × Option Addr × Nat => [.slice o.A o.l.length o.c, .slice p.A p.l.length p.c, I sun, I link, I gas, .pointer (some ⟨g6, 0, none⟩), .bool is, .slice y.1 (j + 1) y.2.1, .slice y.2.2.1 (j + 1) y.2.2.2, .slice A7 j c7, .slice A8 j c8, .pointer (some ⟨g19, 0, none⟩), .int .i64 (j : Int), .pointer (some ⟨g23, 0, none⟩)])
      (fun y w' => Chg M w3 w' ∧ w'.ownsRow (g19 + 1) 3 1 (.slice y.1 (j + 1) y.2.1) (j + 1) ((iL us) ++ [I (pctN d.slo d.shi a)]) ∧ w'.ownsRow (g19 + 1) 3 1 (.slice y.2.2.1 (j + 1) y.2.2.2) (j + 1) ((iL ls) ++ [I (pctN d.llo d.lhi b)]) ∧ Ap (.slice y.1 (j + 1) y.2.1) (.slice y.2.2.1 (j + 1) y.2.2.2) ∧
        (∀ k, (Value.slice y.1 (j + 1) y.2.1).ownBlock = some k → (Value.slice A5 j c5).ownBlock = some k ∨ w3.heap.size ≤ k) ∧ (∀ k, (Value.slice y.2.2.1 (j + 1) y.2.2.2).ownBlock = some k → (Value.slice A6 j c6).ownBlock = some k ∨ w3.heap.size ≤ k)) (fun _ => rfl) ?_ ?_
    · refine F3.drawT mixed (fun w' => Chg M w3 w') tr16 (by kernel_rfl) ((Chg.drew _).mono fun _ _ h => h.elim) ?_
      have qd : Chg M w3 w3.drew := (Chg.drew w3).mono fun _ _ h => h.elim
      have own := own_no own5 (Chg.drew w3)
      have own' := own_no own6 (Chg.drew w3)
      have hs0 := qd.size
      have b19 := B19.lt
      have hA : ∀ k, (Value.slice A5 j c5).ownBlock = some k → k < w3.heap.size := fun k h => lt_own own5 h
      have hA' : ∀ k, (Value.slice A6 j c6).ownBlock = some k → k < w3.heap.size := fun k h => lt_own own6 h
      have hM23 := hMb g23 95 _ B23 (by decide)
      refine F3.segK rfl ?_
      refine goH TL_ok 200 rfl ?_
      refine quietH rfl (fun w' hS => r_load TL_ok rfl rfl rfl (Bk.get (B23.keep hS hM23) rfl)) ?_
      refine goH TL_ok 200 rfl ?_
      refine quietH rfl (fun w' hS => r_load TL_ok rfl rfl rfl (Bk.get (B23.keep hS hM23) rfl)) ?_
      refine goH TL_ok 200 rfl ?_
      refine quietH rfl (fun w' hS => r_load TL_ok rfl rfl rfl (Bk.get (B23.keep hS hM23) rfl)) ?_
      refine goH TL_ok 200 rfl ?_
      rw [w64_id (x := d.shi - d.slo) (by omega) (by omega), w64_id (x := (d.shi - d.slo) * a) (by omega) (by omega)]
      refine quietH rfl (fun w' hS => r_quo rfl rfl rfl (by decide)) ?_
      refine goH TL_ok 200 rfl ?_
      rw [w64_id (x := ((d.shi - d.slo) * a).tdiv 100) (by unfold pctN at p3; omega) (by unfold pctN at p4; omega), show w64 (d.slo + ((d.shi - d.slo) * a).tdiv 100) = pctN d.slo d.shi a from w64_id (by unfold pctN at p3; omega) (by unfold pctN at p4; omega)]
      refine quietH rfl (fun w' hS => r_load TL_ok rfl rfl rfl (Bk.get (B23.keep hS hM23) rfl)) ?_
      refine goH TL_ok 200 rfl ?_
      refine quietH rfl (fun w' hS => r_load TL_ok rfl rfl rfl (Bk.get (B23.keep hS hM23) rfl)) ?_
      refine goH TL_ok 200 rfl ?_
      refine quietH rfl (fun w' hS => r_load TL_ok rfl rfl rfl (Bk.get (B23.keep hS hM23) rfl)) ?_
      refine goH TL_ok 200 rfl ?_
      rw [w64_id (x := d.lhi - d.llo) (by omega) (by omega), w64_id (x := (d.lhi - d.llo) * b) (by omega) (by omega)]
      refine quietH rfl (fun w' hS => r_quo rfl rfl rfl (by decide)) ?_
      refine goH TL_ok 200 rfl ?_
      rw [w64_id (x := ((d.lhi - d.llo) * b).tdiv 100) (by unfold pctN at p7; omega) (by unfold pctN at p8; omega), show w64 (d.llo + ((d.lhi - d.llo) * b).tdiv 100) = pctN d.llo d.lhi b from w64_id (by unfold pctN at p7; omega) (by unfold pctN at p8; omega)]
      refine F3.forkK qd ?_ ?_
      · refine F3.segK rfl ?_
        refine goH TL_ok 200 rfl ?_
        refine rowE TL_ok rfl rfl rfl rfl rfl rfl (cs := [I (pctN d.slo d.shi a)]) rfl ?_
        intro gr w4 hgr hsr qk Br
        have own := own_no own qk
        have own' := own_no own' qk
        try have Bs := Bs.no qk
        have hs0 := qd.size
        have hgrw : w3.heap.size ≤ gr := by omega
        have qd := qd.no qk
        refine ⟨qd, ?_⟩
        refine goH TL_ok 200 rfl ?_
        refine F3.forkK qd ?_ ?_
        · refine F3.segF rfl ?_
          refine goH TL_ok 200 rfl ?_
          have hs0 := qd.size
          refine appSE TL_ok rfl rfl rfl rfl rfl own (Br.sl (sz := 1) (m := 1) rfl) rfl (by unfold maxLen; omega) (by show (j + 1) * 8 ≤ _; omega) (by omega) ?_
          intro A5' c5' w5 ownA qk hown
          have own' := own_keep own' qk (fun k e hh => a56 k hh e)
          try have Bs := Bs.keep qk (fun e => by have := hA _ e; omega)
          have qd := qd.trans (qk.mono fun k _ h => hMl k h)
          have hA5 : ∀ k, (Value.slice A5' (j + 1) c5').ownBlock = some k → (Value.slice A5 j c5).ownBlock = some k ∨ w3.heap.size ≤ k := fun k e => by
            rcases hown with h | h
            · exact .inl (h ▸ e)
            · rw [h] at e; injection e with e; exact .inr (by omega)
          clear own
          refine ⟨qd, ?_⟩
          refine goH TL_ok 200 rfl ?_
          refine rowE TL_ok rfl rfl rfl rfl rfl rfl (cs := [I (pctN d.llo d.lhi b)]) rfl ?_
          intro gs w4 hgs hss qk Bs
          try have own := own_no own qk
          try have ownA := own_no ownA qk
          have own' := own_no own' qk
          try have Br := Br.no qk
          have hs0 := qd.size
          have hgsw : w3.heap.size ≤ gs := by omega
          have qd := qd.no qk
          refine ⟨qd, ?_⟩
          refine goH TL_ok 200 rfl ?_
          have hs0 := qd.size
          have hlt5 : ∀ k, (Value.slice A5' (j + 1) c5').ownBlock = some k → k < _ := fun k e => lt_own ownA e
          refine appSE TL_ok rfl rfl rfl rfl rfl own' (Bs.sl (sz := 1) (m := 1) rfl) rfl (by unfold maxLen; omega) (by show (j + 1) * 8 ≤ _; omega) (by omega) ?_
          intro A6' c6' w6 ownB qk hown
          have hA6 : ∀ k, (Value.slice A6' (j + 1) c6').ownBlock = some k → (Value.slice A6 j c6).ownBlock = some k ∨ w3.heap.size ≤ k := fun k e => by
            rcases hown with h | h
            · exact .inl (h ▸ e)
            · rw [h] at e; injection e with e; exact .inr (by omega)
          have hne2 : Ap (.slice A5' (j + 1) c5') (.slice A6' (j + 1) c6') := fun k e e2 => by
            have h5 := hlt5 k e
            rcases hown with h | h
            · rw [h] at e2
              rcases hA5 k e with h' | h'
              · exact a56 k h' e2
              · have := hA' k e2; omega
            · rw [h] at e2
              injection e2 with e2
              omega
          have ownA := own_keep ownA qk (fun k e hh => by
            rcases hA5 k e with h' | h'
            · exact a56 k h' hh
            · have := hA' k hh; omega)
          have qd := qd.trans (qk.mono fun k _ h => hMr k h)
          refine ⟨qd, ?_⟩
          refine goH TL_ok 200 rfl ?_
          refine endH ?_
          exact round ⟨(A5', c5', A6', c6'), rfl, qd, ownA, ownB, hne2, hA5, hA6⟩
        · refine F3.segF rfl ?_
          refine goH TL_ok 200 rfl ?_
          refine rowE TL_ok rfl rfl rfl rfl rfl rfl (cs := [I (pctN d.llo d.lhi b)]) rfl ?_
          intro gs w4 hgs hss qk Bs
          try have own := own_no own qk
          try have ownA := own_no ownA qk
          have own' := own_no own' qk
          try have Br := Br.no qk
          have hs0 := qd.size
          have hgsw : w3.heap.size ≤ gs := by omega
          have qd := qd.no qk
          refine ⟨qd, ?_⟩
          refine goH TL_ok 200 rfl ?_
          have hs0 := qd.size
          refine appSE TL_ok rfl rfl rfl rfl rfl own (Br.sl (sz := 1) (m := 1) rfl) rfl (by unfold maxLen; omega) (by show (j + 1) * 8 ≤ _; omega) (by omega) ?_
          intro A5' c5' w5 ownA qk hown
          have own' := own_keep own' qk (fun k e hh => a56 k hh e)
          try have Bs := Bs.keep qk (fun e => by have := hA _ e; omega)
          have qd := qd.trans (qk.mono fun k _ h => hMl k h)
          have hA5 : ∀ k, (Value.slice A5' (j + 1) c5').ownBlock = some k → (Value.slice A5 j c5).ownBlock = some k ∨ w3.heap.size ≤ k := fun k e => by
            rcases hown with h | h
            · exact .inl (h ▸ e)
            · rw [h] at e; injection e with e; exact .inr (by omega)
          clear own
          refine ⟨qd, ?_⟩
          refine goH TL_ok 200 rfl ?_
          have hs0 := qd.size
          have hlt5 : ∀ k, (Value.slice A5' (j + 1) c5').ownBlock = some k → k < _ := fun k e => lt_own ownA e
          refine appSE TL_ok rfl rfl rfl rfl rfl own' (Bs.sl (sz := 1) (m := 1) rfl) rfl (by unfold maxLen; omega) (by show (j + 1) * 8 ≤ _; omega) (by omega) ?_
          intro A6' c6' w6 ownB qk hown
          have hA6 : ∀ k, (Value.slice A6' (j + 1) c6').ownBlock = some k → (Value.slice A6 j c6).ownBlock = some k ∨ w3.heap.size ≤ k := fun k e => by
            rcases hown with h | h
            · exact .inl (h ▸ e)
            · rw [h] at e; injection e with e; exact .inr (by omega)
          have hne2 : Ap (.slice A5' (j + 1) c5') (.slice A6' (j + 1) c6') := fun k e e2 => by
            have h5 := hlt5 k e
            rcases hown with h | h
            · rw [h] at e2
              rcases hA5 k e with h' | h'
              · exact a56 k h' e2
              · have := hA' k e2; omega
            · rw [h] at e2
              injection e2 with e2
              omega
          have ownA := own_keep ownA qk (fun k e hh => by
            rcases hA5 k e with h' | h'
            · exact a56 k h' hh
            · have := hA' k hh; omega)
          have qd := qd.trans (qk.mono fun k _ h => hMr k h)
          refine ⟨qd, ?_⟩
          refine goH TL_ok 200 rfl ?_
          refine endH ?_
          exact round ⟨(A5', c5', A6', c6'), rfl, qd, ownA, ownB, hne2, hA5, hA6⟩
      · refine F3.segF rfl ?_
        refine goH TL_ok 200 rfl ?_
        refine rowE TL_ok rfl rfl rfl rfl rfl rfl (cs := [I (pctN d.llo d.lhi b)]) rfl ?_
        intro gs w4 hgs hss qk Bs
        try have own := own_no own qk
        try have ownA := own_no ownA qk
        have own' := own_no own' qk
        try have Br := Br.no qk
        have hs0 := qd.size
        have hgsw : w3.heap.size ≤ gs := by omega
        have qd := qd.no qk
        refine ⟨qd, ?_⟩
        refine goH TL_ok 200 rfl ?_
        refine rowE TL_ok rfl rfl rfl rfl rfl rfl (cs := [I (pctN d.slo d.shi a)]) rfl ?_
        intro gr w4 hgr hsr qk Br
        have own := own_no own qk
        have own' := own_no own' qk
        try have Bs := Bs.no qk
        have hs0 := qd.size
        have hgrw : w3.heap.size ≤ gr := by omega
        have qd := qd.no qk
        refine ⟨qd, ?_⟩
        refine goH TL_ok 200 rfl ?_
        have hs0 := qd.size
        refine appSE TL_ok rfl rfl rfl rfl rfl own (Br.sl (sz := 1) (m := 1) rfl) rfl (by unfold maxLen; omega) (by show (j + 1) * 8 ≤ _; omega) (by omega) ?_
        intro A5' c5' w5 ownA qk hown
        have own' := own_keep own' qk (fun k e hh => a56 k hh e)
        try have Bs := Bs.keep qk (fun e => by have := hA _ e; omega)
        have qd := qd.trans (qk.mono fun k _ h => hMl k h)
        have hA5 : ∀ k, (Value.slice A5' (j + 1) c5').ownBlock = some k → (Value.slice A5 j c5).ownBlock = some k ∨ w3.heap.size ≤ k := fun k e => by
          rcases hown with h | h
          · exact .inl (h ▸ e)
          · rw [h] at e; injection e with e; exact .inr (by omega)
        clear own
        refine ⟨qd, ?_⟩
        refine goH TL_ok 200 rfl ?_
        have hs0 := qd.size
        have hlt5 : ∀ k, (Value.slice A5' (j + 1) c5').ownBlock = some k → k < _ := fun k e => lt_own ownA e
        refine appSE TL_ok rfl rfl rfl rfl rfl own' (Bs.sl (sz := 1) (m := 1) rfl) rfl (by unfold maxLen; omega) (by show (j + 1) * 8 ≤ _; omega) (by omega) ?_
        intro A6' c6' w6 ownB qk hown
        have hA6 : ∀ k, (Value.slice A6' (j + 1) c6').ownBlock = some k → (Value.slice A6 j c6).ownBlock = some k ∨ w3.heap.size ≤ k := fun k e => by
          rcases hown with h | h
          · exact .inl (h ▸ e)
          · rw [h] at e; injection e with e; exact .inr (by omega)
        have hne2 : Ap (.slice A5' (j + 1) c5') (.slice A6' (j + 1) c6') := fun k e e2 => by
          have h5 := hlt5 k e
          rcases hown with h | h
          · rw [h] at e2
            rcases hA5 k e with h' | h'
            · exact a56 k h' e2
            · have := hA' k e2; omega
          · rw [h] at e2
            injection e2 with e2
            omega
        have ownA := own_keep ownA qk (fun k e hh => by
          rcases hA5 k e with h' | h'
          · exact a56 k h' hh
          · have := hA' k hh; omega)
        have qd := qd.trans (qk.mono fun k _ h => hMr k h)
        refine ⟨qd, ?_⟩
        refine goH TL_ok 200 rfl ?_
        refine endH ?_
        exact round ⟨(A5', c5', A6', c6'), rfl, qd, ownA, ownB, hne2, hA5, hA6⟩
    rintro ⟨X5, x5, X6, x6⟩ τ w4 ⟨qM, own5', own6', a56', h5, h6⟩
    simp only at own5' own6' a56' h5 h6
    dsimp only
    have B6 := B6.keep qM (hMb g6 44 _ B6 (by decide))
    have B19 := B19.keep qM (hMb g19 44 _ B19 (by decide))
    have B23 := B23.keep qM (hMb g23 95 _ B23 (by decide))
    have a57' : Ap (.slice X5 (j + 1) x5) (.slice A7 j c7) := a57.up h5 (fun k e => lt_own own7 e)
    have a58' : Ap (.slice X5 (j + 1) x5) (.slice A8 j c8) := a58.up h5 (fun k e => lt_own own8 e)
    have a67' : Ap (.slice X6 (j + 1) x6) (.slice A7 j c7) := a67.up h6 (fun k e => lt_own own7 e)
    have a68' : Ap (.slice X6 (j + 1) x6) (.slice A8 j c8) := a68.up h6 (fun k e => lt_own own8 e)
    have own7 := own_keep own7 qM (hMo _ a57 a67)
    have own8 := own_keep own8 qM (hMo _ a58 a68)
    have own9 := own_keep own9 qM (hMo _ a59 a69)
    have q := q.step qM (fun k hk e => by have := hMg k e; omega)
    clear hMl hMr hMg hMb hMo qM h5 h6 own5 own6 hsl0 a56 a57 a58 a67 a68
    obtain ⟨w3, hw3⟩ : ∃ w, w = w4 := ⟨_, rfl⟩
    subst hw3
    refine go TL_ok 200 rfl ?_
    obtain ⟨M, hM⟩ : ∃ M : Nat → Prop, M = fun k => (Value.slice A7 j c7).ownBlock = some k ∨ (Value.slice A8 j c8).ownBlock = some k := ⟨_, rfl⟩
    have hMl : ∀ k, (Value.slice A7 j c7).ownBlock = some k → M k := fun k h => by rw [hM]; exact .inl h
    have hMr : ∀ k, (Value.slice A8 j c8).ownBlock = some k → M k := fun k h => by rw [hM]; exact .inr h
    have hMg : ∀ k, M k → g19 + 1 ≤ k := fun k h => by
      rw [hM] at h
      rcases h with h | h
      · exact own_ge own7 h
      · exact own_ge own8 h
    have hMb : ∀ k t cs, Bk w3 k t cs → 3 ≠ t → ¬ M k := fun k t cs hb ht h => by
      rw [hM] at h
      unfold Bk at hb
      rcases h with h | h
      · exact no_own4 own7 hb ht h
      · exact no_own4 own8 hb ht h
    have hMo : ∀ v : Value, Ap (.slice A7 j c7) v → Ap (.slice A8 j c8) v → ∀ k, v.ownBlock = some k → ¬ M k := fun v e1 e2 k hk h => by
      rw [hM] at h
      rcases h with h | h
      · exact e1 k h hk
      · exact e2 k h hk
    clear hM
    refine go TL_ok 1 rfl ?_
    refine join [1, 2, 3, 4, 5, 6, 13, 15, 16, 17, 18, 19, 20, 23] (fun y : Option Addr × Nat × Option Addr × Nat => [.slice o.A o.l.length o.c, .slice p.A p.l.length p.c, I sun, I link, I gas, .pointer (some ⟨g6, 0, none⟩), .bool is, .slice X5 (j + 1) x5, .slice X6 (j + 1) x6, .slice y.1 (j + 1) y.2.1, .slice y.2.2.1 (j + 1) y.2.2.2, .pointer (some ⟨g19, 0, none⟩), .int .i64 (j : Int), .pointer (some ⟨g23, 0, none⟩)])
      (fun y w' => Chg M w3 w' ∧ w'.ownsRow (g19 + 1) 3 1 (.slice y.1 (j + 1) y.2.1) (j + 1) ((iL ((m.a.days.take j).map (·.slo))) ++ [I (d.slo)]) ∧ w'.ownsRow (g19 + 1) 3 1 (.slice y.2.2.1 (j + 1) y.2.2.2) (j + 1) ((iL ((m.a.days.take j).map (·.llo))) ++ [I (d.llo)]) ∧ Ap (.slice y.1 (j + 1) y.2.1) (.slice y.2.2.1 (j + 1) y.2.2.2) ∧
        (∀ k, (Value.slice y.1 (j + 1) y.2.1).ownBlock = some k → (Value.slice A7 j c7).ownBlock = some k ∨ w3.heap.size ≤ k) ∧ (∀ k, (Value.slice y.2.2.1 (j + 1) y.2.2.2).ownBlock = some k → (Value.slice A8 j c8).ownBlock = some k ∨ w3.heap.size ≤ k)) (fun _ => rfl) ?_ ?_
    · refine F3.drawT mixed (fun w' => Chg M w3 w') tr17 (by kernel_rfl) ((Chg.drew _).mono fun _ _ h => h.elim) ?_
      have qd : Chg M w3 w3.drew := (Chg.drew w3).mono fun _ _ h => h.elim
      have own := own_no own7 (Chg.drew w3)
      have own' := own_no own8 (Chg.drew w3)
      have hs0 := qd.size
      have b19 := B19.lt
      have hA : ∀ k, (Value.slice A7 j c7).ownBlock = some k → k < w3.heap.size := fun k h => lt_own own7 h
      have hA' : ∀ k, (Value.slice A8 j c8).ownBlock = some k → k < w3.heap.size := fun k h => lt_own own8 h
      have hM23 := hMb g23 95 _ B23 (by decide)
      refine F3.segK rfl ?_
      refine goH TL_ok 200 rfl ?_
      refine quietH rfl (fun w' hS => r_load TL_ok rfl rfl rfl (Bk.get (B23.keep hS hM23) rfl)) ?_
      refine goH TL_ok 200 rfl ?_
      refine quietH rfl (fun w' hS => r_load TL_ok rfl rfl rfl (Bk.get (B23.keep hS hM23) rfl)) ?_
      refine goH TL_ok 200 rfl ?_
      refine F3.forkK qd ?_ ?_
      · refine F3.segK rfl ?_
        refine goH TL_ok 200 rfl ?_
        refine rowE TL_ok rfl rfl rfl rfl rfl rfl (cs := [I (d.slo)]) rfl ?_
        intro gr w4 hgr hsr qk Br
        have own := own_no own qk
        have own' := own_no own' qk
        try have Bs := Bs.no qk
        have hs0 := qd.size
        have hgrw : w3.heap.size ≤ gr := by omega
        have qd := qd.no qk
        refine ⟨qd, ?_⟩
        refine goH TL_ok 200 rfl ?_
        refine F3.forkK qd ?_ ?_
        · refine F3.segF rfl ?_
          refine goH TL_ok 200 rfl ?_
          have hs0 := qd.size
          refine appSE TL_ok rfl rfl rfl rfl rfl own (Br.sl (sz := 1) (m := 1) rfl) rfl (by unfold maxLen; omega) (by show (j + 1) * 8 ≤ _; omega) (by omega) ?_
          intro A5' c5' w5 ownA qk hown
          have own' := own_keep own' qk (fun k e hh => a78 k hh e)
          try have Bs := Bs.keep qk (fun e => by have := hA _ e; omega)
          have qd := qd.trans (qk.mono fun k _ h => hMl k h)
          have hA5 : ∀ k, (Value.slice A5' (j + 1) c5').ownBlock = some k → (Value.slice A7 j c7).ownBlock = some k ∨ w3.heap.size ≤ k := fun k e => by
            rcases hown with h | h
            · exact .inl (h ▸ e)
            · rw [h] at e; injection e with e; exact .inr (by omega)
          clear own
          refine ⟨qd, ?_⟩
          refine goH TL_ok 200 rfl ?_
          refine rowE TL_ok rfl rfl rfl rfl rfl rfl (cs := [I (d.llo)]) rfl ?_
          intro gs w4 hgs hss qk Bs
          try have own := own_no own qk
          try have ownA := own_no ownA qk
          have own' := own_no own' qk
          try have Br := Br.no qk
          have hs0 := qd.size
          have hgsw : w3.heap.size ≤ gs := by omega
          have qd := qd.no qk
          refine ⟨qd, ?_⟩
          refine goH TL_ok 200 rfl ?_
          have hs0 := qd.size
          have hlt5 : ∀ k, (Value.slice A5' (j + 1) c5').ownBlock = some k → k < _ := fun k e => lt_own ownA e
          refine appSE TL_ok rfl rfl rfl rfl rfl own' (Bs.sl (sz := 1) (m := 1) rfl) rfl (by unfold maxLen; omega) (by show (j + 1) * 8 ≤ _; omega) (by omega) ?_
          intro A6' c6' w6 ownB qk hown
          have hA6 : ∀ k, (Value.slice A6' (j + 1) c6').ownBlock = some k → (Value.slice A8 j c8).ownBlock = some k ∨ w3.heap.size ≤ k := fun k e => by
            rcases hown with h | h
            · exact .inl (h ▸ e)
            · rw [h] at e; injection e with e; exact .inr (by omega)
          have hne2 : Ap (.slice A5' (j + 1) c5') (.slice A6' (j + 1) c6') := fun k e e2 => by
            have h5 := hlt5 k e
            rcases hown with h | h
            · rw [h] at e2
              rcases hA5 k e with h' | h'
              · exact a78 k h' e2
              · have := hA' k e2; omega
            · rw [h] at e2
              injection e2 with e2
              omega
          have ownA := own_keep ownA qk (fun k e hh => by
            rcases hA5 k e with h' | h'
            · exact a78 k h' hh
            · have := hA' k hh; omega)
          have qd := qd.trans (qk.mono fun k _ h => hMr k h)
          refine ⟨qd, ?_⟩
          refine goH TL_ok 200 rfl ?_
          refine endH ?_
          exact round ⟨(A5', c5', A6', c6'), rfl, qd, ownA, ownB, hne2, hA5, hA6⟩
        · refine F3.segF rfl ?_
          refine goH TL_ok 200 rfl ?_
          refine rowE TL_ok rfl rfl rfl rfl rfl rfl (cs := [I (d.llo)]) rfl ?_
          intro gs w4 hgs hss qk Bs
          try have own := own_no own qk
          try have ownA := own_no ownA qk
          have own' := own_no own' qk
          try have Br := Br.no qk
          have hs0 := qd.size
          have hgsw : w3.heap.size ≤ gs := by omega
          have qd := qd.no qk
          refine ⟨qd, ?_⟩
          refine goH TL_ok 200 rfl ?_
          have hs0 := qd.size
          refine appSE TL_ok rfl rfl rfl rfl rfl own (Br.sl (sz := 1) (m := 1) rfl) rfl (by unfold maxLen; omega) (by show (j + 1) * 8 ≤ _; omega) (by omega) ?_
          intro A5' c5' w5 ownA qk hown
          have own' := own_keep own' qk (fun k e hh => a78 k hh e)
          try have Bs := Bs.keep qk (fun e => by have := hA _ e; omega)
          have qd := qd.trans (qk.mono fun k _ h => hMl k h)
          have hA5 : ∀ k, (Value.slice A5' (j + 1) c5').ownBlock = some k → (Value.slice A7 j c7).ownBlock = some k ∨ w3.heap.size ≤ k := fun k e => by
            rcases hown with h | h
            · exact .inl (h ▸ e)
            · rw [h] at e; injection e with e; exact .inr (by omega)
          clear own
          refine ⟨qd, ?_⟩
          refine goH TL_ok 200 rfl ?_
          have hs0 := qd.size
          have hlt5 : ∀ k, (Value.slice A5' (j + 1) c5').ownBlock = some k → k < _ := fun k e => lt_own ownA e
          refine appSE TL_ok rfl rfl rfl rfl rfl own' (Bs.sl (sz := 1) (m := 1) rfl) rfl (by unfold maxLen; omega) (by show (j + 1) * 8 ≤ _; omega) (by omega) ?_
          intro A6' c6' w6 ownB qk hown
          have hA6 : ∀ k, (Value.slice A6' (j + 1) c6').ownBlock = some k → (Value.slice A8 j c8).ownBlock = some k ∨ w3.heap.size ≤ k := fun k e => by
            rcases hown with h | h
            · exact .inl (h ▸ e)
            · rw [h] at e; injection e with e; exact .inr (by omega)
          have hne2 : Ap (.slice A5' (j + 1) c5') (.slice A6' (j + 1) c6') := fun k e e2 => by
            have h5 := hlt5 k e
            rcases hown with h | h
            · rw [h] at e2
              rcases hA5 k e with h' | h'
              · exact a78 k h' e2
              · have := hA' k e2; omega
            · rw [h] at e2
              injection e2 with e2
              omega
          have ownA := own_keep ownA qk (fun k e hh => by
            rcases hA5 k e with h' | h'
            · exact a78 k h' hh
            · have := hA' k hh; omega)
          have qd := qd.trans (qk.mono fun k _ h => hMr k h)
          refine ⟨qd, ?_⟩
          refine goH TL_ok 200 rfl ?_
          refine endH ?_
          exact round ⟨(A5', c5', A6', c6'), rfl, qd, ownA, ownB, hne2, hA5, hA6⟩
      · refine F3.segF rfl ?_
        refine goH TL_ok 200 rfl ?_
        refine rowE TL_ok rfl rfl rfl rfl rfl rfl (cs := [I (d.llo)]) rfl ?_
        intro gs w4 hgs hss qk Bs
        try have own := own_no own qk
        try have ownA := own_no ownA qk
        have own' := own_no own' qk
        try have Br := Br.no qk
        have hs0 := qd.size
        have hgsw : w3.heap.size ≤ gs := by omega
        have qd := qd.no qk
        refine ⟨qd, ?_⟩
        refine goH TL_ok 200 rfl ?_
        refine rowE TL_ok rfl rfl rfl rfl rfl rfl (cs := [I (d.slo)]) rfl ?_
        intro gr w4 hgr hsr qk Br
        have own := own_no own qk
        have own' := own_no own' qk
        try have Bs := Bs.no qk
        have hs0 := qd.size
        have hgrw : w3.heap.size ≤ gr := by omega
        have qd := qd.no qk
        refine ⟨qd, ?_⟩
        refine goH TL_ok 200 rfl ?_
        have hs0 := qd.size
        refine appSE TL_ok rfl rfl rfl rfl rfl own (Br.sl (sz := 1) (m := 1) rfl) rfl (by unfold maxLen; omega) (by show (j + 1) * 8 ≤ _; omega) (by omega) ?_
        intro A5' c5' w5 ownA qk hown
        have own' := own_keep own' qk (fun k e hh => a78 k hh e)
        try have Bs := Bs.keep qk (fun e => by have := hA _ e; omega)
        have qd := qd.trans (qk.mono fun k _ h => hMl k h)
        have hA5 : ∀ k, (Value.slice A5' (j + 1) c5').ownBlock = some k → (Value.slice A7 j c7).ownBlock = some k ∨ w3.heap.size ≤ k := fun k e => by
          rcases hown with h | h
          · exact .inl (h ▸ e)
          · rw [h] at e; injection e with e; exact .inr (by omega)
        clear own
        refine ⟨qd, ?_⟩
        refine goH TL_ok 200 rfl ?_
        have hs0 := qd.size
        have hlt5 : ∀ k, (Value.slice A5' (j + 1) c5').ownBlock = some k → k < _ := fun k e => lt_own ownA e
        refine appSE TL_ok rfl rfl rfl rfl rfl own' (Bs.sl (sz := 1) (m := 1) rfl) rfl (by unfold maxLen; omega) (by show (j + 1) * 8 ≤ _; omega) (by omega) ?_
        intro A6' c6' w6 ownB qk hown
        have hA6 : ∀ k, (Value.slice A6' (j + 1) c6').ownBlock = some k → (Value.slice A8 j c8).ownBlock = some k ∨ w3.heap.size ≤ k := fun k e => by
          rcases hown with h | h
          · exact .inl (h ▸ e)
          · rw [h] at e; injection e with e; exact .inr (by omega)
        have hne2 : Ap (.slice A5' (j + 1) c5') (.slice A6' (j + 1) c6') := fun k e e2 => by
          have h5 := hlt5 k e
          rcases hown with h | h
          · rw [h] at e2
            rcases hA5 k e with h' | h'
            · exact a78 k h' e2
            · have := hA' k e2; omega
          · rw [h] at e2
            injection e2 with e2
            omega
        have ownA := own_keep ownA qk (fun k e hh => by
          rcases hA5 k e with h' | h'
          · exact a78 k h' hh
          · have := hA' k hh; omega)
        have qd := qd.trans (qk.mono fun k _ h => hMr k h)
        refine ⟨qd, ?_⟩
        refine goH TL_ok 200 rfl ?_
        refine endH ?_
        exact round ⟨(A5', c5', A6', c6'), rfl, qd, ownA, ownB, hne2, hA5, hA6⟩
    rintro ⟨X7, x7, X8, x8⟩ τ w4 ⟨qM, own7', own8', a78', h7, h8⟩
    simp only at own7' own8' a78' h7 h8
    dsimp only
    have B6 := B6.keep qM (hMb g6 44 _ B6 (by decide))
    have B19 := B19.keep qM (hMb g19 44 _ B19 (by decide))
    have B23 := B23.keep qM (hMb g23 95 _ B23 (by decide))
    have a57 : Ap (.slice X5 (j + 1) x5) (.slice X7 (j + 1) x7) := (a57'.symm.up h7 (fun k e => lt_own own5' e)).symm
    have a58 : Ap (.slice X5 (j + 1) x5) (.slice X8 (j + 1) x8) := (a58'.symm.up h8 (fun k e => lt_own own5' e)).symm
    have a67 : Ap (.slice X6 (j + 1) x6) (.slice X7 (j + 1) x7) := (a67'.symm.up h7 (fun k e => lt_own own6' e)).symm
    have a68 : Ap (.slice X6 (j + 1) x6) (.slice X8 (j + 1) x8) := (a68'.symm.up h8 (fun k e => lt_own own6' e)).symm
    have own5' := own_keep own5' qM (hMo _ a57'.symm a58'.symm)
    have own6' := own_keep own6' qM (hMo _ a67'.symm a68'.symm)
    have own9 := own_keep own9 qM (hMo _ a79 a89)
    have q := q.step qM (fun k hk e => by have := hMg k e; omega)
    clear hMl hMr hMg hMb hMo qM h7 h8 own7 own8
    have B23o := B23
    unfold Bk at B23o
    have hw23 : w0.heap.size ≤ g23 := by omega
    refine go TL_ok 200 rfl ?_
    repeat ((first | refine ldA TL_ok rfl rfl rfl rfl rfl (Bk.all B23) ?_ | refine ld TL_ok rfl rfl rfl rfl (Bk.get B23 rfl) ?_ | refine guardA (b := true) rfl rfl rfl rfl (fun _ => ?_) (fun e => by cases e) | refine guardA (b := false) rfl rfl rfl rfl (fun e => by cases e) (fun _ => ?_) | refine condT rfl rfl ?_ | refine condF rfl rfl ?_); refine go TL_ok 200 rfl ?_)
    rw [w64_id (x := 50 - d.slo) (by omega) (by omega), w64_id (x := d.slo + min sun (50 - d.slo)) (by omega) (by omega)]
    refine stA TL_ok rfl rfl rfl rfl (vs := [I (d.slo + min sun (50 - d.slo)), I 50]) rfl rfl rfl B23 rfl ?_
    intro w5 qk B23 hz
    have B23 : Bk w5 g23 95 [I (d.slo + min sun (50 - d.slo)), I 50, I d.llo, I d.lhi, I d.gas] := B23
    have B6 := B6.keep qk (by omega)
    have B19 := B19.keep qk (by omega)
    have own5' := own_keep own5' qk (fun k e hh => by subst hh; exact no_own4 own5' B23o (by decide) e)
    have own6' := own_keep own6' qk (fun k e hh => by subst hh; exact no_own4 own6' B23o (by decide) e)
    have own7' := own_keep own7' qk (fun k e hh => by subst hh; exact no_own4 own7' B23o (by decide) e)
    have own8' := own_keep own8' qk (fun k e hh => by subst hh; exact no_own4 own8' B23o (by decide) e)
    have own9 := own_keep own9 qk (fun k e hh => hl9 k e hh)
    have q := q.step qk (fun k hk e => by omega)
    clear hz B23o
    have B23o := B23
    unfold Bk at B23o
    refine go TL_ok 200 rfl ?_
    repeat ((first | refine ldA TL_ok rfl rfl rfl rfl rfl (Bk.all B23) ?_ | refine ld TL_ok rfl rfl rfl rfl (Bk.get B23 rfl) ?_ | refine guardA (b := true) rfl rfl rfl rfl (fun _ => ?_) (fun e => by cases e) | refine guardA (b := false) rfl rfl rfl rfl (fun e => by cases e) (fun _ => ?_) | refine condT rfl rfl ?_ | refine condF rfl rfl ?_); refine go TL_ok 200 rfl ?_)
    rw [w64_id (x := 50 - d.llo) (by omega) (by omega), w64_id (x := d.llo + min link (50 - d.llo)) (by omega) (by omega)]
    refine stA TL_ok rfl rfl rfl rfl (vs := [I (d.llo + min link (50 - d.llo)), I 50]) rfl rfl rfl B23 rfl ?_
    intro w5 qk B23 hz
    have B23 : Bk w5 g23 95 [I (d.slo + min sun (50 - d.slo)), I 50, I (d.llo + min link (50 - d.llo)), I 50, I d.gas] := B23
    have B6 := B6.keep qk (by omega)
    have B19 := B19.keep qk (by omega)
    have own5' := own_keep own5' qk (fun k e hh => by subst hh; exact no_own4 own5' B23o (by decide) e)
    have own6' := own_keep own6' qk (fun k e hh => by subst hh; exact no_own4 own6' B23o (by decide) e)
    have own7' := own_keep own7' qk (fun k e hh => by subst hh; exact no_own4 own7' B23o (by decide) e)
    have own8' := own_keep own8' qk (fun k e hh => by subst hh; exact no_own4 own8' B23o (by decide) e)
    have own9 := own_keep own9 qk (fun k e hh => hl9 k e hh)
    have q := q.step qk (fun k hk e => by omega)
    clear hz B23o
    have B23o := B23
    unfold Bk at B23o
    refine go TL_ok 200 rfl ?_
    repeat ((first | refine ldA TL_ok rfl rfl rfl rfl rfl (Bk.all B23) ?_ | refine ld TL_ok rfl rfl rfl rfl (Bk.get B23 rfl) ?_ | refine guardA (b := true) rfl rfl rfl rfl (fun _ => ?_) (fun e => by cases e) | refine guardA (b := false) rfl rfl rfl rfl (fun e => by cases e) (fun _ => ?_) | refine condT rfl rfl ?_ | refine condF rfl rfl ?_); refine go TL_ok 200 rfl ?_)
    rw [w64_id (x := 1000 - d.gas) (by omega) (by omega), w64_id (x := d.gas + min gas (1000 - d.gas)) (by omega) (by omega)]
    refine st TL_ok rfl rfl rfl rfl (v := I (d.gas + min gas (1000 - d.gas))) rfl rfl B23 rfl ?_
    intro w5 qk B23 hz
    have B23 : Bk w5 g23 95 [I (d.slo + min sun (50 - d.slo)), I 50, I (d.llo + min link (50 - d.llo)), I 50, I (d.gas + min gas (1000 - d.gas))] := B23
    have B6 := B6.keep qk (by omega)
    have B19 := B19.keep qk (by omega)
    have own5' := own_keep own5' qk (fun k e hh => by subst hh; exact no_own4 own5' B23o (by decide) e)
    have own6' := own_keep own6' qk (fun k e hh => by subst hh; exact no_own4 own6' B23o (by decide) e)
    have own7' := own_keep own7' qk (fun k e hh => by subst hh; exact no_own4 own7' B23o (by decide) e)
    have own8' := own_keep own8' qk (fun k e hh => by subst hh; exact no_own4 own8' B23o (by decide) e)
    have own9 := own_keep own9 qk (fun k e hh => hl9 k e hh)
    have q := q.step qk (fun k hk e => by omega)
    clear hz B23o
    have B23o := B23
    unfold Bk at B23o
    have B23 : Bk w5 g23 95 (dyL (dayB sun link gas d)) := B23
    refine go TL_ok 200 rfl ?_
    refine ld TL_ok rfl rfl rfl rfl (v := .slice A9 j c9) (Bk.get B19 rfl) ?_
    refine go TL_ok 200 rfl ?_
    refine ldA TL_ok rfl rfl rfl rfl rfl (Bk.all B23) ?_
    refine go TL_ok 200 rfl ?_
    have hg9 : ∀ k, (Value.slice A9 j c9).ownBlock = some k → g19 + 1 ≤ k := fun k e => own_ge own9 e
    have f59 := own_apart own9 own5' (by decide)
    have f69 := own_apart own9 own6' (by decide)
    have f79 := own_apart own9 own7' (by decide)
    have f89 := own_apart own9 own8' (by decide)
    have l19 := B19.lt
    refine app1 TL_ok rfl rfl rfl rfl rfl rfl (cs := dyL (dayB sun link gas d)) rfl rfl rfl rfl (fun _ => rfl) (fun _ => rfl) (fun _ => rfl) own9 (by unfold maxLen; omega) (by show (j + 1) * 40 ≤ _; omega) (by omega) ?_
    intro gx X9 x9 w6 own9' qk hs6 hown
    have B6 := B6.keep qk (fun e => by have := hg9 _ e; omega)
    have B19 := B19.keep qk (fun e => by have := hg9 _ e; omega)
    have own5' := own_keep own5' qk (fun k e hh => f59 k hh e)
    have own6' := own_keep own6' qk (fun k e hh => f69 k hh e)
    have own7' := own_keep own7' qk (fun k e hh => f79 k hh e)
    have own8' := own_keep own8' qk (fun k e hh => f89 k hh e)
    have q := q.step qk (fun k hk e => by have := hg9 _ e; omega)
    refine go TL_ok 200 rfl ?_
    refine st TL_ok rfl rfl rfl rfl (v := .slice X9 (j + 1) x9) rfl rfl B19 rfl ?_
    intro w7 qk B19 hz7
    have B19 : Bk w7 g19 44 (sBL m X9 (j + 1) x9) := B19
    have B6 := B6.keep qk (by omega)
    have own5' := own_keep own5' qk (fun k e hh => by have := own_ge own5' e; omega)
    have own6' := own_keep own6' qk (fun k e hh => by have := own_ge own6' e; omega)
    have own7' := own_keep own7' qk (fun k e hh => by have := own_ge own7' e; omega)
    have own8' := own_keep own8' qk (fun k e hh => by have := own_ge own8' e; omega)
    have own9' := own_keep own9' qk (fun k e hh => by have := own_ge own9' e; omega)
    have q := q.step qk (fun k hk e => by omega)
    have t7 : iL ((m.a.days.take (j + 1)).map (·.slo)) = iL ((m.a.days.take j).map (·.slo)) ++ [I d.slo] := by rw [List.take_add_one, hd]; simp [iL]
    have t8 : iL ((m.a.days.take (j + 1)).map (·.llo)) = iL ((m.a.days.take j).map (·.llo)) ++ [I d.llo] := by rw [List.take_add_one, hd]; simp [iL]
    have t9 : ((m.a.days.take (j + 1)).map (dayB sun link gas)).flatMap dyL = ((m.a.days.take j).map (dayB sun link gas)).flatMap dyL ++ dyL (dayB sun link gas d) := by rw [List.take_add_one, hd]; simp
    have t5 : iL (us ++ [pctN d.slo d.shi a]) = iL us ++ [I (pctN d.slo d.shi a)] := by simp [iL]
    have t6 : iL (ls ++ [pctN d.llo d.lhi b]) = iL ls ++ [I (pctN d.llo d.lhi b)] := by simp [iL]
    refine go TL_ok 200 rfl ?_
    rw [w64_id (x := (j : Int) + 1) (by omega) (by omega)]
    refine round ⟨⟨j + 1, us ++ [pctN d.slo d.shi a], ls ++ [pctN d.llo d.lhi b], X5, x5, X6, x6, X7, x7, X8, x8, X9, x9⟩, rfl, ⟨by simp only; omega, by simp [hul], by simp [hll], ?_, q, B6, B19, ?_, ?_, ?_, ?_, ?_, a56', a57, a58, a67, a68, a78'⟩, by simp only; omega⟩
    · intro i d' s' l' h1 h2 h3
      simp only at h2 h3
      rcases Nat.lt_or_ge i j with h' | h'
      · rw [List.getElem?_append_left (by omega)] at h2 h3
        exact hsl i d' s' l' h1 h2 h3
      · have hi := (List.getElem?_eq_some_iff.1 h2).1
        rw [List.length_append] at hi
        simp at hi
        obtain rfl : i = j := by omega
        rw [hd] at h1
        injection h1 with h1
        subst h1
        rw [List.getElem?_append_right (by omega), hul, Nat.sub_self] at h2
        rw [List.getElem?_append_right (by omega), hll, Nat.sub_self] at h3
        simp at h2 h3
        subst h2
        subst h3
        exact ⟨⟨p3, p4⟩, p7, p8⟩
    · simp only
      rw [t5]; exact own5'
    · simp only
      rw [t6]; exact own6'
    · simp only
      rw [t7]; exact own7'
    · simp only
      rw [t8]; exact own8'
    · simp only
      rw [t9]; exact own9'
  · obtain rfl : j = m.a.days.length := by have : ¬ (j : Int) < (m.a.days.length : Int) := hlt; omega
    rw [List.take_length] at own7 own8 own9
    have hin : DaysIn m.a us ls := ⟨hul, hll, hsl⟩
    have hin2 : DaysIn m.a (m.a.days.map (·.slo)) (m.a.days.map (·.llo)) := ⟨by simp, by simp, fun i d s l h1 h2 h3 => by
      rw [List.getElem?_map, h1] at h2 h3
      injection h2 with h2
      injection h3 with h3
      subst h2
      subst h3
      have hdo := ha.days d (List.mem_of_getElem? h1)
      exact ⟨⟨Int.le_refl _, hdo.s1⟩, Int.le_refl _, hdo.l1⟩⟩
    have S5 : Sl w w.heap.size 1 A5 us.length (iL us) := by rw [hul]; exact own_sl own5
    have S6 : Sl w w.heap.size 1 A6 ls.length (iL ls) := by rw [hll]; exact own_sl own6
    have S7 : Sl w w.heap.size 1 A7 (m.a.days.map (·.slo)).length (iL (m.a.days.map (·.slo))) := by rw [List.length_map]; exact own_sl own7
    have S8 : Sl w w.heap.size 1 A8 (m.a.days.map (·.llo)).length (iL (m.a.days.map (·.llo))) := by rw [List.length_map]; exact own_sl own8
    have HB : SuM w ⟨supB m.a sun link gas, A9, c9⟩ := ⟨by show Sl w _ 5 A9 (m.a.days.map _).length _; rw [List.length_map]; exact own_sl own9, by show (m.a.days.map _).length ≤ _; rw [List.length_map]; omega⟩
    have hsB : suL ⟨supB m.a sun link gas, A9, c9⟩ = sBL m A9 m.a.days.length c9 := by
      show skL m.a.b ++ [I m.a.room, I m.a.store, I m.a.run, I m.a.idle, I m.a.burn, I m.a.dat, .slice A9 (m.a.days.map _).length c9] = _
      rw [List.length_map]; rfl
    have Sp := Sp.no q
    have So := So.no q
    have Hm := Hm.no q
    refine go TL_ok 200 rfl ?_
    repeat ((first | refine ldA TL_ok rfl rfl rfl rfl rfl (Bk.all B6) ?_ | refine ldA TL_ok rfl rfl rfl rfl rfl (Bk.all B19) ?_ | refine ld TL_ok rfl rfl rfl rfl (Bk.get B6 rfl) ?_ | refine ld TL_ok rfl rfl rfl rfl (Bk.get B19 rfl) ?_ | refine guardA (b := true) rfl rfl rfl rfl (fun _ => ?_) (fun e => by cases e) | refine guardA (b := false) rfl rfl rfl rfl (fun e => by cases e) (fun _ => ?_) | refine condT rfl rfl ?_ | refine condF rfl rfl ?_); refine go TL_ok 200 rfl ?_)
    have X := Course_any m o.l us ls o.A A5 A6 o.c c5 c6 _ _ _ w Hm So S5 S6
    rw [hul, hll] at X
    refine call rfl rfl rfl (ok _ (by decide) rfl) (X) ?_
    rintro x w ⟨qk, hC⟩
    have B6 := B6.no qk
    have B19 := B19.no qk
    have So := So.no qk
    have Hm := Hm.no qk
    have S7 := S7.no qk
    have S8 := S8.no qk
    have HB := HB.no qk
    have q := q.trans qk
    obtain ⟨A24, c24, rfl⟩ : ∃ A c, x = .tuple #[.slice A (runC m.a (zipC m.a.days o.l us ls) m.a.b).1.length c, I (dayC (runC m.a (zipC m.a.days o.l us ls) m.a.b)), I 0] := by
      rcases hC with ⟨h, _⟩ | ⟨_, A, c, h, _⟩
      · exact absurd ⟨ha, hL, hin⟩ h
      · exact ⟨A, c, h⟩
    refine go TL_ok 200 rfl ?_
    repeat ((first | refine ldA TL_ok rfl rfl rfl rfl rfl (Bk.all B6) ?_ | refine ldA TL_ok rfl rfl rfl rfl rfl (Bk.all B19) ?_ | refine ld TL_ok rfl rfl rfl rfl (Bk.get B6 rfl) ?_ | refine ld TL_ok rfl rfl rfl rfl (Bk.get B19 rfl) ?_ | refine guardA (b := true) rfl rfl rfl rfl (fun _ => ?_) (fun e => by cases e) | refine guardA (b := false) rfl rfl rfl rfl (fun e => by cases e) (fun _ => ?_) | refine condT rfl rfl ?_ | refine condF rfl rfl ?_); refine go TL_ok 200 rfl ?_)
    have X := Course_any m o.l (m.a.days.map (·.slo)) (m.a.days.map (·.llo)) o.A A7 A8 o.c c7 c8 _ _ _ _ Hm So S7 S8
    rw [List.length_map, List.length_map] at X
    refine call rfl rfl rfl (ok _ (by decide) rfl) (X) ?_
    rintro x w ⟨qk, hC⟩
    have B6 := B6.no qk
    have B19 := B19.no qk
    have So := So.no qk
    have Hm := Hm.no qk
    have S7 := S7.no qk
    have S8 := S8.no qk
    have HB := HB.no qk
    have q := q.trans qk
    obtain ⟨A27, c27, rfl⟩ : ∃ A c, x = .tuple #[.slice A (runC m.a (zipC m.a.days o.l (m.a.days.map (·.slo)) (m.a.days.map (·.llo))) m.a.b).1.length c, I (dayC (runC m.a (zipC m.a.days o.l (m.a.days.map (·.slo)) (m.a.days.map (·.llo))) m.a.b)), I 0] := by
      rcases hC with ⟨h, _⟩ | ⟨_, A, c, h, _⟩
      · exact absurd ⟨ha, hL, hin2⟩ h
      · exact ⟨A, c, h⟩
    have Y := Safe_any ⟨supB m.a sun link gas, A9, c9⟩ o.l o.A o.c _ w HB So
    rw [hsB] at Y
    have haB := supB_ok ha (sun := sun) (link := link) (gas := gas) (by omega) (by omega) (by omega)
    have hLB : o.l.length = (supB m.a sun link gas).days.length := by show _ = (m.a.days.map _).length; rw [List.length_map]; exact hL
    cases hi : is with
    | true =>
      rw [hi] at his
      have h1 := safe_any his.symm hL hin
      have hday : dayC (runC m.a (zipC m.a.days o.l us ls) m.a.b) = -1 := by unfold dayC; rw [h1]; rfl
      have hst := safe_more ha (sun := sun) (link := link) (gas := gas) (by omega) (by omega) (by omega) his.symm
      rw [hday]
      refine go TL_ok 200 rfl ?_
      repeat ((first | refine ldA TL_ok rfl rfl rfl rfl rfl (Bk.all B6) ?_ | refine ldA TL_ok rfl rfl rfl rfl rfl (Bk.all B19) ?_ | refine ld TL_ok rfl rfl rfl rfl (Bk.get B6 rfl) ?_ | refine ld TL_ok rfl rfl rfl rfl (Bk.get B19 rfl) ?_ | refine guardA (b := true) rfl rfl rfl rfl (fun _ => ?_) (fun e => by cases e) | refine guardA (b := false) rfl rfl rfl rfl (fun e => by cases e) (fun _ => ?_) | refine condT rfl rfl ?_ | refine condF rfl rfl ?_); refine go TL_ok 200 rfl ?_)
      refine call rfl rfl rfl (ok _ (by decide) rfl) (Y) ?_
      rintro x w ⟨qk, hS⟩
      have B6 := B6.no qk
      have B19 := B19.no qk
      have So := So.no qk
      have Hm := Hm.no qk
      have S7 := S7.no qk
      have S8 := S8.no qk
      have HB := HB.no qk
      have q := q.trans qk
      obtain rfl : x = .tuple #[.bool true, I 0] := by
        rcases hS with ⟨h, _⟩ | ⟨_, h⟩
        · exact absurd ⟨haB, hLB⟩ h
        · rw [h, hst]
      refine go TL_ok 200 rfl ?_
      repeat ((first | refine ldA TL_ok rfl rfl rfl rfl rfl (Bk.all B6) ?_ | refine ldA TL_ok rfl rfl rfl rfl rfl (Bk.all B19) ?_ | refine ld TL_ok rfl rfl rfl rfl (Bk.get B6 rfl) ?_ | refine ld TL_ok rfl rfl rfl rfl (Bk.get B19 rfl) ?_ | refine guardA (b := true) rfl rfl rfl rfl (fun _ => ?_) (fun e => by cases e) | refine guardA (b := false) rfl rfl rfl rfl (fun e => by cases e) (fun _ => ?_) | refine condT rfl rfl ?_ | refine condF rfl rfl ?_); refine go TL_ok 200 rfl ?_)
      refine call rfl rfl rfl (ok _ (by decide) rfl) (known_any _) ?_
      rintro v wk ⟨rfl, qk⟩
      refine go TL_ok 200 rfl ?_
      exact ret (ret1 (v := .bool true) Try.results12 rfl ⟨rfl, q.trans qk⟩)
    | false =>
      rw [hi] at his
      have h1 := worst_fails his.symm
      refine go TL_ok 200 rfl ?_
      repeat ((first | refine ldA TL_ok rfl rfl rfl rfl rfl (Bk.all B6) ?_ | refine ldA TL_ok rfl rfl rfl rfl rfl (Bk.all B19) ?_ | refine ld TL_ok rfl rfl rfl rfl (Bk.get B6 rfl) ?_ | refine ld TL_ok rfl rfl rfl rfl (Bk.get B19 rfl) ?_ | refine guardA (b := true) rfl rfl rfl rfl (fun _ => ?_) (fun e => by cases e) | refine guardA (b := false) rfl rfl rfl rfl (fun e => by cases e) (fun _ => ?_) | refine condT rfl rfl ?_ | refine condF rfl rfl ?_); refine go TL_ok 200 rfl ?_)
      rw [decide_eq_false (show ¬ dayC (runC m.a (zipC m.a.days o.l (m.a.days.map (·.slo)) (m.a.days.map (·.llo))) m.a.b) < 0 by omega)]
      refine go TL_ok 200 rfl ?_
      repeat ((first | refine ldA TL_ok rfl rfl rfl rfl rfl (Bk.all B6) ?_ | refine ldA TL_ok rfl rfl rfl rfl rfl (Bk.all B19) ?_ | refine ld TL_ok rfl rfl rfl rfl (Bk.get B6 rfl) ?_ | refine ld TL_ok rfl rfl rfl rfl (Bk.get B19 rfl) ?_ | refine guardA (b := true) rfl rfl rfl rfl (fun _ => ?_) (fun e => by cases e) | refine guardA (b := false) rfl rfl rfl rfl (fun e => by cases e) (fun _ => ?_) | refine condT rfl rfl ?_ | refine condF rfl rfl ?_); refine go TL_ok 200 rfl ?_)
      refine call rfl rfl rfl (ok _ (by decide) rfl) (Y) ?_
      rintro x w ⟨qk, hS⟩
      have B6 := B6.no qk
      have B19 := B19.no qk
      have So := So.no qk
      have Hm := Hm.no qk
      have S7 := S7.no qk
      have S8 := S8.no qk
      have HB := HB.no qk
      have q := q.trans qk
      obtain ⟨bb, rfl⟩ : ∃ b, x = .tuple #[.bool b, I 0] := by
        rcases hS with ⟨h, _⟩ | ⟨_, h⟩
        · exact absurd ⟨haB, hLB⟩ h
        · exact ⟨_, h⟩
      refine go TL_ok 200 rfl ?_
      repeat ((first | refine ldA TL_ok rfl rfl rfl rfl rfl (Bk.all B6) ?_ | refine ldA TL_ok rfl rfl rfl rfl rfl (Bk.all B19) ?_ | refine ld TL_ok rfl rfl rfl rfl (Bk.get B6 rfl) ?_ | refine ld TL_ok rfl rfl rfl rfl (Bk.get B19 rfl) ?_ | refine guardA (b := true) rfl rfl rfl rfl (fun _ => ?_) (fun e => by cases e) | refine guardA (b := false) rfl rfl rfl rfl (fun e => by cases e) (fun _ => ?_) | refine condT rfl rfl ?_ | refine condF rfl rfl ?_); refine go TL_ok 200 rfl ?_)
      refine call rfl rfl rfl (ok _ (by decide) rfl) (known_any _) ?_
      rintro v wk ⟨rfl, qk⟩
      refine go TL_ok 200 rfl ?_
      exact ret (ret1 (v := .bool true) Try.results12 rfl ⟨rfl, q.trans qk⟩)
end Go.Proofs.Yteenhfnamjbaiaa
