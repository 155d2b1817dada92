/- The contracts of courses: the specification's and the program's. -/
import Derived.Test.YteenhfnamjbaiaaR2
namespace Go.Proofs.Yteenhfnamjbaiaa
open Go.Ev Go.Proofs
open Go.Camp (Stk Sup SupOk DyOk okN nextN safeN runs sooner rawN fineN capN runC dayC least)
attribute [local irreducible] At AtH
def TL : Tab := [(96, .slc 41 3 24), (97, .one), (106, .one), (175, .one), (137, .one)] ++ TK
theorem TL_ok : tabOk Try.prog TL = true := by kernel_rfl
set_option maxRecDepth 20000 in
set_option maxHeartbeats 8000000 in
theorem rNext_any (m : Sm) (x : Stk) (day : Nat) (d : Go.Camp.Dy) (run : Bool) (sun link : Int) (w0 : World) (H : SuM w0 m) (ha : SupOk m.a) (hd : m.a.days[day]? = some d) (hx : StB x) (s0 : 0 ≤ sun) (s1 : sun ≤ 50) (l0 : 0 ≤ link) (l1 : link ≤ 50) :
  Ret Try.prog 99 [.agg (suL m).toArray, .agg (skL x).toArray, I (day : Int), .bool run, I sun, I link] w0 fun v w' => v = .tuple #[.agg (skL (if okN m.a d x run sun link then nextN m.a d x run sun link else ⟨0, 0, 0⟩)).toArray, .bool (okN m.a d x run sun link)] ∧ Chg No w0 w' := by
 have hday := (List.getElem?_eq_some_iff.1 hd).1
 have hdo := ha.days d (List.mem_of_getElem? hd)
 have d7 := hdo.g0; have d8 := hdo.g1
 have a1 := ha.r0; have a2 := ha.r1; have a3 := ha.i0; have a4 := ha.i1; have a5 := ha.u1; have a6 := ha.b0; have a7 := ha.b1; have a8 := ha.a0; have a9 := ha.a1
 have x1 := hx.c0; have x2 := hx.c1; have x3 := hx.g0; have x4 := hx.g1; have x5 := hx.d0; have x6 := hx.d1
 refine enter Try.func99 rfl Try.ntmps99 rfl ?_
 refine go TL_ok 200 rfl ?_
 refine bx rfl rfl rfl (cs := suL m) rfl ?_
 intro g6 u6 hg6 hs6 q6 B6
 refine go TL_ok 200 rfl ?_
 refine bx rfl rfl rfl (cs := skL x) rfl ?_
 intro g7 w hg7 hs7 qk B7
 have B6 := B6.no qk
 have q := q6.trans qk
 refine go TL_ok 200 rfl ?_
 refine nw rfl rfl (z := .agg #[I 0, I 0, I 0]) (by kernel_rfl) (cs := [I 0, I 0, I 0]) rfl ?_
 intro g12 w hg12 hs12 qk B12
 have B6 := B6.no qk
 have B7 := B7.no qk
 have q := q.trans qk
 have hlq : w0.heap.size ≤ g7 := by have := q6.size; omega
 have l6 := B6.lt
 have u67 : g6 < g7 := by omega
 have u7 : g7 < g12 := by omega
 obtain ⟨b1, o1, hA1, hb1, hc1⟩ := Sl.el (H.no q).sl dyL_len hd
 refine go TL_ok 200 rfl ?_
 refine draw mixed (fun w' => Chg No w w') ([0,1,2,3,4,5,6,7,8,9].map (fun i => (i, true)) ++ [(10, false)]) rfl (by kernel_rfl) (Chg.drew _) ?_
 refine goH TL_ok 200 rfl ?_
 repeat (first | (refine quietH rfl (fun w' hS => r_load TL_ok rfl rfl rfl (Bk.get (B6.no hS) rfl)) ?_; refine goH TL_ok 200 rfl ?_) | (refine quietH rfl (fun w' hS => r_load TL_ok rfl rfl rfl (Bk.get (B7.no hS) rfl)) ?_; refine goH TL_ok 200 rfl ?_))
 rw [hA1]
 refine quietH rfl (fun w' hS => r_idx TL_ok rfl rfl rfl rfl day rfl hday) ?_
 refine goH TL_ok 200 rfl ?_
 refine quietH rfl (fun w' hS => r_load TL_ok rfl rfl rfl ((hS.cell (a := ⟨b1, o1 + day * 5 + 4, none⟩) hb1 (fun h => h)).trans (hc1.get (i := 4) rfl))) ?_
 rw [← hA1]
 refine goH TL_ok 200 rfl ?_
 rw [w64_id (x := x.gas + d.gas) (by omega) (by omega)]
 refine storeL TL_ok rfl rfl rfl rfl (v := I (x.gas + d.gas)) rfl rfl (B7.no (Chg.drew _)) rfl (by kernel_rfl) ?_
 intro w2 qk B7 hz
 have qk := ((Chg.drew w).mono fun _ _ h => h.elim).trans qk
 have B7 : Bk w2 g7 41 [I x.ch, I (x.gas + d.gas), I x.dat] := B7
 have B6 := B6.keep qk (by omega)
 have B12 := B12.keep qk (by omega)
 have q := q.step qk (fun k hk e => by omega)
 clear hz
 refine endH ?_
 cases run with
 | true =>
  refine go TL_ok 200 rfl ?_
  repeat ((first | refine ldA TL_ok rfl rfl rfl rfl rfl (Bk.all B6) ?_ | refine ldA TL_ok rfl rfl rfl rfl rfl (Bk.all B7) ?_ | refine ld TL_ok rfl rfl rfl rfl (Bk.get B6 rfl) ?_ | refine ld TL_ok rfl rfl rfl rfl (Bk.get B7 rfl) ?_ | refine gT rfl rfl rfl rfl ?_ | refine gF rfl rfl rfl rfl ?_ | refine condT rfl rfl ?_ | refine condF rfl rfl ?_); refine go TL_ok 200 rfl ?_)
  rw [w64_id (x := x.gas + d.gas - m.a.burn) (by omega) (by omega)]
  refine st TL_ok rfl rfl rfl rfl (v := I ((x.gas + d.gas - m.a.burn))) rfl rfl B7 rfl ?_
  intro w2 qk B7 hz
  have B7 : Bk w2 g7 41 [I x.ch, I (x.gas + d.gas - m.a.burn), I x.dat] := B7
  have B6 := B6.keep qk (by omega)
  have B12 := B12.keep qk (by omega)
  have q := q.step qk (fun k hk e => by omega)
  clear hz
  refine go TL_ok 200 rfl ?_
  repeat ((first | refine ldA TL_ok rfl rfl rfl rfl rfl (Bk.all B6) ?_ | refine ldA TL_ok rfl rfl rfl rfl rfl (Bk.all B7) ?_ | refine ld TL_ok rfl rfl rfl rfl (Bk.get B6 rfl) ?_ | refine ld TL_ok rfl rfl rfl rfl (Bk.get B7 rfl) ?_ | refine gT rfl rfl rfl rfl ?_ | refine gF rfl rfl rfl rfl ?_ | refine condT rfl rfl ?_ | refine condF rfl rfl ?_); refine go TL_ok 200 rfl ?_)
  rw [w64_id (x := x.dat + m.a.dat) (by omega) (by omega)]
  refine st TL_ok rfl rfl rfl rfl (v := I ((x.dat + m.a.dat))) rfl rfl B7 rfl ?_
  intro w2 qk B7 hz
  have B7 : Bk w2 g7 41 [I x.ch, I (x.gas + d.gas - m.a.burn), I (x.dat + m.a.dat)] := B7
  have B6 := B6.keep qk (by omega)
  have B12 := B12.keep qk (by omega)
  have q := q.step qk (fun k hk e => by omega)
  clear hz
  refine go TL_ok 200 rfl ?_
  repeat ((first | refine ldA TL_ok rfl rfl rfl rfl rfl (Bk.all B6) ?_ | refine ldA TL_ok rfl rfl rfl rfl rfl (Bk.all B7) ?_ | refine ld TL_ok rfl rfl rfl rfl (Bk.get B6 rfl) ?_ | refine ld TL_ok rfl rfl rfl rfl (Bk.get B7 rfl) ?_ | refine gT rfl rfl rfl rfl ?_ | refine gF rfl rfl rfl rfl ?_ | refine condT rfl rfl ?_ | refine condF rfl rfl ?_); refine go TL_ok 200 rfl ?_)
  obtain ⟨C, hC⟩ : ∃ C, C = x.ch + sun - m.a.run := ⟨_, rfl⟩
  obtain ⟨G, hG⟩ : ∃ G, G = (x.gas + d.gas - m.a.burn) := ⟨_, rfl⟩
  obtain ⟨D0, hD0⟩ : ∃ D, D = (x.dat + m.a.dat) - link := ⟨_, rfl⟩
  obtain ⟨D, hD⟩ : ∃ D, D = max 0 D0 := ⟨_, rfl⟩
  rw [w64_id (x := x.ch + sun) (by omega) (by omega), w64_id (x := x.ch + sun - m.a.run) (by omega) (by omega), ← hC]
  refine st TL_ok rfl rfl rfl rfl (v := I (C)) rfl rfl B7 rfl ?_
  intro w2 qk B7 hz
  have B7 : Bk w2 g7 41 [I C, I ((x.gas + d.gas - m.a.burn)), I ((x.dat + m.a.dat))] := B7
  have B6 := B6.keep qk (by omega)
  have B12 := B12.keep qk (by omega)
  have q := q.step qk (fun k hk e => by omega)
  clear hz
  refine go TL_ok 200 rfl ?_
  repeat ((first | refine ldA TL_ok rfl rfl rfl rfl rfl (Bk.all B6) ?_ | refine ldA TL_ok rfl rfl rfl rfl rfl (Bk.all B7) ?_ | refine ld TL_ok rfl rfl rfl rfl (Bk.get B6 rfl) ?_ | refine ld TL_ok rfl rfl rfl rfl (Bk.get B7 rfl) ?_ | refine gT rfl rfl rfl rfl ?_ | refine gF rfl rfl rfl rfl ?_ | refine condT rfl rfl ?_ | refine condF rfl rfl ?_); refine go TL_ok 200 rfl ?_)
  rw [w64_id (x := (x.dat + m.a.dat) - link) (by omega) (by omega), ← hD0, ← hD]
  refine st TL_ok rfl rfl rfl rfl (v := I (D)) rfl rfl B7 rfl ?_
  intro w2 qk B7 hz
  have B7 : Bk w2 g7 41 [I C, I ((x.gas + d.gas - m.a.burn)), I D] := B7
  have B6 := B6.keep qk (by omega)
  have B12 := B12.keep qk (by omega)
  have q := q.step qk (fun k hk e => by omega)
  clear hz
  refine go TL_ok 200 rfl ?_
  repeat ((first | refine ldA TL_ok rfl rfl rfl rfl rfl (Bk.all B6) ?_ | refine ldA TL_ok rfl rfl rfl rfl rfl (Bk.all B7) ?_ | refine ld TL_ok rfl rfl rfl rfl (Bk.get B6 rfl) ?_ | refine ld TL_ok rfl rfl rfl rfl (Bk.get B7 rfl) ?_ | refine gT rfl rfl rfl rfl ?_ | refine gF rfl rfl rfl rfl ?_ | refine condT rfl rfl ?_ | refine condF rfl rfl ?_); refine go TL_ok 200 rfl ?_)
  have e1 : rawN m.a d x true sun link = ⟨C, G, D⟩ := by
   unfold rawN
   rw [hC, hG, hD, hD0]
   try simp only [if_true]
   try simp only [if_false, Bool.false_eq_true]
   congr 1 <;> omega
  have hok : okN m.a d x true sun link = (decide (0 ≤ C) && (decide (0 ≤ G) && decide (D ≤ m.a.store))) := by
   show fineN m.a (rawN m.a d x true sun link) = _
   rw [e1]
   rfl
  have hnx : nextN m.a d x true sun link = ⟨min m.a.room C, G, D⟩ := by
   show capN m.a (rawN m.a d x true sun link) = _
   rw [e1]
   rfl
  rw [← hG] at B7
  rw [hok, hnx]
  by_cases h1 : C < 0
  case pos =>
   rw [decide_eq_true h1, decide_eq_false (show ¬ 0 ≤ C by omega), Bool.false_and]
   refine go TL_ok 200 rfl ?_
   repeat ((first | refine ldA TL_ok rfl rfl rfl rfl rfl (Bk.all B6) ?_ | refine ldA TL_ok rfl rfl rfl rfl rfl (Bk.all B7) ?_ | refine ld TL_ok rfl rfl rfl rfl (Bk.get B6 rfl) ?_ | refine ld TL_ok rfl rfl rfl rfl (Bk.get B7 rfl) ?_ | refine gT rfl rfl rfl rfl ?_ | refine gF rfl rfl rfl rfl ?_ | refine condT rfl rfl ?_ | refine condF rfl rfl ?_); refine go TL_ok 200 rfl ?_)
   refine stA TL_ok rfl rfl rfl rfl (vs := [I 0, I 0, I 0]) rfl rfl rfl B12 rfl ?_
   intro w3 qk B12 hz
   have B12 : Bk w3 g12 41 (skL ⟨0, 0, 0⟩) := B12
   refine go TL_ok 200 rfl ?_
   exact ret (retR2 Try.results99 (resA TL_ok rfl rfl rfl B12.all) (s := .tmp 13) (x := .bool false) rfl ⟨rfl, q.step qk (fun k hk e => by omega)⟩)
  rw [decide_eq_false h1, decide_eq_true (show 0 ≤ C by omega), Bool.true_and]
  refine go TL_ok 200 rfl ?_
  repeat ((first | refine ldA TL_ok rfl rfl rfl rfl rfl (Bk.all B6) ?_ | refine ldA TL_ok rfl rfl rfl rfl rfl (Bk.all B7) ?_ | refine ld TL_ok rfl rfl rfl rfl (Bk.get B6 rfl) ?_ | refine ld TL_ok rfl rfl rfl rfl (Bk.get B7 rfl) ?_ | refine gT rfl rfl rfl rfl ?_ | refine gF rfl rfl rfl rfl ?_ | refine condT rfl rfl ?_ | refine condF rfl rfl ?_); refine go TL_ok 200 rfl ?_)
  by_cases h2 : G < 0
  case pos =>
   rw [decide_eq_true h2, decide_eq_false (show ¬ 0 ≤ G by omega), Bool.false_and]
   refine go TL_ok 200 rfl ?_
   repeat ((first | refine ldA TL_ok rfl rfl rfl rfl rfl (Bk.all B6) ?_ | refine ldA TL_ok rfl rfl rfl rfl rfl (Bk.all B7) ?_ | refine ld TL_ok rfl rfl rfl rfl (Bk.get B6 rfl) ?_ | refine ld TL_ok rfl rfl rfl rfl (Bk.get B7 rfl) ?_ | refine gT rfl rfl rfl rfl ?_ | refine gF rfl rfl rfl rfl ?_ | refine condT rfl rfl ?_ | refine condF rfl rfl ?_); refine go TL_ok 200 rfl ?_)
   refine stA TL_ok rfl rfl rfl rfl (vs := [I 0, I 0, I 0]) rfl rfl rfl B12 rfl ?_
   intro w3 qk B12 hz
   have B12 : Bk w3 g12 41 (skL ⟨0, 0, 0⟩) := B12
   refine go TL_ok 200 rfl ?_
   exact ret (retR2 Try.results99 (resA TL_ok rfl rfl rfl B12.all) (s := .tmp 13) (x := .bool false) rfl ⟨rfl, q.step qk (fun k hk e => by omega)⟩)
  rw [decide_eq_false h2, decide_eq_true (show 0 ≤ G by omega), Bool.true_and]
  refine go TL_ok 200 rfl ?_
  repeat ((first | refine ldA TL_ok rfl rfl rfl rfl rfl (Bk.all B6) ?_ | refine ldA TL_ok rfl rfl rfl rfl rfl (Bk.all B7) ?_ | refine ld TL_ok rfl rfl rfl rfl (Bk.get B6 rfl) ?_ | refine ld TL_ok rfl rfl rfl rfl (Bk.get B7 rfl) ?_ | refine gT rfl rfl rfl rfl ?_ | refine gF rfl rfl rfl rfl ?_ | refine condT rfl rfl ?_ | refine condF rfl rfl ?_); refine go TL_ok 200 rfl ?_)
  by_cases h3 : m.a.store < D
  case pos =>
   rw [decide_eq_true h3, decide_eq_false (show ¬ D ≤ m.a.store by omega)]
   refine go TL_ok 200 rfl ?_
   repeat ((first | refine ldA TL_ok rfl rfl rfl rfl rfl (Bk.all B6) ?_ | refine ldA TL_ok rfl rfl rfl rfl rfl (Bk.all B7) ?_ | refine ld TL_ok rfl rfl rfl rfl (Bk.get B6 rfl) ?_ | refine ld TL_ok rfl rfl rfl rfl (Bk.get B7 rfl) ?_ | refine gT rfl rfl rfl rfl ?_ | refine gF rfl rfl rfl rfl ?_ | refine condT rfl rfl ?_ | refine condF rfl rfl ?_); refine go TL_ok 200 rfl ?_)
   refine stA TL_ok rfl rfl rfl rfl (vs := [I 0, I 0, I 0]) rfl rfl rfl B12 rfl ?_
   intro w3 qk B12 hz
   have B12 : Bk w3 g12 41 (skL ⟨0, 0, 0⟩) := B12
   refine go TL_ok 200 rfl ?_
   exact ret (retR2 Try.results99 (resA TL_ok rfl rfl rfl B12.all) (s := .tmp 13) (x := .bool false) rfl ⟨rfl, q.step qk (fun k hk e => by omega)⟩)
  rw [decide_eq_false h3, decide_eq_true (show D ≤ m.a.store by omega)]
  refine go TL_ok 200 rfl ?_
  repeat ((first | refine ldA TL_ok rfl rfl rfl rfl rfl (Bk.all B6) ?_ | refine ldA TL_ok rfl rfl rfl rfl rfl (Bk.all B7) ?_ | refine ld TL_ok rfl rfl rfl rfl (Bk.get B6 rfl) ?_ | refine ld TL_ok rfl rfl rfl rfl (Bk.get B7 rfl) ?_ | refine gT rfl rfl rfl rfl ?_ | refine gF rfl rfl rfl rfl ?_ | refine condT rfl rfl ?_ | refine condF rfl rfl ?_); refine go TL_ok 200 rfl ?_)
  refine st TL_ok rfl rfl rfl rfl (v := I ((min m.a.room C))) rfl rfl B7 rfl ?_
  intro w2 qk B7 hz
  have B7 : Bk w2 g7 41 [I (min m.a.room C), I G, I D] := B7
  have B6 := B6.keep qk (by omega)
  have B12 := B12.keep qk (by omega)
  have q := q.step qk (fun k hk e => by omega)
  clear hz
  refine go TL_ok 200 rfl ?_
  repeat ((first | refine ldA TL_ok rfl rfl rfl rfl rfl (Bk.all B6) ?_ | refine ldA TL_ok rfl rfl rfl rfl rfl (Bk.all B7) ?_ | refine ld TL_ok rfl rfl rfl rfl (Bk.get B6 rfl) ?_ | refine ld TL_ok rfl rfl rfl rfl (Bk.get B7 rfl) ?_ | refine gT rfl rfl rfl rfl ?_ | refine gF rfl rfl rfl rfl ?_ | refine condT rfl rfl ?_ | refine condF rfl rfl ?_); refine go TL_ok 200 rfl ?_)
  refine stA TL_ok rfl rfl rfl rfl (vs := skL ⟨min m.a.room C, G, D⟩) rfl rfl rfl B12 rfl ?_
  intro w3 qk B12 hz
  have B12 : Bk w3 g12 41 (skL ⟨min m.a.room C, G, D⟩) := B12
  refine go TL_ok 200 rfl ?_
  exact ret (retR2 Try.results99 (resA TL_ok rfl rfl rfl B12.all) (s := .tmp 13) (x := .bool true) rfl ⟨rfl, q.step qk (fun k hk e => by omega)⟩)
 | false =>
  refine go TL_ok 200 rfl ?_
  repeat ((first | refine ldA TL_ok rfl rfl rfl rfl rfl (Bk.all B6) ?_ | refine ldA TL_ok rfl rfl rfl rfl rfl (Bk.all B7) ?_ | refine ld TL_ok rfl rfl rfl rfl (Bk.get B6 rfl) ?_ | refine ld TL_ok rfl rfl rfl rfl (Bk.get B7 rfl) ?_ | refine gT rfl rfl rfl rfl ?_ | refine gF rfl rfl rfl rfl ?_ | refine condT rfl rfl ?_ | refine condF rfl rfl ?_); refine go TL_ok 200 rfl ?_)
  obtain ⟨C, hC⟩ : ∃ C, C = x.ch + sun - m.a.idle := ⟨_, rfl⟩
  obtain ⟨G, hG⟩ : ∃ G, G = (x.gas + d.gas) := ⟨_, rfl⟩
  obtain ⟨D0, hD0⟩ : ∃ D, D = (x.dat) - link := ⟨_, rfl⟩
  obtain ⟨D, hD⟩ : ∃ D, D = max 0 D0 := ⟨_, rfl⟩
  rw [w64_id (x := x.ch + sun) (by omega) (by omega), w64_id (x := x.ch + sun - m.a.idle) (by omega) (by omega), ← hC]
  refine st TL_ok rfl rfl rfl rfl (v := I (C)) rfl rfl B7 rfl ?_
  intro w2 qk B7 hz
  have B7 : Bk w2 g7 41 [I C, I ((x.gas + d.gas)), I ((x.dat))] := B7
  have B6 := B6.keep qk (by omega)
  have B12 := B12.keep qk (by omega)
  have q := q.step qk (fun k hk e => by omega)
  clear hz
  refine go TL_ok 200 rfl ?_
  repeat ((first | refine ldA TL_ok rfl rfl rfl rfl rfl (Bk.all B6) ?_ | refine ldA TL_ok rfl rfl rfl rfl rfl (Bk.all B7) ?_ | refine ld TL_ok rfl rfl rfl rfl (Bk.get B6 rfl) ?_ | refine ld TL_ok rfl rfl rfl rfl (Bk.get B7 rfl) ?_ | refine gT rfl rfl rfl rfl ?_ | refine gF rfl rfl rfl rfl ?_ | refine condT rfl rfl ?_ | refine condF rfl rfl ?_); refine go TL_ok 200 rfl ?_)
  rw [w64_id (x := (x.dat) - link) (by omega) (by omega), ← hD0, ← hD]
  refine st TL_ok rfl rfl rfl rfl (v := I (D)) rfl rfl B7 rfl ?_
  intro w2 qk B7 hz
  have B7 : Bk w2 g7 41 [I C, I ((x.gas + d.gas)), I D] := B7
  have B6 := B6.keep qk (by omega)
  have B12 := B12.keep qk (by omega)
  have q := q.step qk (fun k hk e => by omega)
  clear hz
  refine go TL_ok 200 rfl ?_
  repeat ((first | refine ldA TL_ok rfl rfl rfl rfl rfl (Bk.all B6) ?_ | refine ldA TL_ok rfl rfl rfl rfl rfl (Bk.all B7) ?_ | refine ld TL_ok rfl rfl rfl rfl (Bk.get B6 rfl) ?_ | refine ld TL_ok rfl rfl rfl rfl (Bk.get B7 rfl) ?_ | refine gT rfl rfl rfl rfl ?_ | refine gF rfl rfl rfl rfl ?_ | refine condT rfl rfl ?_ | refine condF rfl rfl ?_); refine go TL_ok 200 rfl ?_)
  have e1 : rawN m.a d x false sun link = ⟨C, G, D⟩ := by
   unfold rawN
   rw [hC, hG, hD, hD0]
   try simp only [if_true]
   try simp only [if_false, Bool.false_eq_true]
   congr 1 <;> omega
  have hok : okN m.a d x false sun link = (decide (0 ≤ C) && (decide (0 ≤ G) && decide (D ≤ m.a.store))) := by
   show fineN m.a (rawN m.a d x false sun link) = _
   rw [e1]
   rfl
  have hnx : nextN m.a d x false sun link = ⟨min m.a.room C, G, D⟩ := by
   show capN m.a (rawN m.a d x false sun link) = _
   rw [e1]
   rfl
  rw [← hG] at B7
  rw [hok, hnx]
  by_cases h1 : C < 0
  case pos =>
   rw [decide_eq_true h1, decide_eq_false (show ¬ 0 ≤ C by omega), Bool.false_and]
   refine go TL_ok 200 rfl ?_
   repeat ((first | refine ldA TL_ok rfl rfl rfl rfl rfl (Bk.all B6) ?_ | refine ldA TL_ok rfl rfl rfl rfl rfl (Bk.all B7) ?_ | refine ld TL_ok rfl rfl rfl rfl (Bk.get B6 rfl) ?_ | refine ld TL_ok rfl rfl rfl rfl (Bk.get B7 rfl) ?_ | refine gT rfl rfl rfl rfl ?_ | refine gF rfl rfl rfl rfl ?_ | refine condT rfl rfl ?_ | refine condF rfl rfl ?_); refine go TL_ok 200 rfl ?_)
   refine stA TL_ok rfl rfl rfl rfl (vs := [I 0, I 0, I 0]) rfl rfl rfl B12 rfl ?_
   intro w3 qk B12 hz
   have B12 : Bk w3 g12 41 (skL ⟨0, 0, 0⟩) := B12
   refine go TL_ok 200 rfl ?_
   exact ret (retR2 Try.results99 (resA TL_ok rfl rfl rfl B12.all) (s := .tmp 13) (x := .bool false) rfl ⟨rfl, q.step qk (fun k hk e => by omega)⟩)
  rw [decide_eq_false h1, decide_eq_true (show 0 ≤ C by omega), Bool.true_and]
  refine go TL_ok 200 rfl ?_
  repeat ((first | refine ldA TL_ok rfl rfl rfl rfl rfl (Bk.all B6) ?_ | refine ldA TL_ok rfl rfl rfl rfl rfl (Bk.all B7) ?_ | refine ld TL_ok rfl rfl rfl rfl (Bk.get B6 rfl) ?_ | refine ld TL_ok rfl rfl rfl rfl (Bk.get B7 rfl) ?_ | refine gT rfl rfl rfl rfl ?_ | refine gF rfl rfl rfl rfl ?_ | refine condT rfl rfl ?_ | refine condF rfl rfl ?_); refine go TL_ok 200 rfl ?_)
  by_cases h2 : G < 0
  case pos =>
   rw [decide_eq_true h2, decide_eq_false (show ¬ 0 ≤ G by omega), Bool.false_and]
   refine go TL_ok 200 rfl ?_
   repeat ((first | refine ldA TL_ok rfl rfl rfl rfl rfl (Bk.all B6) ?_ | refine ldA TL_ok rfl rfl rfl rfl rfl (Bk.all B7) ?_ | refine ld TL_ok rfl rfl rfl rfl (Bk.get B6 rfl) ?_ | refine ld TL_ok rfl rfl rfl rfl (Bk.get B7 rfl) ?_ | refine gT rfl rfl rfl rfl ?_ | refine gF rfl rfl rfl rfl ?_ | refine condT rfl rfl ?_ | refine condF rfl rfl ?_); refine go TL_ok 200 rfl ?_)
   refine stA TL_ok rfl rfl rfl rfl (vs := [I 0, I 0, I 0]) rfl rfl rfl B12 rfl ?_
   intro w3 qk B12 hz
   have B12 : Bk w3 g12 41 (skL ⟨0, 0, 0⟩) := B12
   refine go TL_ok 200 rfl ?_
   exact ret (retR2 Try.results99 (resA TL_ok rfl rfl rfl B12.all) (s := .tmp 13) (x := .bool false) rfl ⟨rfl, q.step qk (fun k hk e => by omega)⟩)
  rw [decide_eq_false h2, decide_eq_true (show 0 ≤ G by omega), Bool.true_and]
  refine go TL_ok 200 rfl ?_
  repeat ((first | refine ldA TL_ok rfl rfl rfl rfl rfl (Bk.all B6) ?_ | refine ldA TL_ok rfl rfl rfl rfl rfl (Bk.all B7) ?_ | refine ld TL_ok rfl rfl rfl rfl (Bk.get B6 rfl) ?_ | refine ld TL_ok rfl rfl rfl rfl (Bk.get B7 rfl) ?_ | refine gT rfl rfl rfl rfl ?_ | refine gF rfl rfl rfl rfl ?_ | refine condT rfl rfl ?_ | refine condF rfl rfl ?_); refine go TL_ok 200 rfl ?_)
  by_cases h3 : m.a.store < D
  case pos =>
   rw [decide_eq_true h3, decide_eq_false (show ¬ D ≤ m.a.store by omega)]
   refine go TL_ok 200 rfl ?_
   repeat ((first | refine ldA TL_ok rfl rfl rfl rfl rfl (Bk.all B6) ?_ | refine ldA TL_ok rfl rfl rfl rfl rfl (Bk.all B7) ?_ | refine ld TL_ok rfl rfl rfl rfl (Bk.get B6 rfl) ?_ | refine ld TL_ok rfl rfl rfl rfl (Bk.get B7 rfl) ?_ | refine gT rfl rfl rfl rfl ?_ | refine gF rfl rfl rfl rfl ?_ | refine condT rfl rfl ?_ | refine condF rfl rfl ?_); refine go TL_ok 200 rfl ?_)
   refine stA TL_ok rfl rfl rfl rfl (vs := [I 0, I 0, I 0]) rfl rfl rfl B12 rfl ?_
   intro w3 qk B12 hz
   have B12 : Bk w3 g12 41 (skL ⟨0, 0, 0⟩) := B12
   refine go TL_ok 200 rfl ?_
   exact ret (retR2 Try.results99 (resA TL_ok rfl rfl rfl B12.all) (s := .tmp 13) (x := .bool false) rfl ⟨rfl, q.step qk (fun k hk e => by omega)⟩)
  rw [decide_eq_false h3, decide_eq_true (show D ≤ m.a.store by omega)]
  refine go TL_ok 200 rfl ?_
  repeat ((first | refine ldA TL_ok rfl rfl rfl rfl rfl (Bk.all B6) ?_ | refine ldA TL_ok rfl rfl rfl rfl rfl (Bk.all B7) ?_ | refine ld TL_ok rfl rfl rfl rfl (Bk.get B6 rfl) ?_ | refine ld TL_ok rfl rfl rfl rfl (Bk.get B7 rfl) ?_ | refine gT rfl rfl rfl rfl ?_ | refine gF rfl rfl rfl rfl ?_ | refine condT rfl rfl ?_ | refine condF rfl rfl ?_); refine go TL_ok 200 rfl ?_)
  refine st TL_ok rfl rfl rfl rfl (v := I ((min m.a.room C))) rfl rfl B7 rfl ?_
  intro w2 qk B7 hz
  have B7 : Bk w2 g7 41 [I (min m.a.room C), I G, I D] := B7
  have B6 := B6.keep qk (by omega)
  have B12 := B12.keep qk (by omega)
  have q := q.step qk (fun k hk e => by omega)
  clear hz
  refine go TL_ok 200 rfl ?_
  repeat ((first | refine ldA TL_ok rfl rfl rfl rfl rfl (Bk.all B6) ?_ | refine ldA TL_ok rfl rfl rfl rfl rfl (Bk.all B7) ?_ | refine ld TL_ok rfl rfl rfl rfl (Bk.get B6 rfl) ?_ | refine ld TL_ok rfl rfl rfl rfl (Bk.get B7 rfl) ?_ | refine gT rfl rfl rfl rfl ?_ | refine gF rfl rfl rfl rfl ?_ | refine condT rfl rfl ?_ | refine condF rfl rfl ?_); refine go TL_ok 200 rfl ?_)
  refine stA TL_ok rfl rfl rfl rfl (vs := skL ⟨min m.a.room C, G, D⟩) rfl rfl rfl B12 rfl ?_
  intro w3 qk B12 hz
  have B12 : Bk w3 g12 41 (skL ⟨min m.a.room C, G, D⟩) := B12
  refine go TL_ok 200 rfl ?_
  exact ret (retR2 Try.results99 (resA TL_ok rfl rfl rfl B12.all) (s := .tmp 13) (x := .bool true) rfl ⟨rfl, q.step qk (fun k hk e => by omega)⟩)
/-- a course, day by day -/
def zipC (ds : List Go.Camp.Dy) (sch : List Bool) (sun link : List Int) : List (Go.Camp.Dy × Bool × Int × Int) := ds.zip (sch.zip (sun.zip link))
theorem zipC_get {ds : List Go.Camp.Dy} {sch : List Bool} {sun link : List Int} {j : Nat} {d : Go.Camp.Dy} {r : Bool} {s l : Int} (h1 : ds[j]? = some d) (h2 : sch[j]? = some r) (h3 : sun[j]? = some s) (h4 : link[j]? = some l) : (zipC ds sch sun link)[j]? = some (d, r, s, l) := by
 unfold zipC
 rw [List.getElem?_zip_eq_some]
 refine ⟨h1, ?_⟩
 rw [List.getElem?_zip_eq_some]
 refine ⟨h2, ?_⟩
 rw [List.getElem?_zip_eq_some]
 exact ⟨h3, h4⟩
theorem drop_at {α : Type} {l : List α} {i : Nat} {d : α} (h : l[i]? = some d) : l.drop i = d :: l.drop (i + 1) := by
 have hi := (List.getElem?_eq_some_iff.1 h).1
 rw [List.drop_eq_getElem_cons hi]
 rw [List.getElem?_eq_getElem hi] at h
 injection h with h
 rw [h]
theorem zip_least : ∀ (ds : List Go.Camp.Dy) (sch : List Bool), zipC ds sch (ds.map (·.slo)) (ds.map (·.llo)) = least ds sch := by
 intro ds
 induction ds with
 | nil => intro sch; rfl
 | cons d ds ih =>
  intro sch
  cases sch with
  | nil => rfl
  | cons r sch =>
   have := ih sch
   unfold zipC least at *
   simp only [List.map_cons, List.zip_cons_cons, this]
theorem StD.begin {a : Sup} (ha : SupOk a) : StD 0 a.b := ⟨ha.c0, by have := ha.c1; have := ha.r1; omega, ha.g0, by have := ha.g1; omega, ha.d0, by have := ha.d1; have := ha.t1; omega⟩
def tr58 : F3.Tr := .fork [(0, true), (1, true), (2, true), (3, true), (4, true), (5, true), (6, true), (7, true), (8, true), (9, true), (10, true), (11, true), (12, true), (13, true), (14, true)] (.fin [(15, false), (16, true), (17, true), (18, true), (19, false), (20, false), (21, true)]) (.fin [(19, false), (15, false), (16, true), (17, true), (18, true), (20, false), (21, true)])
theorem skF_len (x : Stk) : (skL x).length = 3 := rfl
set_option maxRecDepth 20000 in
set_option maxHeartbeats 8000000 in
theorem rCourse_any (m : Sm) (sch : List Bool) (sun link : List Int) (A1 A2 A3 : Option Addr) (c1 c2 c3 C1 C2 C3 : Nat) (w0 : World) (H : SuM w0 m) (ha : SupOk m.a) (S1 : Sl w0 C1 1 A1 sch.length (bL sch)) (S2 : Sl w0 C2 1 A2 sun.length (iL sun)) (S3 : Sl w0 C3 1 A3 link.length (iL link))
  (h1 : sch.length = m.a.days.length) (h2 : sun.length = m.a.days.length) (h3 : link.length = m.a.days.length) (hs : ∀ s ∈ sun, 0 ≤ s ∧ s ≤ 50) (hl : ∀ s ∈ link, 0 ≤ s ∧ s ≤ 50) :
  Ret Try.prog 58 [.agg (suL m).toArray, .slice A1 sch.length c1, .slice A2 sun.length c2, .slice A3 link.length c3] w0 fun v w' => ∃ A c, v = .tuple #[.slice A (runC m.a (zipC m.a.days sch sun link) m.a.b).1.length c, I (dayC (runC m.a (zipC m.a.days sch sun link) m.a.b))] ∧ Chg No w0 w' ∧
   w'.ownsRow w0.heap.size 41 3 (.slice A (runC m.a (zipC m.a.days sch sun link) m.a.b).1.length c) (runC m.a (zipC m.a.days sch sun link) m.a.b).1.length ((runC m.a (zipC m.a.days sch sun link) m.a.b).1.flatMap skL) := by
 have h30 := ha.len
 obtain ⟨Z, hZ⟩ : ∃ Z, Z = zipC m.a.days sch sun link := ⟨_, rfl⟩
 rw [← hZ]
 have hZl : Z.length = m.a.days.length := by rw [hZ]; unfold zipC; simp [h1, h2, h3]
 refine enter Try.func58 rfl Try.ntmps58 rfl ?_
 refine go TL_ok 200 rfl ?_
 refine bx rfl rfl rfl (cs := suL m) rfl ?_
 intro g4 u4 hg4 hs4 q4 B4
 have q := q4
 refine go TL_ok 200 rfl ?_
 repeat ((first | refine ldA TL_ok rfl rfl rfl rfl rfl (Bk.all B4) ?_ | refine ld TL_ok rfl rfl rfl rfl (Bk.get B4 rfl) ?_ | refine gT rfl rfl rfl rfl ?_ | refine gF rfl rfl rfl rfl ?_ | refine condT rfl rfl ?_ | refine condF rfl rfl ?_); refine go TL_ok 200 rfl ?_)
 refine ldA TL_ok rfl rfl rfl rfl rfl (bk_at (ds := skL m.a.b) B4 rfl) ?_
 refine go TL_ok 200 rfl ?_
 have yB4 := B4.lt
 have yq := q.size
 refine nw rfl rfl (z := .agg #[I 0, I 0, I 0]) (by kernel_rfl) (cs := [I 0, I 0, I 0]) rfl ?_
 intro g11 w hg11 hs11 qk B11
 have B4 := B4.no qk
 have q := q.trans qk
 refine go TL_ok 200 rfl ?_
 refine stA TL_ok rfl rfl rfl rfl (vs := skL m.a.b) rfl rfl rfl B11 rfl ?_
 intro w qk B11 hz11
 have B11 : Bk w g11 41 (skL m.a.b) := B11
 have B4 := Bk.keep B4 qk (by omega)
 have q := q.step qk (fun k hk e => by omega)
 refine go TL_ok 200 rfl ?_
 repeat ((first | refine ldA TL_ok rfl rfl rfl rfl rfl (Bk.all B4) ?_ | refine ldA TL_ok rfl rfl rfl rfl rfl (Bk.all B11) ?_ | refine ld TL_ok rfl rfl rfl rfl (Bk.get B4 rfl) ?_ | refine ld TL_ok rfl rfl rfl rfl (Bk.get B11 rfl) ?_ | refine gT rfl rfl rfl rfl ?_ | refine gF rfl rfl rfl rfl ?_ | refine condT rfl rfl ?_ | refine condF rfl rfl ?_); refine go TL_ok 200 rfl ?_)
 have l4 := B4.lt
 have hw4 : w0.heap.size ≤ g4 := by omega
 have u411 : g4 < g11 := by omega
 clear hg11 hs11 hz11
 refine loop [1, 2, 3, 4, 10, 11, 12] (fun x : Nat × Stk × Option Addr × Nat × List Stk => [.slice A1 sch.length c1, .slice A2 sun.length c2, .slice A3 link.length c3, .pointer (some ⟨g4, 0, none⟩), .slice x.2.2.1 x.2.2.2.2.length x.2.2.2.1, .pointer (some ⟨g11, 0, none⟩), .int .i64 (x.1 : Int)])
  (fun x w' => x.1 ≤ m.a.days.length ∧ x.2.2.2.2.length = x.1 ∧ Chg No w0 w' ∧ Bk w' g4 44 (suL m) ∧ Bk w' g11 41 (skL x.2.1) ∧ StD x.1 x.2.1 ∧ w'.ownsRow (g11 + 1) 41 3 (.slice x.2.2.1 x.2.2.2.2.length x.2.2.2.1) x.2.2.2.2.length (x.2.2.2.2.flatMap skL) ∧
   runC m.a Z m.a.b = (x.2.2.2.2 ++ (runC m.a (Z.drop x.1) x.2.1).1, (runC m.a (Z.drop x.1) x.2.1).2)) (fun x => m.a.days.length - x.1) (0, m.a.b, none, 0, []) (fun _ => rfl) rfl ⟨by simp, rfl, q, B4, B11, StD.begin ha, own_nil, rfl⟩ ?_
 rintro ⟨j, x, A, c, out⟩ τ w ⟨hj, hol, q, B4, B11, hD, own, hrun⟩
 simp only at hj hol B11 hD own hrun
 dsimp only
 refine go TL_ok 200 rfl ?_
 repeat ((first | refine ldA TL_ok rfl rfl rfl rfl rfl (Bk.all B4) ?_ | refine ld TL_ok rfl rfl rfl rfl (Bk.get B4 rfl) ?_ | refine gT rfl rfl rfl rfl ?_ | refine gF rfl rfl rfl rfl ?_ | refine condT rfl rfl ?_ | refine condF rfl rfl ?_); refine go TL_ok 200 rfl ?_)
 refine condD rfl (fun hlt => ?_) (fun hlt => ?_)
 ·have hlt : j < m.a.days.length := by have : (j : Int) < (m.a.days.length : Int) := hlt; omega
  obtain ⟨d, hd⟩ := getA_of hlt
  obtain ⟨r, hr⟩ := getA_of (l := sch) (i := j) (by omega)
  obtain ⟨s, hs'⟩ := getA_of (l := sun) (i := j) (by omega)
  obtain ⟨l, hl'⟩ := getA_of (l := link) (i := j) (by omega)
  have hZj : Z[j]? = some (d, r, s, l) := by rw [hZ]; exact zipC_get hd hr hs' hl'
  have hsb := hs s (List.mem_of_getElem? hs')
  have hlb := hl l (List.mem_of_getElem? hl')
  have hdo := ha.days d (List.mem_of_getElem? hd)
  obtain ⟨b1, o1, hA1, hb1, hc1⟩ := Sl_elB (S1.no q) hr
  obtain ⟨b2, o2, hA2, hb2, hc2⟩ := (S2.no q).elI hs'
  obtain ⟨b3, o3, hA3, hb3, hc3⟩ := (S3.no q).elI hl'
  have y1 := (S1.no q).2.1
  have y2 := (S2.no q).2.1
  have y3 := (S3.no q).2.1
  have l4 := B4.lt
  have l11 := B11.lt
  refine go TL_ok 200 rfl ?_
  refine go TL_ok 1 rfl ?_
  refine join [1, 2, 3, 4, 10, 11, 12, 13, 14] (fun g13 : Nat => [.slice A1 sch.length c1, .slice A2 sun.length c2, .slice A3 link.length c3, .pointer (some ⟨g4, 0, none⟩), .slice A out.length c, .pointer (some ⟨g11, 0, none⟩), .int .i64 (j : Int), .pointer (some ⟨g13, 0, none⟩), .bool (okN m.a d x r s l)])
   (fun g13 w' => Chg No w w' ∧ w.heap.size ≤ g13 ∧ Bk w' g13 41 (skL (if okN m.a d x r s l then Go.Camp.nextN m.a d x r s l else ⟨0, 0, 0⟩))) (fun _ => rfl) ?_ ?_
  ·refine F3.drawT mixed (fun w' => Chg No w w') tr58 (by kernel_rfl) (Chg.drew _) ?_
   have qd := Chg.drew w
   refine F3.segK rfl ?_
   refine goH TL_ok 200 rfl ?_
   refine quietH rfl (fun w' hS => r_loadA TL_ok rfl rfl rfl rfl (B4.no hS).all) ?_
   refine goH TL_ok 200 rfl ?_
   refine quietH rfl (fun w' hS => r_loadA TL_ok rfl rfl rfl rfl (B11.no hS).all) ?_
   refine goH TL_ok 200 rfl ?_
   rw [hA1]
   refine quietH rfl (fun w' hS => r_idx TL_ok rfl rfl rfl rfl j rfl (by omega)) ?_
   refine goH TL_ok 200 rfl ?_
   refine quietH rfl (fun w' hS => r_load TL_ok rfl rfl rfl ((hS.cell (a := ⟨b1, o1 + j * 1, none⟩) (by show b1 < _; omega) (fun h => h)).trans hc1)) ?_
   rw [← hA1]
   refine goH TL_ok 200 rfl ?_
   rw [hA2]
   refine quietH rfl (fun w' hS => r_idx TL_ok rfl rfl rfl rfl j rfl (by omega)) ?_
   refine goH TL_ok 200 rfl ?_
   refine quietH rfl (fun w' hS => r_load TL_ok rfl rfl rfl ((hS.cell (a := ⟨b2, o2 + j * 1, none⟩) (by show b2 < _; omega) (fun h => h)).trans hc2)) ?_
   rw [← hA2]
   refine goH TL_ok 200 rfl ?_
   rw [hA3]
   refine quietH rfl (fun w' hS => r_idx TL_ok rfl rfl rfl rfl j rfl (by omega)) ?_
   refine goH TL_ok 200 rfl ?_
   refine quietH rfl (fun w' hS => r_load TL_ok rfl rfl rfl ((hS.cell (a := ⟨b3, o3 + j * 1, none⟩) (by show b3 < _; omega) (fun h => h)).trans hc3)) ?_
   rw [← hA3]
   refine goH TL_ok 200 rfl ?_
   refine F3.forkK qd ?_ ?_
   ·refine F3.segF rfl ?_
    refine goH TL_ok 200 rfl ?_
    refine callE rfl rfl rfl (ok _ (by decide) rfl) (rNext_any m x j d r s l _ (H.no (q.trans qd)) ha hd (hD.b (by omega)) hsb.1 hsb.2 hlb.1 hlb.2) ?_
    rintro v w1 ⟨rfl, qk⟩
    try have B13 := B13.no qk
    have qd := qd.trans qk
    refine ⟨qd, ?_⟩
    refine goH TL_ok 200 rfl ?_
    refine nwE rfl rfl (z := .agg #[I 0, I 0, I 0]) (by kernel_rfl) (cs := [I 0, I 0, I 0]) rfl ?_
    intro g13 w2 hg13 hs13 qk B13
    have hq1 := qd.size
    have hg13 : w.heap.size ≤ g13 := by omega
    have qd := qd.trans qk
    refine ⟨qd, ?_⟩
    refine goH TL_ok 200 rfl ?_
    refine stAE TL_ok rfl rfl rfl rfl (vs := skL (if okN m.a d x r s l then Go.Camp.nextN m.a d x r s l else ⟨0, 0, 0⟩)) rfl rfl rfl B13 rfl ?_
    intro w3 qk B13 hz
    have B13 : Bk w3 g13 41 (skL (if okN m.a d x r s l then Go.Camp.nextN m.a d x r s l else ⟨0, 0, 0⟩)) := B13
    have qd : Chg No w w3 := qd.step qk (fun k hk e => by omega)
    refine ⟨qd, ?_⟩
    refine goH TL_ok 200 rfl ?_
    refine endH ?_
    exact round ⟨g13, rfl, qd, hg13, B13⟩
   ·refine F3.segF rfl ?_
    refine goH TL_ok 200 rfl ?_
    refine nwE rfl rfl (z := .agg #[I 0, I 0, I 0]) (by kernel_rfl) (cs := [I 0, I 0, I 0]) rfl ?_
    intro g13 w2 hg13 hs13 qk B13
    have hq1 := qd.size
    have hg13 : w.heap.size ≤ g13 := by omega
    have qd := qd.trans qk
    refine ⟨qd, ?_⟩
    refine goH TL_ok 200 rfl ?_
    refine callE rfl rfl rfl (ok _ (by decide) rfl) (rNext_any m x j d r s l _ (H.no (q.trans qd)) ha hd (hD.b (by omega)) hsb.1 hsb.2 hlb.1 hlb.2) ?_
    rintro v w1 ⟨rfl, qk⟩
    try have B13 := B13.no qk
    have qd := qd.trans qk
    refine ⟨qd, ?_⟩
    refine goH TL_ok 200 rfl ?_
    refine stAE TL_ok rfl rfl rfl rfl (vs := skL (if okN m.a d x r s l then Go.Camp.nextN m.a d x r s l else ⟨0, 0, 0⟩)) rfl rfl rfl B13 rfl ?_
    intro w3 qk B13 hz
    have B13 : Bk w3 g13 41 (skL (if okN m.a d x r s l then Go.Camp.nextN m.a d x r s l else ⟨0, 0, 0⟩)) := B13
    have qd : Chg No w w3 := qd.step qk (fun k hk e => by omega)
    refine ⟨qd, ?_⟩
    refine goH TL_ok 200 rfl ?_
    refine endH ?_
    exact round ⟨g13, rfl, qd, hg13, B13⟩
  rintro g13 τ w3 ⟨qd, hg13, B13⟩
  have hlow : ∀ k, (Value.slice A out.length c).ownBlock = some k → k < w.heap.size := fun k e => lt_own own e
  have B4 := B4.no qd
  have B11 := B11.no qd
  have own := own_no own qd
  have q := q.trans qd
  have hrj : runC m.a (Z.drop j) x = if okN m.a d x r s l then ((Go.Camp.nextN m.a d x r s l) :: (runC m.a (Z.drop (j + 1)) (Go.Camp.nextN m.a d x r s l)).1, (runC m.a (Z.drop (j + 1)) (Go.Camp.nextN m.a d x r s l)).2) else ([], true) := by
   rw [drop_at hZj]; rfl
  cases hok : okN m.a d x r s l with
  | false =>
   rw [hok] at hrj
   rw [hrj] at hrun
   rw [hrun]
   refine go TL_ok 200 rfl ?_
   repeat ((first | refine ldA TL_ok rfl rfl rfl rfl rfl (Bk.all B4) ?_ | refine ld TL_ok rfl rfl rfl rfl (Bk.get B4 rfl) ?_ | refine gT rfl rfl rfl rfl ?_ | refine gF rfl rfl rfl rfl ?_ | refine condT rfl rfl ?_ | refine condF rfl rfl ?_); refine go TL_ok 200 rfl ?_)
   simp only [Bool.false_eq_true, if_false, List.append_nil]
   refine ret (ret2 (v := .slice A out.length c) (x := I (j : Int)) Try.results58 rfl rfl ⟨A, c, ?_, q, own_base own (by omega)⟩)
   unfold dayC
   rw [if_pos rfl, hol]
  | true =>
   rw [hok] at hrj B13
   simp only [if_true] at hrj B13
   rw [hrj] at hrun
   refine go TL_ok 200 rfl ?_
   repeat ((first | refine ldA TL_ok rfl rfl rfl rfl rfl (Bk.all B4) ?_ | refine ldA TL_ok rfl rfl rfl rfl rfl (Bk.all B13) ?_ | refine ld TL_ok rfl rfl rfl rfl (Bk.get B4 rfl) ?_ | refine ld TL_ok rfl rfl rfl rfl (Bk.get B13 rfl) ?_ | refine gT rfl rfl rfl rfl ?_ | refine gF rfl rfl rfl rfl ?_ | refine condT rfl rfl ?_ | refine condF rfl rfl ?_); refine go TL_ok 200 rfl ?_)
   have hA : ∀ k, (Value.slice A out.length c).ownBlock = some k → g11 + 1 ≤ k := fun k e => own_ge own e
   have hA2 : ∀ k, (Value.slice A out.length c).ownBlock = some k → k ≠ g13 := fun k e => by
    have := hlow _ e
    omega
   have hq3 := q.size
   refine app1 TL_ok rfl rfl rfl rfl rfl rfl (cs := skL (Go.Camp.nextN m.a d x r s l)) rfl rfl rfl rfl (fun _ => rfl) (fun _ => rfl) (fun _ => rfl) own (by unfold maxLen; omega) (by show (out.length + 1) * 24 ≤ _; omega) (by have := B13.lt; omega) ?_
   intro gx A5 c5 w5 own5 q5 hs5 hown
   have B4 := B4.keep q5 (fun e => by have := hA _ e; omega)
   have B11 := B11.keep q5 (fun e => by have := hA _ e; omega)
   have B13 := B13.keep q5 (fun e => hA2 _ e rfl)
   have q := q.step q5 (fun k hk e => by have := hA _ e; omega)
   refine go TL_ok 200 rfl ?_
   repeat ((first | refine ldA TL_ok rfl rfl rfl rfl rfl (Bk.all B4) ?_ | refine ldA TL_ok rfl rfl rfl rfl rfl (Bk.all B13) ?_ | refine ld TL_ok rfl rfl rfl rfl (Bk.get B4 rfl) ?_ | refine ld TL_ok rfl rfl rfl rfl (Bk.get B13 rfl) ?_ | refine gT rfl rfl rfl rfl ?_ | refine gF rfl rfl rfl rfl ?_ | refine condT rfl rfl ?_ | refine condF rfl rfl ?_); refine go TL_ok 200 rfl ?_)
   refine stA TL_ok rfl rfl rfl rfl (vs := skL (Go.Camp.nextN m.a d x r s l)) rfl rfl rfl B11 rfl ?_
   intro w6 q6 B11 hz6
   have B11 : Bk w6 g11 41 (skL (Go.Camp.nextN m.a d x r s l)) := B11
   have B4 := B4.keep q6 (by omega)
   have own5 := own_keep own5 q6 (fun k e hh => by have := own_ge own5 e; omega)
   have q := q.step q6 (fun k hk e => by omega)
   refine go TL_ok 200 rfl ?_
   repeat ((first | refine ldA TL_ok rfl rfl rfl rfl rfl (Bk.all B4) ?_ | refine ldA TL_ok rfl rfl rfl rfl rfl (Bk.all B13) ?_ | refine ld TL_ok rfl rfl rfl rfl (Bk.get B4 rfl) ?_ | refine ld TL_ok rfl rfl rfl rfl (Bk.get B13 rfl) ?_ | refine gT rfl rfl rfl rfl ?_ | refine gF rfl rfl rfl rfl ?_ | refine condT rfl rfl ?_ | refine condF rfl rfl ?_); refine go TL_ok 200 rfl ?_)
   rw [w64_id (x := (j : Int) + 1) (by omega) (by omega)]
   have e1 : (out ++ [Go.Camp.nextN m.a d x r s l]).length = out.length + 1 := by simp
   refine round ⟨(j + 1, Go.Camp.nextN m.a d x r s l, A5, c5, out ++ [Go.Camp.nextN m.a d x r s l]), by simp only [e1]; rfl, ⟨by simp only; omega, by simp only [e1]; omega, q, B4, B11, hD.next ha hdo hsb.1 hlb.1 hok, ?_, ?_⟩, by simp only; omega⟩
   ·simp only
    rw [e1, List.flatMap_append]
    simpa using own5
   ·simp only
    rw [hrun, List.append_assoc]
    rfl
 ·obtain rfl : j = m.a.days.length := by have : ¬ (j : Int) < (m.a.days.length : Int) := hlt; omega
  have hrj : runC m.a (Z.drop m.a.days.length) x = ([], false) := by rw [List.drop_eq_nil_of_le (by omega)]; rfl
  rw [hrj] at hrun
  rw [hrun]
  simp only [List.append_nil]
  refine go TL_ok 200 rfl ?_
  exact ret (ret2 (v := .slice A out.length c) (x := I (-1)) Try.results58 rfl rfl ⟨A, c, rfl, q, own_base own (by omega)⟩)
end Go.Proofs.Yteenhfnamjbaiaa
