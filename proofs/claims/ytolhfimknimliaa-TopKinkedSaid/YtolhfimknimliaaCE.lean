/- The contract of expected rates: those of a bin, and the exported function. -/
import Derived.Test.YtolhfimknimliaaCC
namespace Go.Proofs.Ytolhfimknimliaa
open Go.Ev Go.Proofs Go.Top
attribute [local irreducible] At AtH
theorem KD : Go.Maps.Keyed Try.prog 3 := Go.Maps.int_keyed Try.underlying3
theorem EkI_inj (a : Int) : ∀ a', EkI a' = EkI a → a' = a := fun a' h => by injection h
theorem kI {x : Int} (h0 : 0 ≤ x) (h1 : x ≤ 1000000) : keyOf Try.prog 3 (EkI x) = some (.int .i64 x) := by
  have hmin : IntKind.i64.min = -9223372036854775808 := by decide
  have hmax : IntKind.i64.max = 9223372036854775807 := by decide
  simp [keyOf, mapKey, Try.underlying3, Lit.wf, hmin, hmax]
  omega
set_option maxRecDepth 20000 in
set_option maxHeartbeats 8000000 in
theorem expected_any (p : Int) (bins : Sli (Sli Rw)) (be al : Int × Int) (t : Sli Rw) (bin : Nat) (o : Int) (g mb : Nat) (s : Sli Rw) (w0 : World) (H : SkM w0 bins) (St : Sl w0 w0.heap.size 3 t.A t.l.length (t.l.flatMap rwL))
    (ho : 0 ≤ o ∧ o ≤ 1000000) (hs : SkOk p bins be al) (hr : Mono 1 1000000 1000000 true t.l) (hb : bins.l[bin]? = some s) (Bg : Bk w0 g 140 (grL p bins be al t mb)) (Mm : Mt Try.prog 3 w0 mb 0 EkI EbS (fun _ : Int => none)) (hne : g ≠ mb) :
    Ret Try.prog 38 [.pointer (some ⟨g, 0, none⟩), I (bin : Int), I o] w0 fun x w' => x = .agg (spL (expd s.l t.l o)).toArray ∧ Chg (fun k => k = mb) w0 w' := by
  have hmem := List.mem_of_getElem? hb
  have hbin := (List.getElem?_eq_some_iff.1 hb).1
  have hsk := hs.2.2.2.2 s hmem
  have hlen := H.len
  have lg := Bg.lt
  have lm := Mm.lt
  refine enter Try.func38 rfl Try.ntmps38 rfl ?_
  refine go T2_ok 200 rfl ?_
  refine nw rfl rfl (z := .agg #[I 0, I 0]) (by kernel_rfl) (cs := [I 0, I 0]) rfl ?_
  intro g6 w1 hg6 hs6 qk B6
  have q := qk
  have Bg := Bg.no qk
  have Mm := Mm.no qk
  refine go T2_ok 200 rfl ?_
  repeat (first | (refine ldA T2_ok rfl rfl rfl rfl rfl (Bk.all Bg) ?_; refine go T2_ok 200 rfl ?_) | (refine ldA T2_ok rfl rfl rfl rfl rfl (Bk.all B6) ?_; refine go T2_ok 200 rfl ?_) | (refine ld T2_ok rfl rfl rfl rfl (Bk.get Bg rfl) ?_; refine go T2_ok 200 rfl ?_) | (refine ld T2_ok rfl rfl rfl rfl (Bk.get B6 rfl) ?_; refine go T2_ok 200 rfl ?_) | (refine guardA (b := true) rfl rfl rfl rfl (fun _ => ?_) (fun e => by cases e); refine go T2_ok 200 rfl ?_) | (refine guardA (b := false) rfl rfl rfl rfl (fun e => by cases e) (fun _ => ?_); refine go T2_ok 200 rfl ?_) | (refine condT rfl rfl ?_; refine go T2_ok 200 rfl ?_) | (refine condF rfl rfl ?_; refine go T2_ok 200 rfl ?_))
  refine Ev.look true KD rfl rfl Try.underlying138 rfl (ek := EkI) (a := o) rfl (kI ho.1 ho.2) (EkI_inj o) Mm (z := .agg #[I 0, I 0]) (by kernel_rfl) ?_
  refine go T2_ok 200 rfl ?_
  refine nw rfl rfl (z := .agg #[I 0, I 0]) (by kernel_rfl) (cs := [I 0, I 0]) rfl ?_
  intro g7 w2 hg7 hs7 qk B7
  have Bg := Bg.no qk
  have B6 := B6.no qk
  have q := q.trans qk
  have Mm := Mm.no qk
  refine go T2_ok 200 rfl ?_
  refine stA T2_ok rfl rfl rfl rfl (vs := [I 0, I 0]) rfl rfl rfl B7 rfl ?_
  intro w3 qk B7 hz7
  have B7 : Bk w3 g7 24 [I 0, I 0] := B7
  have Bg := Bg.keep qk (by omega)
  have B6 := B6.keep qk (by omega)
  have Mm := Mm.keep qk (by omega)
  have q := q.step qk (fun k hk e => by omega)
  refine go T2_ok 200 rfl ?_
  repeat (first | (refine ldA T2_ok rfl rfl rfl rfl rfl (Bk.all Bg) ?_; refine go T2_ok 200 rfl ?_) | (refine ldA T2_ok rfl rfl rfl rfl rfl (Bk.all B6) ?_; refine go T2_ok 200 rfl ?_) | (refine ldA T2_ok rfl rfl rfl rfl rfl (Bk.all B7) ?_; refine go T2_ok 200 rfl ?_) | (refine ld T2_ok rfl rfl rfl rfl (Bk.get Bg rfl) ?_; refine go T2_ok 200 rfl ?_) | (refine ld T2_ok rfl rfl rfl rfl (Bk.get B6 rfl) ?_; refine go T2_ok 200 rfl ?_) | (refine ld T2_ok rfl rfl rfl rfl (Bk.get B7 rfl) ?_; refine go T2_ok 200 rfl ?_) | (refine guardA (b := true) rfl rfl rfl rfl (fun _ => ?_) (fun e => by cases e); refine go T2_ok 200 rfl ?_) | (refine guardA (b := false) rfl rfl rfl rfl (fun e => by cases e) (fun _ => ?_); refine go T2_ok 200 rfl ?_) | (refine condT rfl rfl ?_; refine go T2_ok 200 rfl ?_) | (refine condF rfl rfl ?_; refine go T2_ok 200 rfl ?_))
  have H3 := H.no q
  have St3 := (St.no q).more q.size (Nat.le_refl _)
  obtain ⟨b1, o1, hA1, hb1, hc1⟩ := H3.sl.el slL_len hb
  have hel := H3.el s hmem
  refine draw mixed (fun w' => Chg No w3 w') ([0,1,2,3,4,5,6,7,8,9,10,11,12].map (fun i => (i, true)) ++ [(13, false)] ++ [(14, false)] ++ [(15, false)]) rfl (by kernel_rfl) (Chg.drew _) ?_
  refine goH T2_ok 200 rfl ?_
  repeat (first | (refine quietH rfl (fun w' hS => r_load T2_ok rfl rfl rfl (Bk.get (Bg.no hS) rfl)) ?_; refine goH T2_ok 200 rfl ?_))
  rw [hA1]
  refine quietH rfl (fun w' hS => r_idx T2_ok rfl rfl rfl rfl bin rfl hbin) ?_
  refine goH T2_ok 200 rfl ?_
  refine quietH rfl (fun w' hS => r_load T2_ok rfl rfl rfl ((hS.cell (a := ⟨b1, o1 + bin * 1 + 0, none⟩) hb1 (fun h => h)).trans (hc1.get rfl))) ?_
  refine goH T2_ok 200 rfl ?_
  refine goH T2_ok 200 rfl ?_
  repeat (first | (refine quietH rfl (fun w' hS => r_load T2_ok rfl rfl rfl (Bk.get (Bg.no hS) rfl)) ?_; refine goH T2_ok 200 rfl ?_))
  refine callE rfl rfl rfl (ok _ (by decide) rfl) (thr_any t.l o t.A t.c _ _ (St3.no (Chg.drew _)) (by have := hr.2.2.2; omega) (fun r h => by have := (hr.1 r h).1; omega)) ?_
  rintro x w4 ⟨rfl, q4⟩
  have qd := (Chg.drew w3).trans q4
  refine ⟨qd, ?_⟩
  refine goH T2_ok 200 rfl ?_
  refine callE rfl rfl rfl (ok _ (by decide) rfl) (abv_any s.l (thr t.l o) s.A s.c _ _ (hel.2.no qd) (by have := hsk.1.2.2.2; omega) (by have := hsk.1.2.2.1; omega)) ?_
  rintro x w5 ⟨rfl, q5⟩
  have qd := qd.trans q5
  refine ⟨qd, ?_⟩
  refine goH T2_ok 200 rfl ?_
  refine stAL T2_ok rfl rfl rfl rfl (vs := spL (abv s.l (thr t.l o))) rfl rfl rfl (B7.no qd) rfl (by kernel_rfl) ?_
  intro w6 qk B7 hz7
  have B7 : Bk w6 g7 24 (spL (abv s.l (thr t.l o))) := B7
  have hq := qd.size
  have Bg := (Bg.no qd).keep qk (by omega)
  have B6 := (B6.no qd).keep qk (by omega)
  have Mm := (Mm.no qd).keep qk (by omega)
  have q := (q.trans qd).step qk (fun k hk e => by omega)
  refine goH T2_ok 200 rfl ?_
  refine endH ?_
  refine go T2_ok 200 rfl ?_
  refine draw mixed (fun w' => Chg No w6 w') ([0,1,2,3,4,5].map (fun i => (i, true)) ++ [(6, false)]) rfl (by kernel_rfl) (Chg.drew _) ?_
  refine goH T2_ok 200 rfl ?_
  repeat (first | (refine quietH rfl (fun w' hS => r_load T2_ok rfl rfl rfl (Bk.get (Bg.no hS) rfl)) ?_; refine goH T2_ok 200 rfl ?_))
  refine quietH rfl (fun w' hS => r_loadA T2_ok rfl rfl rfl rfl (B7.no hS).all) ?_
  refine goH T2_ok 200 rfl ?_
  refine updL KD rfl rfl Try.underlying138 rfl (ek := EkI) (a := o) rfl (kI ho.1 ho.2) (EkI_inj o) (v := abv s.l (thr t.l o)) rfl (Mm.no (Chg.drew _)) (by kernel_rfl) ?_
  intro w7 qk _ hz8
  have hm6 := Mm.lt
  have Bg := (Bg.no (Chg.drew w6)).keep qk (fun e => by have := hne; omega)
  have B6 := (B6.no (Chg.drew w6)).keep qk (by omega)
  have B7 := (B7.no (Chg.drew w6)).keep qk (by omega)
  have q : Chg (fun k => k = mb) w0 w7 := ((q.trans (Chg.drew w6)).mono (N := fun k => k = mb) (fun _ _ h => h.elim)).trans qk
  refine endH ?_
  refine go T2_ok 200 rfl ?_
  repeat (first | (refine ldA T2_ok rfl rfl rfl rfl rfl (Bk.all B6) ?_; refine go T2_ok 200 rfl ?_) | (refine ldA T2_ok rfl rfl rfl rfl rfl (Bk.all B7) ?_; refine go T2_ok 200 rfl ?_) | (refine ld T2_ok rfl rfl rfl rfl (Bk.get B6 rfl) ?_; refine go T2_ok 200 rfl ?_) | (refine ld T2_ok rfl rfl rfl rfl (Bk.get B7 rfl) ?_; refine go T2_ok 200 rfl ?_) | (refine guardA (b := true) rfl rfl rfl rfl (fun _ => ?_) (fun e => by cases e); refine go T2_ok 200 rfl ?_) | (refine guardA (b := false) rfl rfl rfl rfl (fun e => by cases e) (fun _ => ?_); refine go T2_ok 200 rfl ?_) | (refine condT rfl rfl ?_; refine go T2_ok 200 rfl ?_) | (refine condF rfl rfl ?_; refine go T2_ok 200 rfl ?_))
  refine stA T2_ok rfl rfl rfl rfl (vs := spL (abv s.l (thr t.l o))) rfl rfl rfl B6 rfl ?_
  intro w8 qk B6 hz8
  have B6 : Bk w8 g6 24 (spL (abv s.l (thr t.l o))) := B6
  refine go T2_ok 200 rfl ?_
  exact ret (retR1 Try.results38 (resA T2_ok rfl rfl rfl B6.all) ⟨rfl, q.step qk (fun k hk e => by omega)⟩)
set_option maxRecDepth 20000 in
set_option maxHeartbeats 8000000 in
theorem Expected_any (p : Int) (bins : Sli (Sli Rw)) (be al : Int × Int) (t : Sli Rw) (bin : Nat) (o : Int) (s : Sli Rw) (w0 : World) (H : SkM w0 bins) (St : Sl w0 w0.heap.size 3 t.A t.l.length (t.l.flatMap rwL))
    (hs : SkOk p bins be al) (hr : Mono 1 1000000 1000000 true t.l) (hb : bins.l[bin]? = some s) (ho : 0 ≤ o ∧ o ≤ 1000000) :
    Ret Try.prog 10 [.agg (skL p bins be al).toArray, .slice t.A t.l.length t.c, I (bin : Int), I o] w0 fun x w' => x = .tuple #[.agg (spL (expd s.l t.l o)).toArray, I 0] ∧ Chg No w0 w' := by
  have hbin := (List.getElem?_eq_some_iff.1 hb).1
  have hlen := H.len
  have htl := hr.2.2.2
  refine enter Try.func10 rfl Try.ntmps10 rfl ?_
  refine go T2_ok 200 rfl ?_
  refine bx rfl rfl rfl (cs := skL p bins be al) rfl ?_
  intro g4 u4 hg4 hs4 q4 B4
  have q := q4
  refine go T2_ok 200 rfl ?_
  refine nw rfl rfl (z := .agg #[I 0, I 0]) (by kernel_rfl) (cs := [I 0, I 0]) rfl ?_
  intro g8 w1 hg8 hs8 qk B8
  have B4 := B4.no qk
  have q := q.trans qk
  refine go T2_ok 200 rfl ?_
  repeat (first | (refine ldA T2_ok rfl rfl rfl rfl rfl (Bk.all B4) ?_; refine go T2_ok 200 rfl ?_) | (refine ldA T2_ok rfl rfl rfl rfl rfl (Bk.all B8) ?_; refine go T2_ok 200 rfl ?_) | (refine ld T2_ok rfl rfl rfl rfl (Bk.get B4 rfl) ?_; refine go T2_ok 200 rfl ?_) | (refine ld T2_ok rfl rfl rfl rfl (Bk.get B8 rfl) ?_; refine go T2_ok 200 rfl ?_) | (refine guardA (b := true) rfl rfl rfl rfl (fun _ => ?_) (fun e => by cases e); refine go T2_ok 200 rfl ?_) | (refine guardA (b := false) rfl rfl rfl rfl (fun e => by cases e) (fun _ => ?_); refine go T2_ok 200 rfl ?_) | (refine condT rfl rfl ?_; refine go T2_ok 200 rfl ?_) | (refine condF rfl rfl ?_; refine go T2_ok 200 rfl ?_))
  refine call rfl rfl rfl (ok _ (by decide) rfl) (below_any p bins be al t (bin : Int) o _ (H.no q) ((St.no q).more q.size (Nat.le_refl _)) (by omega) hs hr (by omega) ho) ?_
  rintro x w2 ⟨g, mb, rfl, qk, lg, lm, hne, Bg, Mm⟩
  have hq1 := q.size
  have B4 := B4.no qk
  have B8 := B8.no qk
  have q := q.trans qk
  refine go T2_ok 200 rfl ?_
  repeat (first | (refine ldA T2_ok rfl rfl rfl rfl rfl (Bk.all B4) ?_; refine go T2_ok 200 rfl ?_) | (refine ldA T2_ok rfl rfl rfl rfl rfl (Bk.all B8) ?_; refine go T2_ok 200 rfl ?_) | (refine ld T2_ok rfl rfl rfl rfl (Bk.get B4 rfl) ?_; refine go T2_ok 200 rfl ?_) | (refine ld T2_ok rfl rfl rfl rfl (Bk.get B8 rfl) ?_; refine go T2_ok 200 rfl ?_) | (refine guardA (b := true) rfl rfl rfl rfl (fun _ => ?_) (fun e => by cases e); refine go T2_ok 200 rfl ?_) | (refine guardA (b := false) rfl rfl rfl rfl (fun e => by cases e) (fun _ => ?_); refine go T2_ok 200 rfl ?_) | (refine condT rfl rfl ?_; refine go T2_ok 200 rfl ?_) | (refine condF rfl rfl ?_; refine go T2_ok 200 rfl ?_))
  have l8 := B8.lt
  refine call rfl rfl rfl (ok _ (by decide) rfl) (expected_any p bins be al t bin o g mb s _ (H.no q) ((St.no q).more q.size (Nat.le_refl _)) ho hs hr hb Bg Mm hne) ?_
  rintro x w3 ⟨rfl, qk⟩
  refine go T2_ok 200 rfl ?_
  have B8 := B8.keep qk (by omega)
  have q := q.step qk (fun k hk e => by omega)
  refine stA T2_ok rfl rfl rfl rfl (vs := spL (expd s.l t.l o)) rfl rfl rfl B8 rfl ?_
  intro w4 qk B8 hz8
  have B8 : Bk w4 g8 24 (spL (expd s.l t.l o)) := B8
  refine go T2_ok 200 rfl ?_
  exact ret (retR2 Try.results10 (resA T2_ok rfl rfl rfl B8.all) rfl ⟨rfl, q.step qk (fun k hk e => by omega)⟩)
end Go.Proofs.Ytolhfimknimliaa
