/- The contract of known20. -/
import Derived.Test.YtolhfimknimliaaCE
import Derived.Test.YtolhfimknimliaaCD
import Derived.Test.YtolhfimknimliaaQP
namespace Go.Proofs.Ytolhfimknimliaa
open Go.Ev Go.Proofs Go.Top
attribute [local irreducible] At AtH
def exR : List Rw := [⟨1, 400, 500⟩, ⟨20, 200, 260⟩, ⟨50, 80, 100⟩, ⟨120, 20, 30⟩]
def taR : List Rw := [⟨10, 20, 30⟩, ⟨40, 90, 120⟩, ⟨100, 250, 300⟩]
def exB (g1 g2 : Nat) : Sli (Sli Rw) := ⟨some ⟨g2, 0, none⟩, [⟨some ⟨g1, 0, none⟩, exR, 4⟩], 1⟩
theorem exR_ok : BinOk 1000 exR := by
  refine ⟨⟨by decide, fun i a ha b hb => ?_, by decide, by decide⟩, ⟨1, 400, 500⟩, rfl, rfl⟩
  match i with
  | 0 => cases ha; cases hb; decide
  | 1 => cases ha; cases hb; decide
  | 2 => cases ha; cases hb; decide
  | i + 3 => simp [exR] at hb
theorem taR_ok : Mono 1 1000000 1000000 true taR := by
  refine ⟨by decide, fun i a ha b hb => ?_, by decide, by decide⟩
  match i with
  | 0 => cases ha; cases hb; decide
  | 1 => cases ha; cases hb; decide
  | i + 2 => simp [taR] at hb
theorem exS_ok (g1 g2 : Nat) : SkOk 1000 (exB g1 g2) (2, 3) (0, 1) := by
  refine ⟨by decide, ⟨by show (1 : Int) ≤ 1; decide, by show (1 : Int) ≤ 20; decide⟩, by unfold SpOk; decide, by unfold SpOk; decide, fun s hs => ?_⟩
  simp only [exB, List.mem_singleton] at hs
  subst hs
  exact exR_ok
theorem k_expd : expd exR taR 100 = (20, 500) := by decide +kernel
theorem k_tailE : Q.tailE 4 4 1 3 = 0 := by decide +kernel
theorem k_tail : Q.tailF 4 1 3 (Q.outsN 4 16) = 13 := by decide +kernel
set_option maxRecDepth 20000 in
theorem Example_any (w0 : World) : Ret Try.prog 34 [] w0 fun x w' => ∃ g1 g2, x = .agg (skL 1000 (exB g1 g2) (2, 3) (0, 1)).toArray ∧ Chg No w0 w' ∧ SkM w' (exB g1 g2) := by
  refine enter Try.func34 rfl Try.ntmps34 rfl ?_
  refine go T3_ok 200 rfl ?_
  refine nw rfl rfl (z := .agg #[I 0, .slice none 0 0, I 0, I 0, I 0, I 0]) (by kernel_rfl) (cs := [I 0, .slice none 0 0, I 0, I 0, I 0, I 0]) rfl ?_
  intro g0 w hg0 hs0 qk B0
  have q := qk
  refine go T3_ok 200 rfl ?_
  refine row T3_ok rfl rfl rfl rfl rfl rfl (cs := exR.flatMap rwL) rfl ?_
  intro g1 w hg1 hs1 qk B1 _
  have B0 := B0.no qk
  have q := q.trans qk
  refine go T3_ok 200 rfl ?_
  refine row T3_ok rfl rfl rfl rfl rfl rfl (cs := [.slice (some ⟨g1, 0, none⟩) 4 4]) rfl ?_
  intro g2 w hg2 hs2 qk B2 _
  have B0 := B0.no qk
  have B1 := B1.no qk
  have q := q.trans qk
  refine go T3_ok 200 rfl ?_
  refine stA T3_ok rfl rfl rfl rfl (vs := skL 1000 (exB g1 g2) (2, 3) (0, 1)) rfl rfl rfl B0 rfl ?_
  intro w qk B0 hz
  have B1 := B1.keep qk (by omega)
  have B2 := B2.keep qk (by omega)
  have B0 : Bk w g0 26 (skL 1000 (exB g1 g2) (2, 3) (0, 1)) := B0
  refine go T3_ok 200 rfl ?_
  refine ret (retR1 Try.results34 (resA T3_ok rfl rfl rfl B0.all) ⟨g1, g2, rfl, q.step qk (fun k hk e => by omega), ⟨by show 1 ≤ 9223372036854775807; decide, B2.sl (sz := 1) (m := 1) rfl, fun s hs => ?_⟩⟩)
  simp only [exB, List.mem_singleton] at hs
  subst hs
  exact ⟨by show 4 ≤ 9223372036854775807; decide, B1.sl (sz := 3) (m := 4) rfl⟩
theorem Table_any (w0 : World) : Ret Try.prog 35 [] w0 fun x w' => ∃ g, x = .slice (some ⟨g, 0, none⟩) 3 3 ∧ Chg No w0 w' ∧ Sl w' w'.heap.size 3 (some ⟨g, 0, none⟩) 3 (taR.flatMap rwL) := by
  refine enter Try.func35 rfl Try.ntmps35 rfl ?_
  refine go T3_ok 200 rfl ?_
  refine row T3_ok rfl rfl rfl rfl rfl rfl (cs := taR.flatMap rwL) rfl ?_
  intro g1 w hg1 hs1 qk B1 _
  refine go T3_ok 200 rfl ?_
  exact ret (ret1 (v := .slice _ _ _) Try.results35 rfl ⟨g1, rfl, qk, B1.sl (sz := 3) (m := 3) rfl⟩)
set_option maxRecDepth 20000 in
set_option maxHeartbeats 4000000 in
theorem SameNet_known (A A2 : Option Addr) (c c2 : Nat) (w0 : World) (S1 : Sl w0 w0.heap.size 4 A 1 tieK) (S2 : Sl w0 w0.heap.size 4 A2 1 tieK) : Ret Try.prog 36 [.agg #[I 3, .slice A 1 c], .agg #[I 3, .slice A2 1 c2]] w0 fun x w' => x = .bool true ∧ Chg No w0 w' := by
  obtain ⟨b1, o1, rfl, hb1, hc1⟩ := S1.2.2 (by omega)
  obtain ⟨b2, o2, rfl, hb2, hc2⟩ := S2.2.2 (by omega)
  refine enter Try.func36 rfl Try.ntmps36 rfl ?_
  refine go T3_ok 200 rfl ?_
  refine bx rfl rfl rfl (cs := ([I 3, .slice (some ⟨b1, o1, none⟩) 1 c] : List Value)) rfl ?_
  intro g2 u2 hg2 hs2 q2 B2
  have q := q2
  refine go T3_ok 200 rfl ?_
  refine bx rfl rfl rfl (cs := [I 3, .slice (some ⟨b2, o2, none⟩) 1 c2]) rfl ?_
  intro g3 w hg3 hs3 qk B3
  have B2 := B2.no qk
  have q := q.trans qk
  refine go T3_ok 200 rfl ?_
  repeat (first | (refine ldA T3_ok rfl rfl rfl rfl rfl (Bk.all B2) ?_; refine go T3_ok 200 rfl ?_) | (refine ldA T3_ok rfl rfl rfl rfl rfl (Bk.all B3) ?_; refine go T3_ok 200 rfl ?_) | (refine ld T3_ok rfl rfl rfl rfl (Bk.get B2 rfl) ?_; refine go T3_ok 200 rfl ?_) | (refine ld T3_ok rfl rfl rfl rfl (Bk.get B3 rfl) ?_; refine go T3_ok 200 rfl ?_) | (refine guardA (b := true) rfl rfl rfl rfl (fun _ => ?_) (fun e => by cases e); refine go T3_ok 200 rfl ?_) | (refine guardA (b := false) rfl rfl rfl rfl (fun e => by cases e) (fun _ => ?_); refine go T3_ok 200 rfl ?_) | (refine condT rfl rfl ?_; refine go T3_ok 200 rfl ?_) | (refine condF rfl rfl ?_; refine go T3_ok 200 rfl ?_))
  refine loop [2, 3, 5] (fun j : Nat => [.pointer (some ⟨g2, 0, none⟩), .pointer (some ⟨g3, 0, none⟩), .int .i64 (j : Int)])
    (fun j w' => j ≤ 1 ∧ Chg No w0 w' ∧ Bk w' g2 88 [I 3, .slice (some ⟨b1, o1, none⟩) 1 c] ∧ Bk w' g3 88 [I 3, .slice (some ⟨b2, o2, none⟩) 1 c2]) (fun j => 1 - j) 0 (fun _ => rfl) rfl ⟨by omega, q, B2, B3⟩ ?_
  rintro j τ w ⟨hj, q, B2, B3⟩
  refine go T3_ok 200 rfl ?_
  repeat (first | (refine ldA T3_ok rfl rfl rfl rfl rfl (Bk.all B2) ?_; refine go T3_ok 200 rfl ?_) | (refine ldA T3_ok rfl rfl rfl rfl rfl (Bk.all B3) ?_; refine go T3_ok 200 rfl ?_) | (refine ld T3_ok rfl rfl rfl rfl (Bk.get B2 rfl) ?_; refine go T3_ok 200 rfl ?_) | (refine ld T3_ok rfl rfl rfl rfl (Bk.get B3 rfl) ?_; refine go T3_ok 200 rfl ?_) | (refine guardA (b := true) rfl rfl rfl rfl (fun _ => ?_) (fun e => by cases e); refine go T3_ok 200 rfl ?_) | (refine guardA (b := false) rfl rfl rfl rfl (fun e => by cases e) (fun _ => ?_); refine go T3_ok 200 rfl ?_) | (refine condT rfl rfl ?_; refine go T3_ok 200 rfl ?_) | (refine condF rfl rfl ?_; refine go T3_ok 200 rfl ?_))
  refine condD rfl (fun hlt => ?_) (fun hlt => ?_)
  · obtain rfl : j = 0 := by omega
    refine go T3_ok 200 rfl ?_
    refine draw mixed (fun w' => Chg No w w') ([0,1,2,3,4,5,6,7,8,9,10].map (fun i => (i, true))) rfl (by kernel_rfl) (Chg.drew _) ?_
    refine goH T3_ok 200 rfl ?_
    repeat (first | (refine quietH rfl (fun w' hS => r_load T3_ok rfl rfl rfl (Bk.get (B2.no hS) rfl)) ?_; refine goH T3_ok 200 rfl ?_) | (refine quietH rfl (fun w' hS => r_load T3_ok rfl rfl rfl (Bk.get (B3.no hS) rfl)) ?_; refine goH T3_ok 200 rfl ?_))
    refine quietH rfl (fun w' hS => r_idx T3_ok rfl rfl rfl rfl 0 rfl (by omega)) ?_
    refine goH T3_ok 200 rfl ?_
    refine quietH rfl (fun w' hS => r_loadA T3_ok rfl rfl rfl rfl (cs := tieK) ((hc1.keep hb1 q (fun h => h)).keep (Nat.lt_of_lt_of_le hb1 q.size) hS (fun h => h))) ?_
    refine goH T3_ok 200 rfl ?_
    repeat (first | (refine quietH rfl (fun w' hS => r_load T3_ok rfl rfl rfl (Bk.get (B2.no hS) rfl)) ?_; refine goH T3_ok 200 rfl ?_) | (refine quietH rfl (fun w' hS => r_load T3_ok rfl rfl rfl (Bk.get (B3.no hS) rfl)) ?_; refine goH T3_ok 200 rfl ?_))
    refine quietH rfl (fun w' hS => r_idx T3_ok rfl rfl rfl rfl 0 rfl (by omega)) ?_
    refine goH T3_ok 200 rfl ?_
    refine quietH rfl (fun w' hS => r_loadA T3_ok rfl rfl rfl rfl (cs := tieK) ((hc2.keep hb2 q (fun h => h)).keep (Nat.lt_of_lt_of_le hb2 q.size) hS (fun h => h))) ?_
    refine goH T3_ok 200 rfl ?_
    refine quietH rfl (fun w' hS => r_neqS (l := [0, 2, 21, 29]) (m := [0, 2, 21, 29]) rfl (by kernel_rfl) rfl rfl rfl) ?_
    refine goH T3_ok 200 rfl ?_
    refine endH ?_
    refine go T3_ok 200 rfl ?_
    refine condF rfl rfl ?_
    refine go T3_ok 200 rfl ?_
    exact round ⟨1, rfl, ⟨by omega, q.trans (Chg.drew _), B2.no (Chg.drew _), B3.no (Chg.drew _)⟩, by omega⟩
  · obtain rfl : j = 1 := by omega
    refine go T3_ok 200 rfl ?_
    exact ret (ret1 (v := .bool true) Try.results36 rfl ⟨rfl, q⟩)
set_option maxRecDepth 20000 in
set_option maxHeartbeats 8000000 in
theorem known_any (w0 : World) : Ret Try.prog 9 [] w0 fun x w' => x = .bool true ∧ Chg No w0 w' := by
  refine enter Try.func9 rfl Try.ntmps9 rfl ?_
  refine go T3_ok 200 rfl ?_
  refine row T3_ok rfl rfl rfl rfl rfl rfl (cs := pulK) rfl ?_
  intro gp w hgp hsp qk Bp _
  have q := qk
  refine go T3_ok 200 rfl ?_
  refine call rfl rfl rfl (ok _ (by decide) rfl) (Pulses_known gp _ Bp) ?_
  rintro x w ⟨A, c, rfl, qk, S6⟩
  have q := q.trans qk
  have hq0 := q.size
  refine go T3_ok 200 rfl ?_
  refine nw rfl rfl (z := .agg #[I 0, .slice none 0 0]) (by kernel_rfl) (cs := [I 0, .slice none 0 0]) rfl ?_
  intro g1 w hg1 hs1 qk B1
  have q := q.trans qk
  obtain ⟨b1, o1, rfl, hb1, hc1⟩ := S6.2.2 (by omega)
  have hc1 := hc1.keep hb1 qk (fun h => h)
  refine go T3_ok 200 rfl ?_
  refine stA T3_ok rfl rfl rfl rfl (vs := [I 3, .slice (some ⟨b1, o1, none⟩) 1 c]) rfl rfl rfl B1 rfl ?_
  intro w qk B1 hz
  have B1 : Bk w g1 88 [I 3, .slice (some ⟨b1, o1, none⟩) 1 c] := B1
  have lb1 : b1 < w.heap.size := by omega
  have hc1 := hc1.keep (by omega) qk (by omega)
  have hq := q.size
  have q := q.step qk (fun k hk e => by omega)
  have p := Chg.refl No w
  refine go T3_ok 200 rfl ?_
  refine call rfl rfl rfl (ok _ (by decide) rfl) (Example_any _) ?_
  rintro x w ⟨e1, e2, rfl, qk, He⟩
  have B1 := B1.no qk
  have p := p.no qk
  have q := q.trans qk
  refine go T3_ok 200 rfl ?_
  refine call rfl rfl rfl (ok _ (by decide) rfl) (Table_any _) ?_
  rintro x w ⟨e3, rfl, qk, Ht⟩
  have B1 := B1.no qk
  have p := p.no qk
  have q := q.trans qk
  refine go T3_ok 200 rfl ?_
  have He := He.no qk
  have X := Expected_any 1000 (exB e1 e2) (2, 3) (0, 1) ⟨some ⟨e3, 0, none⟩, taR, 3⟩ 0 100 ⟨some ⟨e1, 0, none⟩, exR, 4⟩ w He Ht (exS_ok e1 e2) taR_ok rfl (by omega)
  refine call rfl rfl rfl (ok _ (by decide) rfl) (X) ?_
  rintro x w ⟨rfl, qk⟩
  have B1 := B1.no qk
  have p := p.no qk
  have q := q.trans qk
  rw [show expd (Sli.l ⟨some ⟨e1, 0, none⟩, exR, 4⟩) (Sli.l ⟨some ⟨e3, 0, none⟩, taR, 3⟩) 100 = (20, 500) from k_expd]
  refine go T3_ok 200 rfl ?_
  refine nw rfl rfl (z := .agg #[I 0, I 0]) (by kernel_rfl) (cs := [I 0, I 0]) rfl ?_
  intro g3 w hg3 hs3 qk B3
  have l1 := B1.lt
  have B1 := B1.no qk
  have p := p.no qk
  have q := q.trans qk
  refine go T3_ok 200 rfl ?_
  refine stA T3_ok rfl rfl rfl rfl (vs := [I 20, I 500]) rfl rfl rfl B3 rfl ?_
  intro w qk B3 hz3
  have B3 : Bk w g3 24 [I 20, I 500] := B3
  have hq3 := q.size
  have hp3 := p.size
  have B1 := B1.keep qk (by omega)
  have p := p.step qk (fun k hk e => by omega)
  have q := q.step qk (fun k hk e => by omega)
  refine go T3_ok 200 rfl ?_
  refine call rfl rfl rfl (ok _ (by decide) rfl) (Q.Tail_any 4 4 1 3 _) ?_
  rintro x w ⟨qk, rfl⟩
  have B1 := B1.no qk
  have B3 := B3.no qk
  have p := p.no qk
  have q := q.trans qk
  rw [k_tailE, if_pos rfl]
  rw [show Q.tailF 4 1 3 (Q.outsN (4 : Int).toNat (2 ^ (4 : Int).toNat)) = 13 from k_tail]
  refine go T3_ok 200 rfl ?_
  repeat (first | (refine ldA T3_ok rfl rfl rfl rfl rfl (Bk.all B1) ?_; refine go T3_ok 200 rfl ?_) | (refine ldA T3_ok rfl rfl rfl rfl rfl (Bk.all B3) ?_; refine go T3_ok 200 rfl ?_) | (refine ld T3_ok rfl rfl rfl rfl (Bk.get B1 rfl) ?_; refine go T3_ok 200 rfl ?_) | (refine ld T3_ok rfl rfl rfl rfl (Bk.get B3 rfl) ?_; refine go T3_ok 200 rfl ?_) | (refine guardA (b := true) rfl rfl rfl rfl (fun _ => ?_) (fun e => by cases e); refine go T3_ok 200 rfl ?_) | (refine guardA (b := false) rfl rfl rfl rfl (fun e => by cases e) (fun _ => ?_); refine go T3_ok 200 rfl ?_) | (refine condT rfl rfl ?_; refine go T3_ok 200 rfl ?_) | (refine condF rfl rfl ?_; refine go T3_ok 200 rfl ?_))
  refine row T3_ok rfl rfl rfl rfl rfl rfl (cs := tieK) rfl ?_
  intro g5 w hg5 hs5 qk B5 _
  have B1 := B1.no qk
  have B3 := B3.no qk
  have p := p.no qk
  have q := q.trans qk
  refine go T3_ok 200 rfl ?_
  repeat (first | (refine ldA T3_ok rfl rfl rfl rfl rfl (Bk.all B1) ?_; refine go T3_ok 200 rfl ?_) | (refine ldA T3_ok rfl rfl rfl rfl rfl (Bk.all B3) ?_; refine go T3_ok 200 rfl ?_) | (refine ld T3_ok rfl rfl rfl rfl (Bk.get B1 rfl) ?_; refine go T3_ok 200 rfl ?_) | (refine ld T3_ok rfl rfl rfl rfl (Bk.get B3 rfl) ?_; refine go T3_ok 200 rfl ?_) | (refine guardA (b := true) rfl rfl rfl rfl (fun _ => ?_) (fun e => by cases e); refine go T3_ok 200 rfl ?_) | (refine guardA (b := false) rfl rfl rfl rfl (fun e => by cases e) (fun _ => ?_); refine go T3_ok 200 rfl ?_) | (refine condT rfl rfl ?_; refine go T3_ok 200 rfl ?_) | (refine condF rfl rfl ?_; refine go T3_ok 200 rfl ?_))
  have S1 : Sl w w.heap.size 4 (some ⟨b1, o1, none⟩) 1 tieK := ⟨rfl, Nat.le_refl _, fun _ => ⟨b1, o1, rfl, by have := p.size; omega, hc1.keep lb1 p (fun h => h)⟩⟩
  refine call rfl rfl rfl (ok _ (by decide) rfl) (SameNet_known _ _ c 1 w S1 (B5.sl (sz := 4) (m := 1) rfl)) ?_
  rintro x w ⟨rfl, qk⟩
  have B1 := B1.no qk
  have B3 := B3.no qk
  have p := p.no qk
  have q := q.trans qk
  refine go T3_ok 200 rfl ?_
  repeat (first | (refine ldA T3_ok rfl rfl rfl rfl rfl (Bk.all B1) ?_; refine go T3_ok 200 rfl ?_) | (refine ldA T3_ok rfl rfl rfl rfl rfl (Bk.all B3) ?_; refine go T3_ok 200 rfl ?_) | (refine ld T3_ok rfl rfl rfl rfl (Bk.get B1 rfl) ?_; refine go T3_ok 200 rfl ?_) | (refine ld T3_ok rfl rfl rfl rfl (Bk.get B3 rfl) ?_; refine go T3_ok 200 rfl ?_) | (refine guardA (b := true) rfl rfl rfl rfl (fun _ => ?_) (fun e => by cases e); refine go T3_ok 200 rfl ?_) | (refine guardA (b := false) rfl rfl rfl rfl (fun e => by cases e) (fun _ => ?_); refine go T3_ok 200 rfl ?_) | (refine condT rfl rfl ?_; refine go T3_ok 200 rfl ?_) | (refine condF rfl rfl ?_; refine go T3_ok 200 rfl ?_))
  refine eqS (l' := [20, 500]) (m := [20, 500]) rfl rfl (by kernel_rfl) rfl rfl rfl ?_
  refine go T3_ok 200 rfl ?_
  repeat (first | (refine ldA T3_ok rfl rfl rfl rfl rfl (Bk.all B1) ?_; refine go T3_ok 200 rfl ?_) | (refine ldA T3_ok rfl rfl rfl rfl rfl (Bk.all B3) ?_; refine go T3_ok 200 rfl ?_) | (refine ld T3_ok rfl rfl rfl rfl (Bk.get B1 rfl) ?_; refine go T3_ok 200 rfl ?_) | (refine ld T3_ok rfl rfl rfl rfl (Bk.get B3 rfl) ?_; refine go T3_ok 200 rfl ?_) | (refine guardA (b := true) rfl rfl rfl rfl (fun _ => ?_) (fun e => by cases e); refine go T3_ok 200 rfl ?_) | (refine guardA (b := false) rfl rfl rfl rfl (fun e => by cases e) (fun _ => ?_); refine go T3_ok 200 rfl ?_) | (refine condT rfl rfl ?_; refine go T3_ok 200 rfl ?_) | (refine condF rfl rfl ?_; refine go T3_ok 200 rfl ?_))
  exact ret (ret1 (v := .bool true) Try.results9 rfl ⟨rfl, q⟩)
end Go.Proofs.Ytolhfimknimliaa
