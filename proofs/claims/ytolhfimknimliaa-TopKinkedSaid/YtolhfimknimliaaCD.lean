/- The contract of a net of pulses, at the pulse of the examples. -/
import Derived.Test.YtolhfimknimliaaCA
namespace Go.Proofs.Ytolhfimknimliaa
open Go.Ev Go.Proofs Go.Top
attribute [local irreducible] At AtH
def T3 : Tab := [(86, .slc 97 4 32), (136, .slc 92 7 56), (97, .str 4 [(0,1,false),(1,1,false),(2,1,false),(3,1,false)] [I 0, I 0, I 0, I 0]), (88, .str 2 [(0,1,false),(1,1,false)] [I 0, .slice none 0 0]),
  (92, .str 7 [(0,1,false),(1,1,false),(2,1,false),(3,1,false),(4,2,true),(6,1,false)] [I 0, I 0, I 0, I 0, I 0, I 0, I 0])] ++ T2
theorem T3_ok : tabOk Try.prog T3 = true := by kernel_rfl
theorem awithin_any (x lo hi : Int) (w : World) : Ret Try.prog 75 [.int .i64 x, .int .i64 lo, .int .i64 hi] w fun v w' => v = .bool (decide (lo ≤ x ∧ x ≤ hi)) ∧ w = w' := by
  refine enter Try.func75 rfl Try.ntmps75 rfl ?_
  refine go T3_ok 200 rfl ?_
  refine guardD rfl rfl rfl (fun h => ?_) (fun h => ?_)
  all_goals refine go T3_ok 100 rfl ?_
  all_goals refine ret (ret1 (v := .bool _) Try.results75 rfl ?_)
  all_goals simp [h]
def tieK : List Value := [I 0, I 2, I 21, I 29]
theorem tied_known (w : World) : Ret Try.prog 99 [.agg tieK.toArray, I 3] w fun x w' => x = .bool true ∧ Chg No w w' := by
  refine enter Try.func99 rfl Try.ntmps99 rfl ?_
  refine go T3_ok 200 rfl ?_
  refine bx rfl rfl rfl (cs := tieK) rfl ?_
  intro g2 u2 hg2 hs2 q2 B2
  have q := q2
  refine go T3_ok 200 rfl ?_
  repeat (first | (refine ldA T3_ok rfl rfl rfl rfl rfl (Bk.all B2) ?_; refine go T3_ok 200 rfl ?_) | (refine ld T3_ok rfl rfl rfl rfl (Bk.get B2 rfl) ?_; refine go T3_ok 200 rfl ?_) | (refine guardA (b := true) rfl rfl rfl rfl (fun _ => ?_) (fun e => by cases e); refine go T3_ok 200 rfl ?_) | (refine guardA (b := false) rfl rfl rfl rfl (fun e => by cases e) (fun _ => ?_); refine go T3_ok 200 rfl ?_) | (refine condT rfl rfl ?_; refine go T3_ok 200 rfl ?_) | (refine condF rfl rfl ?_; refine go T3_ok 200 rfl ?_))
  refine call rfl rfl rfl (ok _ (by decide) rfl) (awithin_any 21 (-1000000000) 1000000000 _) ?_
  rintro x w ⟨rfl, rfl⟩
  rw [decide_eq_true (show ((-1000000000) : Int) ≤ 21 ∧ (21 : Int) ≤ 1000000000 by decide)]
  refine go T3_ok 200 rfl ?_
  repeat (first | (refine ldA T3_ok rfl rfl rfl rfl rfl (Bk.all B2) ?_; refine go T3_ok 200 rfl ?_) | (refine ld T3_ok rfl rfl rfl rfl (Bk.get B2 rfl) ?_; refine go T3_ok 200 rfl ?_) | (refine guardA (b := true) rfl rfl rfl rfl (fun _ => ?_) (fun e => by cases e); refine go T3_ok 200 rfl ?_) | (refine guardA (b := false) rfl rfl rfl rfl (fun e => by cases e) (fun _ => ?_); refine go T3_ok 200 rfl ?_) | (refine condT rfl rfl ?_; refine go T3_ok 200 rfl ?_) | (refine condF rfl rfl ?_; refine go T3_ok 200 rfl ?_))
  refine call rfl rfl rfl (ok _ (by decide) rfl) (awithin_any 29 (-1000000000) 1000000000 _) ?_
  rintro x w ⟨rfl, rfl⟩
  rw [decide_eq_true (show ((-1000000000) : Int) ≤ 29 ∧ (29 : Int) ≤ 1000000000 by decide)]
  refine go T3_ok 200 rfl ?_
  repeat (first | (refine ldA T3_ok rfl rfl rfl rfl rfl (Bk.all B2) ?_; refine go T3_ok 200 rfl ?_) | (refine ld T3_ok rfl rfl rfl rfl (Bk.get B2 rfl) ?_; refine go T3_ok 200 rfl ?_) | (refine guardA (b := true) rfl rfl rfl rfl (fun _ => ?_) (fun e => by cases e); refine go T3_ok 200 rfl ?_) | (refine guardA (b := false) rfl rfl rfl rfl (fun e => by cases e) (fun _ => ?_); refine go T3_ok 200 rfl ?_) | (refine condT rfl rfl ?_; refine go T3_ok 200 rfl ?_) | (refine condF rfl rfl ?_; refine go T3_ok 200 rfl ?_))
  have e2 : w64 (3 - 1) = 2 := by decide +kernel
  rw [e2]
  refine call rfl rfl rfl (ok _ (by decide) rfl) (awithin_any 0 0 2 _) ?_
  rintro x w ⟨rfl, rfl⟩
  rw [decide_eq_true (show (0 : Int) ≤ 0 ∧ (0 : Int) ≤ 2 by decide)]
  refine go T3_ok 200 rfl ?_
  repeat (first | (refine ldA T3_ok rfl rfl rfl rfl rfl (Bk.all B2) ?_; refine go T3_ok 200 rfl ?_) | (refine ld T3_ok rfl rfl rfl rfl (Bk.get B2 rfl) ?_; refine go T3_ok 200 rfl ?_) | (refine guardA (b := true) rfl rfl rfl rfl (fun _ => ?_) (fun e => by cases e); refine go T3_ok 200 rfl ?_) | (refine guardA (b := false) rfl rfl rfl rfl (fun e => by cases e) (fun _ => ?_); refine go T3_ok 200 rfl ?_) | (refine condT rfl rfl ?_; refine go T3_ok 200 rfl ?_) | (refine condF rfl rfl ?_; refine go T3_ok 200 rfl ?_))
  rw [e2]
  refine call rfl rfl rfl (ok _ (by decide) rfl) (awithin_any 2 0 2 _) ?_
  rintro x w ⟨rfl, rfl⟩
  rw [decide_eq_true (show (0 : Int) ≤ 2 ∧ (2 : Int) ≤ 2 by decide)]
  refine go T3_ok 200 rfl ?_
  repeat (first | (refine ldA T3_ok rfl rfl rfl rfl rfl (Bk.all B2) ?_; refine go T3_ok 200 rfl ?_) | (refine ld T3_ok rfl rfl rfl rfl (Bk.get B2 rfl) ?_; refine go T3_ok 200 rfl ?_) | (refine guardA (b := true) rfl rfl rfl rfl (fun _ => ?_) (fun e => by cases e); refine go T3_ok 200 rfl ?_) | (refine guardA (b := false) rfl rfl rfl rfl (fun e => by cases e) (fun _ => ?_); refine go T3_ok 200 rfl ?_) | (refine condT rfl rfl ?_; refine go T3_ok 200 rfl ?_) | (refine condF rfl rfl ?_; refine go T3_ok 200 rfl ?_))
  exact ret (ret1 (v := .bool true) Try.results99 rfl ⟨rfl, q⟩)
set_option maxHeartbeats 4000000 in
theorem acheck_known (g of c B : Nat) (w0 : World) (S0 : Sl w0 B 4 (some ⟨g, of, none⟩) 1 tieK) : Ret Try.prog 76 [.agg #[I 3, .slice (some ⟨g, of, none⟩) 1 c]] w0 fun x w' => x = .bool true ∧ Chg No w0 w' := by
  refine enter Try.func76 rfl Try.ntmps76 rfl ?_
  refine go T3_ok 200 rfl ?_
  refine bx rfl rfl rfl (cs := ([I 3, .slice (some ⟨g, of, none⟩) 1 c] : List Value)) rfl ?_
  intro g1 u1 hg1 hs1 q1 B1
  have q := q1
  refine go T3_ok 200 rfl ?_
  repeat (first | (refine ldA T3_ok rfl rfl rfl rfl rfl (Bk.all B1) ?_; refine go T3_ok 200 rfl ?_) | (refine ld T3_ok rfl rfl rfl rfl (Bk.get B1 rfl) ?_; refine go T3_ok 200 rfl ?_) | (refine guardA (b := true) rfl rfl rfl rfl (fun _ => ?_) (fun e => by cases e); refine go T3_ok 200 rfl ?_) | (refine guardA (b := false) rfl rfl rfl rfl (fun e => by cases e) (fun _ => ?_); refine go T3_ok 200 rfl ?_) | (refine condT rfl rfl ?_; refine go T3_ok 200 rfl ?_) | (refine condF rfl rfl ?_; refine go T3_ok 200 rfl ?_))
  refine loop [1, 6, 7, 8] (fun j : Nat => [.pointer (some ⟨g1, 0, none⟩), .slice (some ⟨g, of, none⟩) 1 c, .int .i64 1, .int .i64 (j : Int)])
    (fun j w' => j ≤ 1 ∧ Chg No w0 w' ∧ Bk w' g1 88 [I 3, .slice (some ⟨g, of, none⟩) 1 c]) (fun j => 1 - j) 0 (fun _ => rfl) rfl ⟨by omega, q, B1⟩ ?_
  rintro j τ w ⟨hj, q, B1⟩
  refine go T3_ok 200 rfl ?_
  repeat (first | (refine ldA T3_ok rfl rfl rfl rfl rfl (Bk.all B1) ?_; refine go T3_ok 200 rfl ?_) | (refine ld T3_ok rfl rfl rfl rfl (Bk.get B1 rfl) ?_; refine go T3_ok 200 rfl ?_) | (refine guardA (b := true) rfl rfl rfl rfl (fun _ => ?_) (fun e => by cases e); refine go T3_ok 200 rfl ?_) | (refine guardA (b := false) rfl rfl rfl rfl (fun e => by cases e) (fun _ => ?_); refine go T3_ok 200 rfl ?_) | (refine condT rfl rfl ?_; refine go T3_ok 200 rfl ?_) | (refine condF rfl rfl ?_; refine go T3_ok 200 rfl ?_))
  refine condD rfl (fun hlt => ?_) (fun hlt => ?_)
  · obtain rfl : j = 0 := by omega
    obtain ⟨b, o, hA, hb, hc⟩ := (S0.no q).2.2 (by omega)
    cases hA
    refine go T3_ok 200 rfl ?_
    refine idx T3_ok rfl rfl rfl rfl rfl 0 rfl (by omega) ?_
    refine go T3_ok 200 rfl ?_
    refine ldA T3_ok rfl rfl rfl rfl rfl (cs := tieK) (by simpa using hc) ?_
    refine go T3_ok 200 rfl ?_
    have yB1 := B1.lt
    have yq := q.size
    refine nw rfl rfl (z := .agg #[I 0, I 0, I 0, I 0]) (by kernel_rfl) (cs := [I 0, I 0, I 0, I 0]) rfl ?_
    intro g4 w hg4 hs4 qk B4
    have B1 := B1.no qk
    have q := q.trans qk
    refine go T3_ok 200 rfl ?_
    refine stA T3_ok rfl rfl rfl rfl (vs := tieK) rfl rfl rfl B4 rfl ?_
    intro w qk B4 hz4
    have B4 : Bk w g4 97 (tieK) := B4
    have B1 := Bk.keep B1 qk (by omega)
    have q := q.step qk (fun k hk e => by omega)
    refine go T3_ok 200 rfl ?_
    repeat (first | (refine ldA T3_ok rfl rfl rfl rfl rfl (Bk.all B1) ?_; refine go T3_ok 200 rfl ?_) | (refine ldA T3_ok rfl rfl rfl rfl rfl (Bk.all B4) ?_; refine go T3_ok 200 rfl ?_) | (refine ld T3_ok rfl rfl rfl rfl (Bk.get B1 rfl) ?_; refine go T3_ok 200 rfl ?_) | (refine ld T3_ok rfl rfl rfl rfl (Bk.get B4 rfl) ?_; refine go T3_ok 200 rfl ?_) | (refine guardA (b := true) rfl rfl rfl rfl (fun _ => ?_) (fun e => by cases e); refine go T3_ok 200 rfl ?_) | (refine guardA (b := false) rfl rfl rfl rfl (fun e => by cases e) (fun _ => ?_); refine go T3_ok 200 rfl ?_) | (refine condT rfl rfl ?_; refine go T3_ok 200 rfl ?_) | (refine condF rfl rfl ?_; refine go T3_ok 200 rfl ?_))
    refine call rfl rfl rfl (ok _ (by decide) rfl) (tied_known _) ?_
    rintro x w ⟨rfl, qk⟩
    have B1 := B1.no qk
    have B4 := B4.no qk
    have q := q.trans qk
    refine go T3_ok 200 rfl ?_
    repeat (first | (refine ldA T3_ok rfl rfl rfl rfl rfl (Bk.all B1) ?_; refine go T3_ok 200 rfl ?_) | (refine ldA T3_ok rfl rfl rfl rfl rfl (Bk.all B4) ?_; refine go T3_ok 200 rfl ?_) | (refine ld T3_ok rfl rfl rfl rfl (Bk.get B1 rfl) ?_; refine go T3_ok 200 rfl ?_) | (refine ld T3_ok rfl rfl rfl rfl (Bk.get B4 rfl) ?_; refine go T3_ok 200 rfl ?_) | (refine guardA (b := true) rfl rfl rfl rfl (fun _ => ?_) (fun e => by cases e); refine go T3_ok 200 rfl ?_) | (refine guardA (b := false) rfl rfl rfl rfl (fun e => by cases e) (fun _ => ?_); refine go T3_ok 200 rfl ?_) | (refine condT rfl rfl ?_; refine go T3_ok 200 rfl ?_) | (refine condF rfl rfl ?_; refine go T3_ok 200 rfl ?_))
    exact round ⟨1, rfl, ⟨by omega, q, B1⟩, by omega⟩
  · obtain rfl : j = 1 := by omega
    refine go T3_ok 200 rfl ?_
    repeat (first | (refine ldA T3_ok rfl rfl rfl rfl rfl (Bk.all B1) ?_; refine go T3_ok 200 rfl ?_) | (refine ldA T3_ok rfl rfl rfl rfl rfl (Bk.all B4) ?_; refine go T3_ok 200 rfl ?_) | (refine ld T3_ok rfl rfl rfl rfl (Bk.get B1 rfl) ?_; refine go T3_ok 200 rfl ?_) | (refine ld T3_ok rfl rfl rfl rfl (Bk.get B4 rfl) ?_; refine go T3_ok 200 rfl ?_) | (refine guardA (b := true) rfl rfl rfl rfl (fun _ => ?_) (fun e => by cases e); refine go T3_ok 200 rfl ?_) | (refine guardA (b := false) rfl rfl rfl rfl (fun e => by cases e) (fun _ => ?_); refine go T3_ok 200 rfl ?_) | (refine condT rfl rfl ?_; refine go T3_ok 200 rfl ?_) | (refine condF rfl rfl ?_; refine go T3_ok 200 rfl ?_))
    refine call rfl rfl rfl (ok _ (by decide) rfl) (awithin_any 3 1 40 _) ?_
    rintro x w ⟨rfl, rfl⟩
    rw [decide_eq_true (show (1 : Int) ≤ 3 ∧ (3 : Int) ≤ 40 by decide)]
    refine go T3_ok 200 rfl ?_
    repeat (first | (refine ldA T3_ok rfl rfl rfl rfl rfl (Bk.all B1) ?_; refine go T3_ok 200 rfl ?_) | (refine ldA T3_ok rfl rfl rfl rfl rfl (Bk.all B4) ?_; refine go T3_ok 200 rfl ?_) | (refine ld T3_ok rfl rfl rfl rfl (Bk.get B1 rfl) ?_; refine go T3_ok 200 rfl ?_) | (refine ld T3_ok rfl rfl rfl rfl (Bk.get B4 rfl) ?_; refine go T3_ok 200 rfl ?_) | (refine guardA (b := true) rfl rfl rfl rfl (fun _ => ?_) (fun e => by cases e); refine go T3_ok 200 rfl ?_) | (refine guardA (b := false) rfl rfl rfl rfl (fun e => by cases e) (fun _ => ?_); refine go T3_ok 200 rfl ?_) | (refine condT rfl rfl ?_; refine go T3_ok 200 rfl ?_) | (refine condF rfl rfl ?_; refine go T3_ok 200 rfl ?_))
    exact ret (ret1 (v := .bool true) Try.results76 rfl ⟨rfl, q⟩)
def pulK : List Value := [I 0, I 2, I 100, I 130, I 4, I 6, I 3]
set_option maxHeartbeats 4000000 in
theorem Pulses_known (b : Nat) (w0 : World) (B0 : Bk w0 b 92 pulK) : Ret Try.prog 33 [I 3, .slice (some ⟨b, 0, none⟩) 1 1] w0 fun x w' => ∃ A c, x = .tuple #[.agg #[I 3, .slice A 1 c], I 0] ∧ Chg No w0 w' ∧ Sl w' w'.heap.size 4 A 1 tieK := by
  refine enter Try.func33 rfl Try.ntmps33 rfl ?_
  refine go T3_ok 200 rfl ?_
  refine nw rfl rfl (z := .agg #[I 0, .slice none 0 0]) (by kernel_rfl) (cs := [I 0, .slice none 0 0]) rfl ?_
  intro g4 w hg4 hs4 qk B4
  have lb : b < g4 := by have := B0.lt; omega
  have q := qk
  have B0 := B0.no qk
  have n04 := B0.ne B4 (by decide)
  refine go T3_ok 200 rfl ?_
  repeat (first | (refine ldA T3_ok rfl rfl rfl rfl rfl (Bk.all B0) ?_; refine go T3_ok 200 rfl ?_) | (refine ldA T3_ok rfl rfl rfl rfl rfl (Bk.all B4) ?_; refine go T3_ok 200 rfl ?_) | (refine ld T3_ok rfl rfl rfl rfl (Bk.get B0 rfl) ?_; refine go T3_ok 200 rfl ?_) | (refine ld T3_ok rfl rfl rfl rfl (Bk.get B4 rfl) ?_; refine go T3_ok 200 rfl ?_) | (refine guardA (b := true) rfl rfl rfl rfl (fun _ => ?_) (fun e => by cases e); refine go T3_ok 200 rfl ?_) | (refine guardA (b := false) rfl rfl rfl rfl (fun e => by cases e) (fun _ => ?_); refine go T3_ok 200 rfl ?_) | (refine condT rfl rfl ?_; refine go T3_ok 200 rfl ?_) | (refine condF rfl rfl ?_; refine go T3_ok 200 rfl ?_))
  refine nw rfl rfl (z := .agg #[I 0, .slice none 0 0]) (by kernel_rfl) (cs := [I 0, .slice none 0 0]) rfl ?_
  intro g6 w hg6 hs6 qk B6
  have l46 : g4 < g6 := by omega
  have B0 := B0.no qk
  have B4 := B4.no qk
  have q := q.trans qk
  refine go T3_ok 200 rfl ?_
  refine stA T3_ok rfl rfl rfl rfl (vs := [I 3, .slice none 0 0]) rfl rfl rfl B6 rfl ?_
  intro w qk B6 hz6
  have l0 := B0.lt
  have q0 := q.size
  have B0 := B0.keep qk (by omega)
  have B4 := B4.keep qk (by omega)
  have q := q.step qk (fun k hk e => by omega)
  have B6 : Bk w g6 88 [I 3, .slice none 0 0] := B6
  refine go T3_ok 200 rfl ?_
  repeat (first | (refine ldA T3_ok rfl rfl rfl rfl rfl (Bk.all B0) ?_; refine go T3_ok 200 rfl ?_) | (refine ldA T3_ok rfl rfl rfl rfl rfl (Bk.all B4) ?_; refine go T3_ok 200 rfl ?_) | (refine ld T3_ok rfl rfl rfl rfl (Bk.get B0 rfl) ?_; refine go T3_ok 200 rfl ?_) | (refine ld T3_ok rfl rfl rfl rfl (Bk.get B4 rfl) ?_; refine go T3_ok 200 rfl ?_) | (refine guardA (b := true) rfl rfl rfl rfl (fun _ => ?_) (fun e => by cases e); refine go T3_ok 200 rfl ?_) | (refine guardA (b := false) rfl rfl rfl rfl (fun e => by cases e) (fun _ => ?_); refine go T3_ok 200 rfl ?_) | (refine condT rfl rfl ?_; refine go T3_ok 200 rfl ?_) | (refine condF rfl rfl ?_; refine go T3_ok 200 rfl ?_))
  refine loop [4, 6, 16, 17, 18] (fun x : Nat × Option Addr × Nat => [.pointer (some ⟨g4, 0, none⟩), .pointer (some ⟨g6, 0, none⟩), .slice (some ⟨b, 0, none⟩) 1 1, .int .i64 1, .int .i64 (x.1 : Int)])
    (fun x w' => x.1 ≤ 1 ∧ Chg No w0 w' ∧ Bk w' b 92 pulK ∧ Bk w' g4 88 [I 0, .slice none 0 0] ∧ Bk w' g6 88 [I 3, .slice x.2.1 x.1 x.2.2] ∧ w'.ownsRow (g6 + 1) 97 4 (.slice x.2.1 x.1 x.2.2) x.1 (if x.1 = 0 then [] else tieK) ∧ g6 + 1 ≤ w'.heap.size) (fun x => 1 - x.1) (0, none, 0) (fun _ => rfl) rfl ⟨by simp, q, B0, B4, B6, own_nil, B6.lt⟩ ?_
  rintro ⟨j, A, c⟩ τ w ⟨hj, q, B0, B4, B6, o6, l6⟩
  have p := Chg.refl No w
  refine go T3_ok 200 rfl ?_
  repeat (first | (refine ldA T3_ok rfl rfl rfl rfl rfl (Bk.all B0) ?_; refine go T3_ok 200 rfl ?_) | (refine ldA T3_ok rfl rfl rfl rfl rfl (Bk.all B4) ?_; refine go T3_ok 200 rfl ?_) | (refine ldA T3_ok rfl rfl rfl rfl rfl (Bk.all B6) ?_; refine go T3_ok 200 rfl ?_) | (refine ld T3_ok rfl rfl rfl rfl (Bk.get B0 rfl) ?_; refine go T3_ok 200 rfl ?_) | (refine ld T3_ok rfl rfl rfl rfl (Bk.get B4 rfl) ?_; refine go T3_ok 200 rfl ?_) | (refine ld T3_ok rfl rfl rfl rfl (Bk.get B6 rfl) ?_; refine go T3_ok 200 rfl ?_) | (refine guardA (b := true) rfl rfl rfl rfl (fun _ => ?_) (fun e => by cases e); refine go T3_ok 200 rfl ?_) | (refine guardA (b := false) rfl rfl rfl rfl (fun e => by cases e) (fun _ => ?_); refine go T3_ok 200 rfl ?_) | (refine condT rfl rfl ?_; refine go T3_ok 200 rfl ?_) | (refine condF rfl rfl ?_; refine go T3_ok 200 rfl ?_))
  refine condD rfl (fun hlt => ?_) (fun hlt => ?_)
  · obtain rfl : j = 0 := by omega
    refine go T3_ok 200 rfl ?_
    refine idx T3_ok rfl rfl rfl rfl rfl 0 rfl (by omega) ?_
    refine go T3_ok 200 rfl ?_
    refine ldA T3_ok rfl rfl rfl rfl rfl B0.all ?_
    refine go T3_ok 200 rfl ?_
    have yB0 := B0.lt
    have yB4 := B4.lt
    have yB6 := B6.lt
    have yp := Chg.size p
    have yq := q.size
    refine nw rfl rfl (z := .agg #[I 0, I 0, I 0, I 0, I 0, I 0, I 0]) (by kernel_rfl) (cs := [I 0, I 0, I 0, I 0, I 0, I 0, I 0]) rfl ?_
    intro g8 w hg8 hs8 qk B8
    have B0 := B0.no qk
    have B4 := B4.no qk
    have B6 := B6.no qk
    have p := p.no qk
    have q := q.trans qk
    refine go T3_ok 200 rfl ?_
    refine stA T3_ok rfl rfl rfl rfl (vs := pulK) rfl rfl rfl B8 rfl ?_
    intro w qk B8 hz8
    have B8 : Bk w g8 92 (pulK) := B8
    have B0 := Bk.keep B0 qk (by omega)
    have B4 := Bk.keep B4 qk (by omega)
    have B6 := Bk.keep B6 qk (by omega)
    have p := Chg.step p qk (fun k hk e => by omega)
    have q := q.step qk (fun k hk e => by omega)
    refine go T3_ok 200 rfl ?_
    repeat (first | (refine ldA T3_ok rfl rfl rfl rfl rfl (Bk.all B0) ?_; refine go T3_ok 200 rfl ?_) | (refine ldA T3_ok rfl rfl rfl rfl rfl (Bk.all B4) ?_; refine go T3_ok 200 rfl ?_) | (refine ldA T3_ok rfl rfl rfl rfl rfl (Bk.all B6) ?_; refine go T3_ok 200 rfl ?_) | (refine ldA T3_ok rfl rfl rfl rfl rfl (Bk.all B8) ?_; refine go T3_ok 200 rfl ?_) | (refine ld T3_ok rfl rfl rfl rfl (Bk.get B0 rfl) ?_; refine go T3_ok 200 rfl ?_) | (refine ld T3_ok rfl rfl rfl rfl (Bk.get B4 rfl) ?_; refine go T3_ok 200 rfl ?_) | (refine ld T3_ok rfl rfl rfl rfl (Bk.get B6 rfl) ?_; refine go T3_ok 200 rfl ?_) | (refine ld T3_ok rfl rfl rfl rfl (Bk.get B8 rfl) ?_; refine go T3_ok 200 rfl ?_) | (refine guardA (b := true) rfl rfl rfl rfl (fun _ => ?_) (fun e => by cases e); refine go T3_ok 200 rfl ?_) | (refine guardA (b := false) rfl rfl rfl rfl (fun e => by cases e) (fun _ => ?_); refine go T3_ok 200 rfl ?_) | (refine condT rfl rfl ?_; refine go T3_ok 200 rfl ?_) | (refine condF rfl rfl ?_; refine go T3_ok 200 rfl ?_))
    refine call rfl rfl rfl (ok _ (by decide) rfl) (awithin_any 100 (-100000000) 100000000 _) ?_
    rintro x w ⟨rfl, rfl⟩
    rw [decide_eq_true (show ((-100000000) : Int) ≤ 100 ∧ (100 : Int) ≤ 100000000 by decide)]
    refine go T3_ok 200 rfl ?_
    repeat (first | (refine ldA T3_ok rfl rfl rfl rfl rfl (Bk.all B0) ?_; refine go T3_ok 200 rfl ?_) | (refine ldA T3_ok rfl rfl rfl rfl rfl (Bk.all B4) ?_; refine go T3_ok 200 rfl ?_) | (refine ldA T3_ok rfl rfl rfl rfl rfl (Bk.all B6) ?_; refine go T3_ok 200 rfl ?_) | (refine ldA T3_ok rfl rfl rfl rfl rfl (Bk.all B8) ?_; refine go T3_ok 200 rfl ?_) | (refine ld T3_ok rfl rfl rfl rfl (Bk.get B0 rfl) ?_; refine go T3_ok 200 rfl ?_) | (refine ld T3_ok rfl rfl rfl rfl (Bk.get B4 rfl) ?_; refine go T3_ok 200 rfl ?_) | (refine ld T3_ok rfl rfl rfl rfl (Bk.get B6 rfl) ?_; refine go T3_ok 200 rfl ?_) | (refine ld T3_ok rfl rfl rfl rfl (Bk.get B8 rfl) ?_; refine go T3_ok 200 rfl ?_) | (refine guardA (b := true) rfl rfl rfl rfl (fun _ => ?_) (fun e => by cases e); refine go T3_ok 200 rfl ?_) | (refine guardA (b := false) rfl rfl rfl rfl (fun e => by cases e) (fun _ => ?_); refine go T3_ok 200 rfl ?_) | (refine condT rfl rfl ?_; refine go T3_ok 200 rfl ?_) | (refine condF rfl rfl ?_; refine go T3_ok 200 rfl ?_))
    refine call rfl rfl rfl (ok _ (by decide) rfl) (awithin_any 130 (-100000000) 100000000 _) ?_
    rintro x w ⟨rfl, rfl⟩
    rw [decide_eq_true (show ((-100000000) : Int) ≤ 130 ∧ (130 : Int) ≤ 100000000 by decide)]
    refine go T3_ok 200 rfl ?_
    repeat (first | (refine ldA T3_ok rfl rfl rfl rfl rfl (Bk.all B0) ?_; refine go T3_ok 200 rfl ?_) | (refine ldA T3_ok rfl rfl rfl rfl rfl (Bk.all B4) ?_; refine go T3_ok 200 rfl ?_) | (refine ldA T3_ok rfl rfl rfl rfl rfl (Bk.all B6) ?_; refine go T3_ok 200 rfl ?_) | (refine ldA T3_ok rfl rfl rfl rfl rfl (Bk.all B8) ?_; refine go T3_ok 200 rfl ?_) | (refine ld T3_ok rfl rfl rfl rfl (Bk.get B0 rfl) ?_; refine go T3_ok 200 rfl ?_) | (refine ld T3_ok rfl rfl rfl rfl (Bk.get B4 rfl) ?_; refine go T3_ok 200 rfl ?_) | (refine ld T3_ok rfl rfl rfl rfl (Bk.get B6 rfl) ?_; refine go T3_ok 200 rfl ?_) | (refine ld T3_ok rfl rfl rfl rfl (Bk.get B8 rfl) ?_; refine go T3_ok 200 rfl ?_) | (refine guardA (b := true) rfl rfl rfl rfl (fun _ => ?_) (fun e => by cases e); refine go T3_ok 200 rfl ?_) | (refine guardA (b := false) rfl rfl rfl rfl (fun e => by cases e) (fun _ => ?_); refine go T3_ok 200 rfl ?_) | (refine condT rfl rfl ?_; refine go T3_ok 200 rfl ?_) | (refine condF rfl rfl ?_; refine go T3_ok 200 rfl ?_))
    refine call rfl rfl rfl (ok _ (by decide) rfl) (awithin_any 4 0 6 _) ?_
    rintro x w ⟨rfl, rfl⟩
    rw [decide_eq_true (show (0 : Int) ≤ 4 ∧ (4 : Int) ≤ 6 by decide)]
    refine go T3_ok 200 rfl ?_
    repeat (first | (refine ldA T3_ok rfl rfl rfl rfl rfl (Bk.all B0) ?_; refine go T3_ok 200 rfl ?_) | (refine ldA T3_ok rfl rfl rfl rfl rfl (Bk.all B4) ?_; refine go T3_ok 200 rfl ?_) | (refine ldA T3_ok rfl rfl rfl rfl rfl (Bk.all B6) ?_; refine go T3_ok 200 rfl ?_) | (refine ldA T3_ok rfl rfl rfl rfl rfl (Bk.all B8) ?_; refine go T3_ok 200 rfl ?_) | (refine ld T3_ok rfl rfl rfl rfl (Bk.get B0 rfl) ?_; refine go T3_ok 200 rfl ?_) | (refine ld T3_ok rfl rfl rfl rfl (Bk.get B4 rfl) ?_; refine go T3_ok 200 rfl ?_) | (refine ld T3_ok rfl rfl rfl rfl (Bk.get B6 rfl) ?_; refine go T3_ok 200 rfl ?_) | (refine ld T3_ok rfl rfl rfl rfl (Bk.get B8 rfl) ?_; refine go T3_ok 200 rfl ?_) | (refine guardA (b := true) rfl rfl rfl rfl (fun _ => ?_) (fun e => by cases e); refine go T3_ok 200 rfl ?_) | (refine guardA (b := false) rfl rfl rfl rfl (fun e => by cases e) (fun _ => ?_); refine go T3_ok 200 rfl ?_) | (refine condT rfl rfl ?_; refine go T3_ok 200 rfl ?_) | (refine condF rfl rfl ?_; refine go T3_ok 200 rfl ?_))
    refine call rfl rfl rfl (ok _ (by decide) rfl) (awithin_any 3 0 100000000 _) ?_
    rintro x w ⟨rfl, rfl⟩
    rw [decide_eq_true (show (0 : Int) ≤ 3 ∧ (3 : Int) ≤ 100000000 by decide)]
    refine go T3_ok 200 rfl ?_
    repeat (first | (refine ldA T3_ok rfl rfl rfl rfl rfl (Bk.all B0) ?_; refine go T3_ok 200 rfl ?_) | (refine ldA T3_ok rfl rfl rfl rfl rfl (Bk.all B4) ?_; refine go T3_ok 200 rfl ?_) | (refine ldA T3_ok rfl rfl rfl rfl rfl (Bk.all B6) ?_; refine go T3_ok 200 rfl ?_) | (refine ldA T3_ok rfl rfl rfl rfl rfl (Bk.all B8) ?_; refine go T3_ok 200 rfl ?_) | (refine ld T3_ok rfl rfl rfl rfl (Bk.get B0 rfl) ?_; refine go T3_ok 200 rfl ?_) | (refine ld T3_ok rfl rfl rfl rfl (Bk.get B4 rfl) ?_; refine go T3_ok 200 rfl ?_) | (refine ld T3_ok rfl rfl rfl rfl (Bk.get B6 rfl) ?_; refine go T3_ok 200 rfl ?_) | (refine ld T3_ok rfl rfl rfl rfl (Bk.get B8 rfl) ?_; refine go T3_ok 200 rfl ?_) | (refine guardA (b := true) rfl rfl rfl rfl (fun _ => ?_) (fun e => by cases e); refine go T3_ok 200 rfl ?_) | (refine guardA (b := false) rfl rfl rfl rfl (fun e => by cases e) (fun _ => ?_); refine go T3_ok 200 rfl ?_) | (refine condT rfl rfl ?_; refine go T3_ok 200 rfl ?_) | (refine condF rfl rfl ?_; refine go T3_ok 200 rfl ?_))
    rw [show w64 (w64 (w64 (130 - 100) - 6) - 3) = 21 by decide +kernel, show w64 (w64 (w64 (130 - 100) - 4) + 3) = 29 by decide +kernel]
    have hp := p.size
    refine app1 T3_ok rfl rfl rfl rfl rfl rfl (cs := tieK) rfl rfl rfl rfl (fun _ => rfl) (fun _ => rfl) (fun _ => rfl) (own_no o6 p) (by unfold maxLen; omega) (by omega) (by omega) ?_
    intro gx A' c' w9 o9 p9 hs9 _
    have n9 : ∀ k, (Value.slice A 0 c).ownBlock = some k → g6 + 1 ≤ k := fun k e => own_ge o6 e
    have hq := q.size
    have l0 := B0.lt
    have B0 := B0.keep p9 (fun e => by have := n9 _ e; omega)
    have B4 := B4.keep p9 (fun e => by have := n9 _ e; omega)
    have B6 := B6.keep p9 (fun e => by have := n9 _ e; omega)
    have q := q.step p9 (fun k hk e => by have := n9 _ e; omega)
    refine go T3_ok 200 rfl ?_
    repeat (first | (refine ldA T3_ok rfl rfl rfl rfl rfl (Bk.all B0) ?_; refine go T3_ok 200 rfl ?_) | (refine ldA T3_ok rfl rfl rfl rfl rfl (Bk.all B4) ?_; refine go T3_ok 200 rfl ?_) | (refine ldA T3_ok rfl rfl rfl rfl rfl (Bk.all B6) ?_; refine go T3_ok 200 rfl ?_) | (refine ldA T3_ok rfl rfl rfl rfl rfl (Bk.all B8) ?_; refine go T3_ok 200 rfl ?_) | (refine ld T3_ok rfl rfl rfl rfl (Bk.get B0 rfl) ?_; refine go T3_ok 200 rfl ?_) | (refine ld T3_ok rfl rfl rfl rfl (Bk.get B4 rfl) ?_; refine go T3_ok 200 rfl ?_) | (refine ld T3_ok rfl rfl rfl rfl (Bk.get B6 rfl) ?_; refine go T3_ok 200 rfl ?_) | (refine ld T3_ok rfl rfl rfl rfl (Bk.get B8 rfl) ?_; refine go T3_ok 200 rfl ?_) | (refine guardA (b := true) rfl rfl rfl rfl (fun _ => ?_) (fun e => by cases e); refine go T3_ok 200 rfl ?_) | (refine guardA (b := false) rfl rfl rfl rfl (fun e => by cases e) (fun _ => ?_); refine go T3_ok 200 rfl ?_) | (refine condT rfl rfl ?_; refine go T3_ok 200 rfl ?_) | (refine condF rfl rfl ?_; refine go T3_ok 200 rfl ?_))
    refine st T3_ok rfl rfl rfl rfl (v := .slice A' 1 c') rfl rfl B6 rfl ?_
    intro w q8 B6 hz6
    have B6 : Bk w g6 88 [I 3, .slice A' 1 c'] := B6
    have n8 : ∀ k, (Value.slice A' 1 c').ownBlock = some k → g6 + 1 ≤ k := fun k e => own_ge o9 e
    refine go T3_ok 200 rfl ?_
    repeat (first | (refine ldA T3_ok rfl rfl rfl rfl rfl (Bk.all B0) ?_; refine go T3_ok 200 rfl ?_) | (refine ldA T3_ok rfl rfl rfl rfl rfl (Bk.all B4) ?_; refine go T3_ok 200 rfl ?_) | (refine ldA T3_ok rfl rfl rfl rfl rfl (Bk.all B6) ?_; refine go T3_ok 200 rfl ?_) | (refine ldA T3_ok rfl rfl rfl rfl rfl (Bk.all B8) ?_; refine go T3_ok 200 rfl ?_) | (refine ld T3_ok rfl rfl rfl rfl (Bk.get B0 rfl) ?_; refine go T3_ok 200 rfl ?_) | (refine ld T3_ok rfl rfl rfl rfl (Bk.get B4 rfl) ?_; refine go T3_ok 200 rfl ?_) | (refine ld T3_ok rfl rfl rfl rfl (Bk.get B6 rfl) ?_; refine go T3_ok 200 rfl ?_) | (refine ld T3_ok rfl rfl rfl rfl (Bk.get B8 rfl) ?_; refine go T3_ok 200 rfl ?_) | (refine guardA (b := true) rfl rfl rfl rfl (fun _ => ?_) (fun e => by cases e); refine go T3_ok 200 rfl ?_) | (refine guardA (b := false) rfl rfl rfl rfl (fun e => by cases e) (fun _ => ?_); refine go T3_ok 200 rfl ?_) | (refine condT rfl rfl ?_; refine go T3_ok 200 rfl ?_) | (refine condF rfl rfl ?_; refine go T3_ok 200 rfl ?_))
    refine round ⟨(1, A', c'), rfl, ⟨by simp, q.step q8 (fun k hk e => by omega), B0.keep q8 (by omega), B4.keep q8 (by omega), B6, ?_, by have := B6.lt; omega⟩, by simp⟩
    have o9 := own_keep o9 q8 (fun k e hk => by have := n8 k e; omega)
    simpa [tieK] using o9
  · obtain rfl : j = 1 := by omega
    have B6 : Bk w g6 88 [I 3, .slice A 1 c] := B6
    refine go T3_ok 200 rfl ?_
    refine ldA T3_ok rfl rfl rfl rfl rfl B6.all ?_
    refine go T3_ok 200 rfl ?_
    have S6 := own_sl (by simpa using o6 : w.ownsRow (g6 + 1) 97 4 (.slice A 1 c) 1 tieK)
    obtain ⟨bb, oo, rfl, hbb, hcc⟩ := S6.2.2 (by omega)
    have n8 := own_ge o6 (k := bb) rfl
    refine call rfl rfl rfl (ok _ (by decide) rfl) (acheck_known bb oo c _ _ S6) ?_
    rintro x w ⟨rfl, qk⟩
    have B0 := B0.no qk
    have B4 := B4.no qk
    have B6 := B6.no qk
    have q := q.trans qk
    refine go T3_ok 200 rfl ?_
    repeat (first | (refine ldA T3_ok rfl rfl rfl rfl rfl (Bk.all B0) ?_; refine go T3_ok 200 rfl ?_) | (refine ldA T3_ok rfl rfl rfl rfl rfl (Bk.all B4) ?_; refine go T3_ok 200 rfl ?_) | (refine ldA T3_ok rfl rfl rfl rfl rfl (Bk.all B6) ?_; refine go T3_ok 200 rfl ?_) | (refine ld T3_ok rfl rfl rfl rfl (Bk.get B0 rfl) ?_; refine go T3_ok 200 rfl ?_) | (refine ld T3_ok rfl rfl rfl rfl (Bk.get B4 rfl) ?_; refine go T3_ok 200 rfl ?_) | (refine ld T3_ok rfl rfl rfl rfl (Bk.get B6 rfl) ?_; refine go T3_ok 200 rfl ?_) | (refine guardA (b := true) rfl rfl rfl rfl (fun _ => ?_) (fun e => by cases e); refine go T3_ok 200 rfl ?_) | (refine guardA (b := false) rfl rfl rfl rfl (fun e => by cases e) (fun _ => ?_); refine go T3_ok 200 rfl ?_) | (refine condT rfl rfl ?_; refine go T3_ok 200 rfl ?_) | (refine condF rfl rfl ?_; refine go T3_ok 200 rfl ?_))
    refine stA T3_ok rfl rfl rfl rfl (vs := [I 3, .slice (some ⟨bb, oo, none⟩) 1 c]) rfl rfl rfl B4 rfl ?_
    intro w' qf B4 hs4
    refine go T3_ok 200 rfl ?_
    have hk1 := qk.size
    have hk2 := qf.size
    have hc2 := (hcc.keep hbb qk (fun h => h)).keep (by omega) qf (by omega)
    have B4 : Bk w' g4 88 [I 3, .slice (some ⟨bb, oo, none⟩) 1 c] := B4
    refine ret (retR2 Try.results33 (resA T3_ok rfl rfl rfl B4.all) rfl ⟨_, _, rfl, q.step qf (fun k hk e => by omega), S6.1, Nat.le_refl _, fun _ => ⟨bb, oo, rfl, by omega, hc2⟩⟩)
end Go.Proofs.Ytolhfimknimliaa
