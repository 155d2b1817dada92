/- The contracts of gates and kinks. -/
import Derived.Test.YtolhfimknimliaaC9
import Derived.Test.YtolhfimknimliaaG0
import Derived.Test.YtolhfimknimliaaEG
namespace Go.Proofs.Ytolhfimknimliaa.L
open Go.Ev Go.Proofs Go.Bend
attribute [local irreducible] At AtH
def T : Tab := [(3, .one), (4, .one), (31, .one), (45, .slc 3 1 8), (44, .slc 50 3 24), (50, .str 3 [(0,1,false),(1,1,false),(2,1,false)] [I 0, I 0, I 0]), (41, .slc 47 2 48), (47, .str 2 [(0,1,false),(1,1,false)] [.slice none 0 0, .slice none 0 0]),
 (24, .str 2 [(0,1,false),(1,1,false)] [I 0, I 0]), (53, .slc 24 2 16), (114, .slc 118 1 8), (117, .one), (118, .one), (120, .arr 2 1 false), (116, .one)]
theorem T_ok : tabOk Try.prog T = true := by kernel_rfl
def iL (l : List Int) : List Value := l.map I
def gaL (g : Ga) : List Value := [I g.z, I g.lo, I g.hi]
theorem gaL_len (g : Ga) : (gaL g).length = 3 := rfl
abbrev SG (w : World) (B : Nat) (A : Option Addr) (l : List Ga) : Prop := Sl w B 3 A l.length (l.flatMap gaL)
theorem get_ga {l : List Ga} {i : Nat} (h : i < l.length) : ∃ g, l[i]? = some g := ⟨_, List.getElem?_eq_getElem h⟩
theorem get_i {l : List Int} {i : Nat} (h : i < l.length) : ∃ g, l[i]? = some g := ⟨_, List.getElem?_eq_getElem h⟩
theorem in83 (x lo hi : Int) (w : World) : Ret Try.prog 83 [.int .i64 x, .int .i64 lo, .int .i64 hi] w fun v w' => v = .bool (decide (lo ≤ x ∧ x ≤ hi)) ∧ w = w' := by
 refine enter Try.func83 rfl Try.ntmps83 rfl ?_
 refine go T_ok 200 rfl ?_
 refine guardD rfl rfl rfl (fun h => ?_) (fun h => ?_)
 all_goals refine go T_ok 100 rfl ?_
 all_goals refine ret (ret1 (v := .bool _) Try.results83 rfl ?_)
 all_goals simp [h]
theorem in50 (x lo hi : Int) (w : World) : Ret Try.prog 50 [.int .i64 x, .int .i64 lo, .int .i64 hi] w fun v w' => v = .bool (decide (lo ≤ x ∧ x ≤ hi)) ∧ w = w' := by
 refine enter Try.func50 rfl Try.ntmps50 rfl ?_
 refine go T_ok 200 rfl ?_
 refine guardD rfl rfl rfl (fun h => ?_) (fun h => ?_)
 all_goals refine go T_ok 100 rfl ?_
 all_goals refine ret (ret1 (v := .bool _) Try.results50 rfl ?_)
 all_goals simp [h]
theorem Gate_any (g : Ga) (w : World) : Ret Try.prog 46 [.agg (gaL g).toArray] w fun v w' => (∃ b, v = .bool b ∧ (b = true → GaOk g)) ∧ Chg No w w' := by
 refine enter Try.func46 rfl Try.ntmps46 rfl ?_
 refine go T_ok 200 rfl ?_
 refine bx rfl rfl rfl (cs := gaL g) rfl ?_
 intro g1 u1 hg1 hs1 q1 B1
 have q := q1
 refine go T_ok 200 rfl ?_
 repeat ((first | refine ldA T_ok rfl rfl rfl rfl rfl (Bk.all B1) ?_ | refine ld T_ok rfl rfl rfl rfl (Bk.get B1 rfl) ?_ | refine gT rfl rfl rfl rfl ?_ | refine gF rfl rfl rfl rfl ?_ | refine condT rfl rfl ?_ | refine condF rfl rfl ?_); refine go T_ok 200 rfl ?_)
 refine call rfl rfl rfl (ok _ (by decide) rfl) (in83 g.z 0 100000 _) ?_
 rintro x w ⟨rfl, rfl⟩
 by_cases h1 : 0 ≤ g.z ∧ g.z ≤ 100000
 case neg =>
  rw [decide_eq_false h1]
  refine go T_ok 200 rfl ?_
  repeat ((first | refine ldA T_ok rfl rfl rfl rfl rfl (Bk.all B1) ?_ | refine ld T_ok rfl rfl rfl rfl (Bk.get B1 rfl) ?_ | refine gT rfl rfl rfl rfl ?_ | refine gF rfl rfl rfl rfl ?_ | refine condT rfl rfl ?_ | refine condF rfl rfl ?_); refine go T_ok 200 rfl ?_)
  exact ret (ret1 (v := .bool _) Try.results46 rfl ⟨⟨_, rfl, fun h => by cases h⟩, q⟩)
 rw [decide_eq_true h1]
 refine go T_ok 200 rfl ?_
 repeat ((first | refine ldA T_ok rfl rfl rfl rfl rfl (Bk.all B1) ?_ | refine ld T_ok rfl rfl rfl rfl (Bk.get B1 rfl) ?_ | refine gT rfl rfl rfl rfl ?_ | refine gF rfl rfl rfl rfl ?_ | refine condT rfl rfl ?_ | refine condF rfl rfl ?_); refine go T_ok 200 rfl ?_)
 refine call rfl rfl rfl (ok _ (by decide) rfl) (in83 g.lo (-1000000) g.hi _) ?_
 rintro x w ⟨rfl, rfl⟩
 by_cases h2 : -1000000 ≤ g.lo ∧ g.lo ≤ g.hi
 case neg =>
  rw [decide_eq_false h2]
  refine go T_ok 200 rfl ?_
  repeat ((first | refine ldA T_ok rfl rfl rfl rfl rfl (Bk.all B1) ?_ | refine ld T_ok rfl rfl rfl rfl (Bk.get B1 rfl) ?_ | refine gT rfl rfl rfl rfl ?_ | refine gF rfl rfl rfl rfl ?_ | refine condT rfl rfl ?_ | refine condF rfl rfl ?_); refine go T_ok 200 rfl ?_)
  exact ret (ret1 (v := .bool _) Try.results46 rfl ⟨⟨_, rfl, fun h => by cases h⟩, q⟩)
 rw [decide_eq_true h2]
 refine go T_ok 200 rfl ?_
 repeat ((first | refine ldA T_ok rfl rfl rfl rfl rfl (Bk.all B1) ?_ | refine ld T_ok rfl rfl rfl rfl (Bk.get B1 rfl) ?_ | refine gT rfl rfl rfl rfl ?_ | refine gF rfl rfl rfl rfl ?_ | refine condT rfl rfl ?_ | refine condF rfl rfl ?_); refine go T_ok 200 rfl ?_)
 exact ret (ret1 (v := .bool _) Try.results46 rfl ⟨⟨_, rfl, fun h => ⟨h1.1, h1.2, h2.1, h2.2, of_decide_eq_true h⟩⟩, q⟩)
theorem gate_ok (g : Ga) (hg : GaOk g) (w : World) : Ret Try.prog 115 [.agg (gaL g).toArray] w fun v w' => v = .bool true ∧ Chg No w w' := by
 refine enter Try.func115 rfl Try.ntmps115 rfl ?_
 refine go T_ok 200 rfl ?_
 refine bx rfl rfl rfl (cs := gaL g) rfl ?_
 intro g1 u1 hg1 hs1 q1 B1
 have q := q1
 refine go T_ok 200 rfl ?_
 repeat ((first | refine ldA T_ok rfl rfl rfl rfl rfl (Bk.all B1) ?_ | refine ld T_ok rfl rfl rfl rfl (Bk.get B1 rfl) ?_ | refine gT rfl rfl rfl rfl ?_ | refine gF rfl rfl rfl rfl ?_ | refine condT rfl rfl ?_ | refine condF rfl rfl ?_); refine go T_ok 200 rfl ?_)
 refine call rfl rfl rfl (ok _ (by decide) rfl) (in50 g.z 0 100000 _) ?_
 rintro x w ⟨rfl, rfl⟩
 rw [decide_eq_true (show 0 ≤ g.z ∧ g.z ≤ 100000 from ⟨hg.z0, hg.z1⟩)]
 refine go T_ok 200 rfl ?_
 repeat ((first | refine ldA T_ok rfl rfl rfl rfl rfl (Bk.all B1) ?_ | refine ld T_ok rfl rfl rfl rfl (Bk.get B1 rfl) ?_ | refine gT rfl rfl rfl rfl ?_ | refine gF rfl rfl rfl rfl ?_ | refine condT rfl rfl ?_ | refine condF rfl rfl ?_); refine go T_ok 200 rfl ?_)
 rw [decide_eq_true hg.l0]
 refine go T_ok 200 rfl ?_
 repeat ((first | refine ldA T_ok rfl rfl rfl rfl rfl (Bk.all B1) ?_ | refine ld T_ok rfl rfl rfl rfl (Bk.get B1 rfl) ?_ | refine gT rfl rfl rfl rfl ?_ | refine gF rfl rfl rfl rfl ?_ | refine condT rfl rfl ?_ | refine condF rfl rfl ?_); refine go T_ok 200 rfl ?_)
 rw [decide_eq_true hg.lh]
 refine go T_ok 200 rfl ?_
 repeat ((first | refine ldA T_ok rfl rfl rfl rfl rfl (Bk.all B1) ?_ | refine ld T_ok rfl rfl rfl rfl (Bk.get B1 rfl) ?_ | refine gT rfl rfl rfl rfl ?_ | refine gF rfl rfl rfl rfl ?_ | refine condT rfl rfl ?_ | refine condF rfl rfl ?_); refine go T_ok 200 rfl ?_)
 rw [decide_eq_true hg.h1]
 refine go T_ok 200 rfl ?_
 repeat ((first | refine ldA T_ok rfl rfl rfl rfl rfl (Bk.all B1) ?_ | refine ld T_ok rfl rfl rfl rfl (Bk.get B1 rfl) ?_ | refine gT rfl rfl rfl rfl ?_ | refine gF rfl rfl rfl rfl ?_ | refine condT rfl rfl ?_ | refine condF rfl rfl ?_); refine go T_ok 200 rfl ?_)
 exact ret (ret1 (v := .bool _) Try.results115 rfl ⟨rfl, q⟩)
set_option maxHeartbeats 4000000 in
theorem checked_ok (l : List Ga) (hl : BeOk l) (A : Option Addr) (c B : Nat) (w : World) (S0 : SG w B A l) : Ret Try.prog 84 [.slice A l.length c] w fun v w' => v = .bool true ∧ Chg No w w' := by
 have hn0 := hl.n0
 have hn1 := hl.n1
 refine enter Try.func84 rfl Try.ntmps84 rfl ?_
 refine go T_ok 200 rfl ?_
 refine loop [0, 5, 6, 7] (fun j : Nat => [.slice A l.length c, .slice A l.length c, .int .i64 (l.length : Int), .int .i64 (j : Int)])
  (fun j w' => j ≤ l.length ∧ Chg No w w') (fun j => l.length - j) 0 (fun _ => rfl) rfl ⟨Nat.zero_le _, Chg.refl _ _⟩ ?_
 rintro j τ w ⟨hj, q⟩
 have S1 := S0.no q
 refine go T_ok 200 rfl ?_
 refine condD rfl (fun hlt => ?_) (fun hlt => ?_)
 ·have hltj : j < l.length := by have : (j : Int) < (l.length : Int) := hlt; omega
  obtain ⟨g, hg⟩ := get_ga hltj
  obtain ⟨b1, o1, hA1, hb1, hc1⟩ := S1.el gaL_len hg
  have e3 : w64 ((j : Int) + 1) = ((j + 1 : Nat) : Int) := w64_id (by omega) (by omega)
  refine go T_ok 200 rfl ?_
  rw [hA1]
  refine idx T_ok rfl rfl rfl rfl rfl j rfl hltj ?_
  refine go T_ok 200 rfl ?_
  refine ldA T_ok rfl rfl rfl rfl rfl hc1 ?_
  refine go T_ok 200 rfl ?_
  rw [← hA1]
  have yS1 := S1.2.1
  have yq := q.size
  refine nw rfl rfl (z := .agg #[I 0, I 0, I 0]) (by kernel_rfl) (cs := [I 0, I 0, I 0]) rfl ?_
  intro g4 w hg4 hs4 qk B4
  have S1 := S1.no qk
  have q := q.trans qk
  refine go T_ok 200 rfl ?_
  refine stA T_ok rfl rfl rfl rfl (vs := gaL g) rfl rfl rfl B4 rfl ?_
  intro w qk B4 hz4
  have B4 : Bk w g4 50 (gaL g) := B4
  have S1 := Sl.keep S1 qk (fun k hk e => by omega)
  have q := q.step qk (fun k hk e => by omega)
  refine go T_ok 200 rfl ?_
  repeat ((first | refine ldA T_ok rfl rfl rfl rfl rfl (Bk.all B4) ?_ | refine ld T_ok rfl rfl rfl rfl (Bk.get B4 rfl) ?_ | refine gT rfl rfl rfl rfl ?_ | refine gF rfl rfl rfl rfl ?_ | refine condT rfl rfl ?_ | refine condF rfl rfl ?_); refine go T_ok 200 rfl ?_)
  refine call rfl rfl rfl (ok _ (by decide) rfl) (gate_ok g (hl.ok g (List.mem_of_getElem? hg)).1 _) ?_
  rintro x w ⟨rfl, qk⟩
  have S1 := S1.no qk
  have B4 := B4.no qk
  have q := q.trans qk
  refine go T_ok 200 rfl ?_
  repeat ((first | refine ldA T_ok rfl rfl rfl rfl rfl (Bk.all B4) ?_ | refine ld T_ok rfl rfl rfl rfl (Bk.get B4 rfl) ?_ | refine gT rfl rfl rfl rfl ?_ | refine gF rfl rfl rfl rfl ?_ | refine condT rfl rfl ?_ | refine condF rfl rfl ?_); refine go T_ok 200 rfl ?_)
  rw [e3]
  exact round ⟨j + 1, rfl, ⟨by omega, q⟩, by omega⟩
 refine go T_ok 200 rfl ?_
 refine call rfl rfl rfl (ok _ (by decide) rfl) (in50 (l.length : Int) 1 24 _) ?_
 rintro x w ⟨rfl, rfl⟩
 rw [decide_eq_true (show 1 ≤ (l.length : Int) ∧ (l.length : Int) ≤ 24 by omega)]
 refine go T_ok 200 rfl ?_
 exact ret (ret1 (v := .bool _) Try.results84 rfl ⟨rfl, q⟩)
set_option maxRecDepth 20000 in
set_option maxHeartbeats 4000000 in
theorem broken_ok (l : List Ga) (hl : BeOk l) (A : Option Addr) (c B : Nat) (w : World) (S0 : SG w B A l) : Ret Try.prog 49 [.slice A l.length c] w fun v w' => v = .bool true ∧ Chg No w w' := by
 have hn0 := hl.n0
 have hn1 := hl.n1
 refine enter Try.func49 rfl Try.ntmps49 rfl ?_
 refine go T_ok 200 rfl ?_
 refine loop [0, 5, 6, 7] (fun j : Nat => [.slice A l.length c, .slice A l.length c, .int .i64 (l.length : Int), .int .i64 (j : Int)])
  (fun j w' => j ≤ l.length ∧ Chg No w w') (fun j => l.length - j) 0 (fun _ => rfl) rfl ⟨Nat.zero_le _, Chg.refl _ _⟩ ?_
 rintro j τ w ⟨hj, q⟩
 have S1 := S0.no q
 refine go T_ok 200 rfl ?_
 refine condD rfl (fun hlt => ?_) (fun hlt => ?_)
 ·have hltj : j < l.length := by have : (j : Int) < (l.length : Int) := hlt; omega
  obtain ⟨g, hg⟩ := get_ga hltj
  obtain ⟨hgo, hg60⟩ := hl.ok g (List.mem_of_getElem? hg)
  have x1 := hgo.l0; have x2 := hgo.lh; have x3 := hgo.h1
  obtain ⟨b1, o1, hA1, hb1, hc1⟩ := S1.el gaL_len hg
  have e3 : w64 ((j : Int) + 1) = ((j + 1 : Nat) : Int) := w64_id (by omega) (by omega)
  refine go T_ok 200 rfl ?_
  rw [hA1]
  refine idx T_ok rfl rfl rfl rfl rfl j rfl hltj ?_
  refine go T_ok 200 rfl ?_
  refine ldA T_ok rfl rfl rfl rfl rfl hc1 ?_
  refine go T_ok 200 rfl ?_
  rw [← hA1]
  have yS1 := S1.2.1
  have yq := q.size
  refine nw rfl rfl (z := .agg #[I 0, I 0, I 0]) (by kernel_rfl) (cs := [I 0, I 0, I 0]) rfl ?_
  intro g4 w hg4 hs4 qk B4
  have S1 := S1.no qk
  have q := q.trans qk
  refine go T_ok 200 rfl ?_
  refine stA T_ok rfl rfl rfl rfl (vs := gaL g) rfl rfl rfl B4 rfl ?_
  intro w qk B4 hz4
  have B4 : Bk w g4 50 (gaL g) := B4
  have S1 := Sl.keep S1 qk (fun k hk e => by omega)
  have q := q.step qk (fun k hk e => by omega)
  refine go T_ok 200 rfl ?_
  refine draw mixed (fun w' => Chg No w w') ([0,1,2,3,4,5,6,7,8,9,10,11,12,13,14,15,16,17,18,19,20].map (fun i => (i, true))) rfl (by kernel_rfl) (Chg.drew _) ?_
  refine goH T_ok 200 rfl ?_
  repeat (first | (refine quietH rfl (fun w' hS => r_load T_ok rfl rfl rfl (Bk.get (B4.no hS) rfl)) ?_; refine goH T_ok 200 rfl ?_))
  rw [w64_id (x := g.hi - g.lo) (by omega) (by omega)]
  refine guardHA (b := false) rfl rfl rfl (congrArg Value.bool (decide_eq_false (by omega))) (fun h => by cases h) (fun _ => ?_)
  refine goH T_ok 200 rfl ?_
  by_cases hj0 : j = 0
  ·refine guardHA (b := false) rfl rfl rfl (congrArg Value.bool (decide_eq_false (by omega))) (fun h => by cases h) (fun _ => ?_)
   refine goH T_ok 200 rfl ?_
   repeat (first | (refine passE rfl ?_; refine goH T_ok 200 rfl ?_) | (refine guardHA (b := false) rfl rfl rfl rfl (fun h => by cases h) (fun _ => ?_); refine goH T_ok 200 rfl ?_) | (refine guardHA (b := true) rfl rfl rfl rfl (fun _ => ?_) (fun h => by cases h); refine goH T_ok 200 rfl ?_))
   refine endH ?_
   have qk := Chg.drew w
   have S1 := S1.no qk
   have B4 := B4.no qk
   have q := q.trans qk
   refine go T_ok 200 rfl ?_
   repeat (first | (refine gT rfl rfl rfl rfl ?_; refine go T_ok 200 rfl ?_) | (refine gF rfl rfl rfl rfl ?_; refine go T_ok 200 rfl ?_) | (refine condT rfl rfl ?_; refine go T_ok 200 rfl ?_) | (refine condF rfl rfl ?_; refine go T_ok 200 rfl ?_))
   rw [e3]
   exact round ⟨j + 1, rfl, ⟨by omega, q⟩, by omega⟩
  obtain ⟨j', hj'⟩ : ∃ j', j = j' + 1 := ⟨j - 1, by omega⟩
  obtain ⟨a, ha⟩ := get_ga (l := l) (i := j') (by omega)
  obtain ⟨b2, o2, hA2, hb2, hc2⟩ := S1.el gaL_len ha
  have l2 : b2 < w.heap.size := Nat.lt_of_lt_of_le hb2 S1.2.1
  have e10 : w64 ((j : Int) - 1) = ((j' : Nat) : Int) := by rw [w64_id (by omega) (by omega)]; omega
  have hup : a.z < g.z := hl.up j' a ha g (by rw [← hj']; exact hg)
  refine guardHA (b := true) rfl rfl rfl (congrArg Value.bool (decide_eq_true (by omega))) (fun _ => ?_) (fun h => by cases h)
  refine goH T_ok 200 rfl ?_
  repeat (first | (refine quietH rfl (fun w' hS => r_load T_ok rfl rfl rfl (Bk.get (B4.no hS) rfl)) ?_; refine goH T_ok 200 rfl ?_))
  rw [e10, hA2]
  refine quietH rfl (fun w' hS => r_idx T_ok rfl rfl rfl rfl j' rfl (by omega)) ?_
  refine goH T_ok 200 rfl ?_
  refine quietH rfl (fun w' hS => r_load T_ok rfl rfl rfl ((hc2.keep l2 hS (fun h => h)).get (i := 0) rfl)) ?_
  rw [← hA2]
  refine goH T_ok 200 rfl ?_
  rw [decide_eq_false (show ¬ g.z ≤ a.z by omega)]
  refine goH T_ok 200 rfl ?_
  repeat (first | (refine passE rfl ?_; refine goH T_ok 200 rfl ?_) | (refine guardHA (b := false) rfl rfl rfl rfl (fun h => by cases h) (fun _ => ?_); refine goH T_ok 200 rfl ?_) | (refine guardHA (b := true) rfl rfl rfl rfl (fun _ => ?_) (fun h => by cases h); refine goH T_ok 200 rfl ?_))
  refine endH ?_
  have qk := Chg.drew w
  have S1 := S1.no qk
  have B4 := B4.no qk
  have q := q.trans qk
  refine go T_ok 200 rfl ?_
  repeat (first | (refine gT rfl rfl rfl rfl ?_; refine go T_ok 200 rfl ?_) | (refine gF rfl rfl rfl rfl ?_; refine go T_ok 200 rfl ?_) | (refine condT rfl rfl ?_; refine go T_ok 200 rfl ?_) | (refine condF rfl rfl ?_; refine go T_ok 200 rfl ?_))
  rw [e3]
  exact round ⟨j + 1, rfl, ⟨by omega, q⟩, by omega⟩
 refine go T_ok 200 rfl ?_
 refine call rfl rfl rfl (ok _ (by decide) rfl) (in50 (l.length : Int) 2 8 _) ?_
 rintro x w ⟨rfl, rfl⟩
 rw [decide_eq_true (show 2 ≤ (l.length : Int) ∧ (l.length : Int) ≤ 8 by omega)]
 refine go T_ok 200 rfl ?_
 repeat (first | (refine gT rfl rfl rfl rfl ?_; refine go T_ok 200 rfl ?_) | (refine gF rfl rfl rfl rfl ?_; refine go T_ok 200 rfl ?_) | (refine condT rfl rfl ?_; refine go T_ok 200 rfl ?_) | (refine condF rfl rfl ?_; refine go T_ok 200 rfl ?_))
 refine call rfl rfl rfl (ok _ (by decide) rfl) (checked_ok l hl A c _ _ S1) ?_
 rintro x w ⟨rfl, qk⟩
 have S1 := S1.no qk
 have q := q.trans qk
 refine go T_ok 200 rfl ?_
 exact ret (ret1 (v := .bool _) Try.results49 rfl ⟨rfl, q⟩)
/-- heights as they ought to be -/
structure ZsOk (l : List Int) : Prop where
 b : ∀ z ∈ l, 0 ≤ z ∧ z ≤ 100000
 up : ∀ i : Nat, ∀ a ∈ l[i]?, ∀ b ∈ l[i + 1]?, a < b
 n0 : 2 ≤ l.length
 n1 : l.length ≤ 8
set_option maxRecDepth 20000 in
set_option maxHeartbeats 4000000 in
theorem Heights_any (l : List Int) (hn : l.length ≤ 1000) (A : Option Addr) (c B : Nat) (w : World) (S0 : Sl w B 1 A l.length (iL l)) : Ret Try.prog 47 [.slice A l.length c] w fun v w' => (∃ b, v = .bool b ∧ (b = true → ZsOk l)) ∧ Chg No w w' := by
 refine enter Try.func47 rfl Try.ntmps47 rfl ?_
 refine go T_ok 200 rfl ?_
 refine loop [0, 3] (fun j : Nat => [.slice A l.length c, .int .i64 (j : Int)])
  (fun j w' => j ≤ l.length ∧ Chg No w w' ∧ (∀ i, i < j → ∀ z, l[i]? = some z → 0 ≤ z ∧ z ≤ 100000) ∧ ∀ i, i + 1 < j → ∀ a, l[i]? = some a → ∀ b, l[i + 1]? = some b → a < b) (fun j => l.length - j) 0 (fun _ => rfl) rfl ⟨Nat.zero_le _, Chg.refl _ _, fun i h => absurd h (Nat.not_lt_zero _), fun i h => absurd h (by omega)⟩ ?_
 rintro j τ w ⟨hj, q, hz, hu⟩
 have S1 := S0.no q
 refine go T_ok 200 rfl ?_
 refine condD rfl (fun hlt => ?_) (fun hlt => ?_)
 ·have hltj : j < l.length := by have : (j : Int) < (l.length : Int) := hlt; omega
  obtain ⟨z, hg⟩ := get_i hltj
  obtain ⟨b1, o1, hA1, hb1, hc1⟩ := S1.elI hg
  have l1 : b1 < w.heap.size := Nat.lt_of_lt_of_le hb1 S1.2.1
  have e3 : w64 ((j : Int) + 1) = ((j + 1 : Nat) : Int) := w64_id (by omega) (by omega)
  have hcell : ∀ w', Chg No w w' → w'.cell? ⟨b1, o1 + j * 1, none⟩ = some (I z) := fun w' hS => (hS.cell (a := ⟨b1, o1 + j * 1, none⟩) l1 (fun h => h)).trans hc1
  refine go T_ok 200 rfl ?_
  refine draw mixed (fun w' => Chg No w w') ([0,1,2,3].map (fun i => (i, true)) ++ [(4, false)] ++ [5,6,7,8,9,10,11,12,13,14,15,16,17,18,19,20,21].map (fun i => (i, true))) rfl (by kernel_rfl) (Chg.drew _) ?_
  refine goH T_ok 200 rfl ?_
  rw [hA1]
  refine quietH rfl (fun w' hS => r_idx T_ok rfl rfl rfl rfl j rfl hltj) ?_
  refine goH T_ok 200 rfl ?_
  refine quietH rfl (fun w' hS => r_load T_ok rfl rfl rfl (hcell w' hS)) ?_
  rw [← hA1]
  refine goH T_ok 200 rfl ?_
  refine callE rfl rfl rfl (ok _ (by decide) rfl) (in83 z 0 100000 _) ?_
  rintro x' w' ⟨rfl, rfl⟩
  refine ⟨Chg.drew _, ?_⟩
  by_cases hk : 0 ≤ z ∧ z ≤ 100000
  case neg =>
   rw [decide_eq_false hk]
   refine goH T_ok 200 rfl ?_
   repeat (first | (refine passE rfl ?_; refine goH T_ok 200 rfl ?_) | (refine guardHA (b := false) rfl rfl rfl rfl (fun h => by cases h) (fun _ => ?_); refine goH T_ok 200 rfl ?_) | (refine guardHA (b := true) rfl rfl rfl rfl (fun _ => ?_) (fun h => by cases h); refine goH T_ok 200 rfl ?_))
   refine endH ?_
   have qk := Chg.drew w
   have S1 := S1.no qk
   have q := q.trans qk
   refine go T_ok 200 rfl ?_
   repeat (first | (refine gT rfl rfl rfl rfl ?_; refine go T_ok 200 rfl ?_) | (refine gF rfl rfl rfl rfl ?_; refine go T_ok 200 rfl ?_) | (refine condT rfl rfl ?_; refine go T_ok 200 rfl ?_) | (refine condF rfl rfl ?_; refine go T_ok 200 rfl ?_))
   exact ret (ret1 (v := .bool false) Try.results47 rfl ⟨⟨false, rfl, fun h => by cases h⟩, q⟩)
  rw [decide_eq_true hk]
  have hz' : ∀ i, i < j + 1 → ∀ z, l[i]? = some z → 0 ≤ z ∧ z ≤ 100000 := fun i hi y hy => by
   by_cases he : i = j
   ·subst he; rw [hg] at hy; cases hy; exact hk
   ·exact hz i (by omega) y hy
  refine goH T_ok 200 rfl ?_
  repeat (first | (refine gTH rfl rfl rfl rfl ?_; refine goH T_ok 200 rfl ?_) | (refine gFH rfl rfl rfl rfl ?_; refine goH T_ok 200 rfl ?_))
  by_cases hj0 : j = 0
  ·refine guardHA (b := false) rfl rfl rfl (congrArg Value.bool (decide_eq_false (by omega))) (fun h => by cases h) (fun _ => ?_)
   refine goH T_ok 200 rfl ?_
   repeat (first | (refine passE rfl ?_; refine goH T_ok 200 rfl ?_) | (refine guardHA (b := false) rfl rfl rfl rfl (fun h => by cases h) (fun _ => ?_); refine goH T_ok 200 rfl ?_) | (refine guardHA (b := true) rfl rfl rfl rfl (fun _ => ?_) (fun h => by cases h); refine goH T_ok 200 rfl ?_))
   refine endH ?_
   have qk := Chg.drew w
   have S1 := S1.no qk
   have q := q.trans qk
   refine go T_ok 200 rfl ?_
   repeat (first | (refine gT rfl rfl rfl rfl ?_; refine go T_ok 200 rfl ?_) | (refine gF rfl rfl rfl rfl ?_; refine go T_ok 200 rfl ?_) | (refine condT rfl rfl ?_; refine go T_ok 200 rfl ?_) | (refine condF rfl rfl ?_; refine go T_ok 200 rfl ?_))
   rw [e3]
   exact round ⟨j + 1, rfl, ⟨by omega, q, hz', fun i hi => absurd hi (by omega)⟩, by omega⟩
  obtain ⟨j', hj'⟩ : ∃ j', j = j' + 1 := ⟨j - 1, by omega⟩
  obtain ⟨a, ha⟩ := get_i (l := l) (i := j') (by omega)
  obtain ⟨b2, o2, hA2, hb2, hc2⟩ := S1.elI ha
  have l2 : b2 < w.heap.size := Nat.lt_of_lt_of_le hb2 S1.2.1
  have e10 : w64 ((j : Int) - 1) = ((j' : Nat) : Int) := by rw [w64_id (by omega) (by omega)]; omega
  refine guardHA (b := true) rfl rfl rfl (congrArg Value.bool (decide_eq_true (by omega))) (fun _ => ?_) (fun h => by cases h)
  refine goH T_ok 200 rfl ?_
  rw [hA1]
  refine quietH rfl (fun w' hS => r_idx T_ok rfl rfl rfl rfl j rfl hltj) ?_
  refine goH T_ok 200 rfl ?_
  refine quietH rfl (fun w' hS => r_load T_ok rfl rfl rfl (hcell w' hS)) ?_
  rw [← hA1]
  refine goH T_ok 200 rfl ?_
  rw [e10, hA2]
  refine quietH rfl (fun w' hS => r_idx T_ok rfl rfl rfl rfl j' rfl (by omega)) ?_
  refine goH T_ok 200 rfl ?_
  refine quietH rfl (fun w' hS => r_load T_ok rfl rfl rfl ((hS.cell (a := ⟨b2, o2 + j' * 1, none⟩) l2 (fun h => h)).trans hc2)) ?_
  rw [← hA2]
  refine goH T_ok 200 rfl ?_
  by_cases hza : z ≤ a
  ·rw [decide_eq_true hza]
   refine goH T_ok 200 rfl ?_
   repeat (first | (refine passE rfl ?_; refine goH T_ok 200 rfl ?_) | (refine guardHA (b := false) rfl rfl rfl rfl (fun h => by cases h) (fun _ => ?_); refine goH T_ok 200 rfl ?_) | (refine guardHA (b := true) rfl rfl rfl rfl (fun _ => ?_) (fun h => by cases h); refine goH T_ok 200 rfl ?_))
   refine endH ?_
   have qk := Chg.drew w
   have S1 := S1.no qk
   have q := q.trans qk
   refine go T_ok 200 rfl ?_
   repeat (first | (refine gT rfl rfl rfl rfl ?_; refine go T_ok 200 rfl ?_) | (refine gF rfl rfl rfl rfl ?_; refine go T_ok 200 rfl ?_) | (refine condT rfl rfl ?_; refine go T_ok 200 rfl ?_) | (refine condF rfl rfl ?_; refine go T_ok 200 rfl ?_))
   exact ret (ret1 (v := .bool false) Try.results47 rfl ⟨⟨false, rfl, fun h => by cases h⟩, q⟩)
  rw [decide_eq_false hza]
  refine goH T_ok 200 rfl ?_
  repeat (first | (refine passE rfl ?_; refine goH T_ok 200 rfl ?_) | (refine guardHA (b := false) rfl rfl rfl rfl (fun h => by cases h) (fun _ => ?_); refine goH T_ok 200 rfl ?_) | (refine guardHA (b := true) rfl rfl rfl rfl (fun _ => ?_) (fun h => by cases h); refine goH T_ok 200 rfl ?_))
  refine endH ?_
  have qk := Chg.drew w
  have S1 := S1.no qk
  have q := q.trans qk
  refine go T_ok 200 rfl ?_
  repeat (first | (refine gT rfl rfl rfl rfl ?_; refine go T_ok 200 rfl ?_) | (refine gF rfl rfl rfl rfl ?_; refine go T_ok 200 rfl ?_) | (refine condT rfl rfl ?_; refine go T_ok 200 rfl ?_) | (refine condF rfl rfl ?_; refine go T_ok 200 rfl ?_))
  rw [e3]
  refine round ⟨j + 1, rfl, ⟨by omega, q, hz', fun i hi x hx y hy => ?_⟩, by omega⟩
  by_cases he : i + 1 = j
  ·subst he
   rw [hg] at hy; cases hy
   obtain rfl : i = j' := by omega
   rw [ha] at hx; cases hx
   omega
  ·exact hu i (by omega) x hx y hy
 obtain rfl : j = l.length := by have : ¬ (j : Int) < (l.length : Int) := hlt; omega
 refine go T_ok 200 rfl ?_
 refine call rfl rfl rfl (ok _ (by decide) rfl) (in83 (l.length : Int) 2 8 _) ?_
 rintro x w ⟨rfl, rfl⟩
 refine go T_ok 200 rfl ?_
 refine ret (ret1 (v := .bool _) Try.results47 rfl ⟨⟨_, rfl, fun h => ?_⟩, q⟩)
 have h := of_decide_eq_true h
 refine ⟨fun z hz' => ?_, fun i a ha b hb => hu i (List.getElem?_eq_some_iff.1 hb).1 a ha b hb, by omega, by omega⟩
 obtain ⟨i, hi⟩ := List.getElem?_of_mem hz'
 exact hz i (List.getElem?_eq_some_iff.1 hi).1 z hi
end Go.Proofs.Ytolhfimknimliaa.L
