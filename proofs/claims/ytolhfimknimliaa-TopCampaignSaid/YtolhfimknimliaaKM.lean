/- Plain specification of campaigns (layer 9). No walk in it. -/
import Derived.Test.YtolhfimknimliaaChecked
import Derived.Test.YtolhfimknimliaaE8
import Derived.Test.YtolhfimknimliaaE3
import Derived.Test.YtolhfimknimliaaQP
import Derived.Test.YtolhfimknimliaaEK
import Derived.Test.YtolhfimknimliaaE9
import Derived.Test.YtolhfimknimliaaE6
import Derived.Test.YtolhfimknimliaaEY
namespace Go.Camp
structure Site where
  cost : Int
  lo : Int
  hi : Int
  tru : Int
deriving DecidableEq
structure SiteOk (parts : Int) (s : Site) : Prop where
  c0 : 0 ≤ s.cost
  c1 : s.cost ≤ 1000000
  l0 : 0 ≤ s.lo
  lh : s.lo < s.hi
  h1 : s.hi ≤ parts
  t0 : 0 ≤ s.tru
  t1 : s.tru ≤ parts
structure Cp where
  parts : Int
  level : Int
  budget : Int
  sites : List Site
structure CpOk (c : Cp) : Prop where
  p0 : 2 ≤ c.parts
  p1 : c.parts ≤ 1000
  v0 : 2 ≤ c.level
  v1 : c.level ≤ 300000
  b0 : 0 ≤ c.budget
  b1 : c.budget ≤ 8000000
  n0 : 1 ≤ c.sites.length
  n1 : c.sites.length ≤ 8
  s : ∀ x ∈ c.sites, SiteOk c.parts x
def siteAt (c : Cp) (i : Int) : Site := (c.sites[i.toNat]?).getD ⟨0, 0, 0, 0⟩
/-- what some sites cost -/
def costP (c : Cp) (l : List Int) : Int := l.foldl (fun a i => a + (siteAt c i).cost) 0
/-- is every number one of a site? -/
def Sites (c : Cp) (l : List Int) : Prop := ∀ i ∈ l, 0 ≤ i ∧ i < c.sites.length
structure ChOk (c : Cp) (l : List Int) : Prop where
  s : Sites c l
  up : ∀ i : Nat, ∀ a ∈ l[i]?, ∀ b ∈ l[i + 1]?, a < b
  n0 : 1 ≤ l.length
  n1 : l.length ≤ 3
  b : costP c l ≤ c.budget
theorem siteAt_ok {c : Cp} (h : CpOk c) {i : Int} (h0 : 0 ≤ i) (h1 : i < c.sites.length) : c.sites[i.toNat]? = some (siteAt c i) ∧ SiteOk c.parts (siteAt c i) := by
  have hi : i.toNat < c.sites.length := by omega
  have e : c.sites[i.toNat]? = some c.sites[i.toNat] := List.getElem?_eq_getElem hi
  unfold siteAt
  rw [e]
  exact ⟨rfl, h.s _ (List.getElem_mem hi)⟩
theorem costP_snoc (c : Cp) (l : List Int) (i : Int) : costP c (l ++ [i]) = costP c l + (siteAt c i).cost := by simp [costP, List.foldl_append]
theorem costF_bd {c : Cp} (h : CpOk c) : ∀ (l : List Int) (a : Int), Sites c l → a ≤ l.foldl (fun a i => a + (siteAt c i).cost) a ∧ l.foldl (fun a i => a + (siteAt c i).cost) a ≤ a + 1000000 * l.length := by
  intro l
  induction l with
  | nil => intro a _; simp
  | cons i l ih =>
    intro a hs
    obtain ⟨h2, h3⟩ := hs i (by simp)
    have h4 := (siteAt_ok h h2 h3).2
    have h5 := ih (a + (siteAt c i).cost) fun j hj => hs j (by simp [hj])
    have := h4.c0; have := h4.c1
    simp only [List.foldl_cons, List.length_cons]
    omega
theorem costP_bd {c : Cp} (h : CpOk c) {l : List Int} (hs : Sites c l) : 0 ≤ costP c l ∧ costP c l ≤ 1000000 * l.length := by
  have := costF_bd h l 0 hs
  unfold costP
  omega
/-- slots that are not too many -/
structure SlOk (c : Cp) (s : Nat) : Prop where
  n : s ≤ 12
  w : c.parts ^ (3 * s) ≤ 1152921504606846976
end Go.Camp
namespace Go.Proofs.Ytolhfimknimliaa.K
open Go.Ev Go.Proofs Go.Camp
attribute [local irreducible] At AtH
abbrev I (x : Int) : Value := .int .i64 x
def iL (l : List Int) : List Value := l.map I
def T : Tab := [(3, .one), (4, .one), (31, .one), (61, .slc 77 4 32), (45, .slc 3 1 8), (34, .slc 4 1 1), (63, .str 4 [(0,1,false),(1,1,false),(2,1,false),(3,1,false)] [I 0, I 0, I 0, .slice none 0 0]),
 (77, .str 4 [(0,1,false),(1,1,false),(2,1,false),(3,1,false)] [I 0, I 0, I 0, I 0]), (67, .str 2 [(0,1,false),(1,1,false)] [I 0, I 0]), (123, .one), (30, .one), (161, .one),
 (163, .str 6 [(0,4,true),(4,1,false),(5,1,false)] [I 0, I 0, I 0, .slice none 0 0, I 0, .map none]), (169, .str 4 [(0,1,false),(1,1,false),(2,1,false),(3,1,false)] [I 0, I 0, I 0, I 0]),
 (172, .str 3 [(0,1,false),(1,1,false),(2,1,false)] [I 0, I 0, .bool false]), (103, .one), (112, .one)]
theorem T_ok : tabOk Try.prog T = true := by kernel_rfl
theorem callables : (List.range 123).all (fun f => Nat.blt f 3 || callable Try.prog f) = true := by kernel_rfl
set_option maxRecDepth 10000 in
theorem ok (f : Nat) (h : Nat.ble f 122 = true) (h3 : Nat.ble 3 f = true) : callable Try.prog f = true := by
 have := List.all_eq_true.1 callables f (List.mem_range.2 (Nat.lt_succ_of_le (Nat.le_of_ble_eq_true h)))
 rw [show Nat.blt f 3 = false from by have := Nat.le_of_ble_eq_true h3; cases hb : Nat.blt f 3 with | false => rfl | true => have := Nat.blt_eq.mp hb; omega] at this
 exact this
theorem mixed : Try.prog.follows .mixedOrders = true := by kernel_rfl
theorem within_any (x lo hi : Int) (w : World) : Ret Try.prog 96 [.int .i64 x, .int .i64 lo, .int .i64 hi] w fun v w' => v = .bool (decide (lo ≤ x ∧ x ≤ hi)) ∧ w = w' := by
 refine enter Try.func96 rfl Try.ntmps96 rfl ?_
 refine go T_ok 200 rfl ?_
 refine guardD rfl rfl rfl (fun h => ?_) (fun h => ?_)
 all_goals refine go T_ok 100 rfl ?_
 all_goals refine ret (ret1 (v := .bool _) Try.results96 rfl ?_)
 all_goals simp [h]
def siL (s : Site) : List Value := [I s.cost, I s.lo, I s.hi, I s.tru]
theorem siL_len (s : Site) : (siL s).length = 4 := rfl
/-- a campaign's value: its cells; where its sites lie -/
structure Cm where
 c : Cp
 A : Option Addr
 cap : Nat
def cpL (m : Cm) : List Value := [I m.c.parts, I m.c.level, I m.c.budget, .slice m.A m.c.sites.length m.cap]
def CpM (w : World) (m : Cm) : Prop := Sl w w.heap.size 4 m.A m.c.sites.length (m.c.sites.flatMap siL)
theorem CpM.no {w w' : World} {m : Cm} (h : CpM w m) (c : Chg No w w') : CpM w' m := (Sl.no h c).more c.size (Nat.le_refl _)
theorem bk_at {w : World} {g t : Nat} {cs ds : List Value} {o : Nat} (h : Bk w g t cs) (e : ds = (cs.drop o).take ds.length) : cellsAt w g o ds := h.cells o _ fun j v hv => by
 rw [e, List.getElem?_take] at hv
 split at hv
 ·rwa [List.getElem?_drop] at hv
 ·cases hv
theorem getA_of {α : Type} {l : List α} {i : Nat} (h : i < l.length) : ∃ r, l[i]? = some r := ⟨_, List.getElem?_eq_getElem h⟩
set_option maxRecDepth 20000 in
set_option maxHeartbeats 4000000 in
theorem planned_ok (m : Cm) (w0 : World) (H : CpM w0 m) (hc : CpOk m.c) : Ret Try.prog 91 [.agg (cpL m).toArray] w0 fun x w' => x = .bool true ∧ Chg No w0 w' := by
 have n1 := hc.n1
 have n0 := hc.n0
 refine enter Try.func91 rfl Try.ntmps91 rfl ?_
 refine go T_ok 200 rfl ?_
 refine bx rfl rfl rfl (cs := cpL m) rfl ?_
 intro g1 u1 hg1 hs1 q1 B1
 have q := q1
 refine go T_ok 200 rfl ?_
 repeat ((first | refine ldA T_ok rfl rfl rfl rfl rfl (Bk.all B1) ?_ | refine ld T_ok rfl rfl rfl rfl (Bk.get B1 rfl) ?_ | refine gT rfl rfl rfl rfl ?_ | refine gF rfl rfl rfl rfl ?_ | refine condT rfl rfl ?_ | refine condF rfl rfl ?_); refine go T_ok 200 rfl ?_)
 refine loop [1, 6, 7, 8] (fun j : Nat => [.pointer (some ⟨g1, 0, none⟩), .slice m.A m.c.sites.length m.cap, .int .i64 (m.c.sites.length : Int), .int .i64 (j : Int)])
  (fun j w' => j ≤ m.c.sites.length ∧ Chg No w0 w' ∧ Bk w' g1 63 (cpL m)) (fun j => m.c.sites.length - j) 0 (fun _ => rfl) rfl ⟨Nat.zero_le _, q, B1⟩ ?_
 rintro j τ w ⟨hj, q, B1⟩
 have H1 := H.no q
 refine go T_ok 200 rfl ?_
 repeat ((first | refine ldA T_ok rfl rfl rfl rfl rfl (Bk.all B1) ?_ | refine ld T_ok rfl rfl rfl rfl (Bk.get B1 rfl) ?_ | refine gT rfl rfl rfl rfl ?_ | refine gF rfl rfl rfl rfl ?_ | refine condT rfl rfl ?_ | refine condF rfl rfl ?_); refine go T_ok 200 rfl ?_)
 refine condD rfl (fun hlt => ?_) (fun hlt => ?_)
 ·have hlt : j < m.c.sites.length := by omega
  obtain ⟨s, hs⟩ := getA_of hlt
  obtain ⟨b1, o1, hA1, hb1, hc1⟩ := Sl.el H1 siL_len hs
  have e3 : w64 ((j : Int) + 1) = ((j + 1 : Nat) : Int) := w64_id (by omega) (by omega)
  have hk := hc.s s (List.mem_of_getElem? hs)
  have k1 := hk.c0; have k2 := hk.c1; have k3 := hk.l0; have k4 := hk.lh; have k5 := hk.h1; have k6 := hk.t0; have k7 := hk.t1; have k8 := hc.p1; have k9 := hc.p0
  refine go T_ok 200 rfl ?_
  rw [hA1]
  refine idx T_ok rfl rfl rfl rfl rfl j rfl hlt ?_
  refine go T_ok 200 rfl ?_
  refine ldA T_ok rfl rfl rfl rfl rfl hc1 ?_
  refine go T_ok 200 rfl ?_
  rw [← hA1]
  have yB1 := B1.lt
  have yq := q.size
  refine nw rfl rfl (z := .agg #[I 0, I 0, I 0, I 0]) (by kernel_rfl) (cs := [I 0, I 0, I 0, I 0]) rfl ?_
  intro g4 w hg4 hs4 qk B4
  have B1 := B1.no qk
  have q := q.trans qk
  refine go T_ok 200 rfl ?_
  refine stA T_ok rfl rfl rfl rfl (vs := siL s) rfl rfl rfl B4 rfl ?_
  intro w qk B4 hz4
  have B4 : Bk w g4 77 (siL s) := B4
  have B1 := Bk.keep B1 qk (by omega)
  have q := q.step qk (fun k hk e => by omega)
  refine go T_ok 200 rfl ?_
  repeat ((first | refine ldA T_ok rfl rfl rfl rfl rfl (Bk.all B1) ?_ | refine ldA T_ok rfl rfl rfl rfl rfl (Bk.all B4) ?_ | refine ld T_ok rfl rfl rfl rfl (Bk.get B1 rfl) ?_ | refine ld T_ok rfl rfl rfl rfl (Bk.get B4 rfl) ?_ | refine gT rfl rfl rfl rfl ?_ | refine gF rfl rfl rfl rfl ?_ | refine condT rfl rfl ?_ | refine condF rfl rfl ?_); refine go T_ok 200 rfl ?_)
  refine call rfl rfl rfl (ok _ (by decide) rfl) (within_any s.cost 0 1000000 _) ?_
  rintro x w ⟨rfl, rfl⟩
  rw [decide_eq_true (show 0 ≤ s.cost ∧ s.cost ≤ 1000000 by omega)]
  refine go T_ok 200 rfl ?_
  repeat ((first | refine ldA T_ok rfl rfl rfl rfl rfl (Bk.all B1) ?_ | refine ldA T_ok rfl rfl rfl rfl rfl (Bk.all B4) ?_ | refine ld T_ok rfl rfl rfl rfl (Bk.get B1 rfl) ?_ | refine ld T_ok rfl rfl rfl rfl (Bk.get B4 rfl) ?_ | refine gT rfl rfl rfl rfl ?_ | refine gF rfl rfl rfl rfl ?_ | refine condT rfl rfl ?_ | refine condF rfl rfl ?_); refine go T_ok 200 rfl ?_)
  rw [w64_id (x := s.hi - 1) (by omega) (by omega)]
  refine call rfl rfl rfl (ok _ (by decide) rfl) (within_any s.lo 0 (s.hi - 1) _) ?_
  rintro x w ⟨rfl, rfl⟩
  rw [decide_eq_true (show 0 ≤ s.lo ∧ s.lo ≤ s.hi - 1 by omega)]
  refine go T_ok 200 rfl ?_
  repeat ((first | refine ldA T_ok rfl rfl rfl rfl rfl (Bk.all B1) ?_ | refine ldA T_ok rfl rfl rfl rfl rfl (Bk.all B4) ?_ | refine ld T_ok rfl rfl rfl rfl (Bk.get B1 rfl) ?_ | refine ld T_ok rfl rfl rfl rfl (Bk.get B4 rfl) ?_ | refine gT rfl rfl rfl rfl ?_ | refine gF rfl rfl rfl rfl ?_ | refine condT rfl rfl ?_ | refine condF rfl rfl ?_); refine go T_ok 200 rfl ?_)
  refine guardD rfl rfl rfl (fun p1 => absurd p1 (by omega)) (fun _ => ?_)
  refine go T_ok 200 rfl ?_
  repeat ((first | refine ldA T_ok rfl rfl rfl rfl rfl (Bk.all B1) ?_ | refine ldA T_ok rfl rfl rfl rfl rfl (Bk.all B4) ?_ | refine ld T_ok rfl rfl rfl rfl (Bk.get B1 rfl) ?_ | refine ld T_ok rfl rfl rfl rfl (Bk.get B4 rfl) ?_ | refine gT rfl rfl rfl rfl ?_ | refine gF rfl rfl rfl rfl ?_ | refine condT rfl rfl ?_ | refine condF rfl rfl ?_); refine go T_ok 200 rfl ?_)
  refine call rfl rfl rfl (ok _ (by decide) rfl) (within_any s.tru 0 m.c.parts _) ?_
  rintro x w ⟨rfl, rfl⟩
  rw [decide_eq_true (show 0 ≤ s.tru ∧ s.tru ≤ m.c.parts by omega)]
  refine go T_ok 200 rfl ?_
  repeat ((first | refine ldA T_ok rfl rfl rfl rfl rfl (Bk.all B1) ?_ | refine ldA T_ok rfl rfl rfl rfl rfl (Bk.all B4) ?_ | refine ld T_ok rfl rfl rfl rfl (Bk.get B1 rfl) ?_ | refine ld T_ok rfl rfl rfl rfl (Bk.get B4 rfl) ?_ | refine gT rfl rfl rfl rfl ?_ | refine gF rfl rfl rfl rfl ?_ | refine condT rfl rfl ?_ | refine condF rfl rfl ?_); refine go T_ok 200 rfl ?_)
  rw [e3]
  exact round ⟨j + 1, rfl, ⟨by omega, q, B1⟩, by omega⟩
 obtain rfl : j = m.c.sites.length := by omega
 have k1 := hc.p0; have k2 := hc.p1; have k3 := hc.v0; have k4 := hc.v1; have k5 := hc.b0; have k6 := hc.b1
 refine go T_ok 200 rfl ?_
 repeat ((first | refine ldA T_ok rfl rfl rfl rfl rfl (Bk.all B1) ?_ | refine ldA T_ok rfl rfl rfl rfl rfl (Bk.all B4) ?_ | refine ld T_ok rfl rfl rfl rfl (Bk.get B1 rfl) ?_ | refine ld T_ok rfl rfl rfl rfl (Bk.get B4 rfl) ?_ | refine gT rfl rfl rfl rfl ?_ | refine gF rfl rfl rfl rfl ?_ | refine condT rfl rfl ?_ | refine condF rfl rfl ?_); refine go T_ok 200 rfl ?_)
 refine call rfl rfl rfl (ok _ (by decide) rfl) (within_any m.c.parts 2 1000 _) ?_
 rintro x w ⟨rfl, rfl⟩
 rw [decide_eq_true (show 2 ≤ m.c.parts ∧ m.c.parts ≤ 1000 by omega)]
 refine go T_ok 200 rfl ?_
 repeat ((first | refine ldA T_ok rfl rfl rfl rfl rfl (Bk.all B1) ?_ | refine ldA T_ok rfl rfl rfl rfl rfl (Bk.all B4) ?_ | refine ld T_ok rfl rfl rfl rfl (Bk.get B1 rfl) ?_ | refine ld T_ok rfl rfl rfl rfl (Bk.get B4 rfl) ?_ | refine gT rfl rfl rfl rfl ?_ | refine gF rfl rfl rfl rfl ?_ | refine condT rfl rfl ?_ | refine condF rfl rfl ?_); refine go T_ok 200 rfl ?_)
 refine call rfl rfl rfl (ok _ (by decide) rfl) (within_any m.c.level 2 300000 _) ?_
 rintro x w ⟨rfl, rfl⟩
 rw [decide_eq_true (show 2 ≤ m.c.level ∧ m.c.level ≤ 300000 by omega)]
 refine go T_ok 200 rfl ?_
 repeat ((first | refine ldA T_ok rfl rfl rfl rfl rfl (Bk.all B1) ?_ | refine ldA T_ok rfl rfl rfl rfl rfl (Bk.all B4) ?_ | refine ld T_ok rfl rfl rfl rfl (Bk.get B1 rfl) ?_ | refine ld T_ok rfl rfl rfl rfl (Bk.get B4 rfl) ?_ | refine gT rfl rfl rfl rfl ?_ | refine gF rfl rfl rfl rfl ?_ | refine condT rfl rfl ?_ | refine condF rfl rfl ?_); refine go T_ok 200 rfl ?_)
 refine call rfl rfl rfl (ok _ (by decide) rfl) (within_any m.c.budget 0 8000000 _) ?_
 rintro x w ⟨rfl, rfl⟩
 rw [decide_eq_true (show 0 ≤ m.c.budget ∧ m.c.budget ≤ 8000000 by omega)]
 refine go T_ok 200 rfl ?_
 repeat ((first | refine ldA T_ok rfl rfl rfl rfl rfl (Bk.all B1) ?_ | refine ldA T_ok rfl rfl rfl rfl rfl (Bk.all B4) ?_ | refine ld T_ok rfl rfl rfl rfl (Bk.get B1 rfl) ?_ | refine ld T_ok rfl rfl rfl rfl (Bk.get B4 rfl) ?_ | refine gT rfl rfl rfl rfl ?_ | refine gF rfl rfl rfl rfl ?_ | refine condT rfl rfl ?_ | refine condF rfl rfl ?_); refine go T_ok 200 rfl ?_)
 refine call rfl rfl rfl (ok _ (by decide) rfl) (within_any (m.c.sites.length : Int) 1 8 _) ?_
 rintro x w ⟨rfl, rfl⟩
 rw [decide_eq_true (show 1 ≤ (m.c.sites.length : Int) ∧ (m.c.sites.length : Int) ≤ 8 by omega)]
 refine go T_ok 200 rfl ?_
 repeat ((first | refine ldA T_ok rfl rfl rfl rfl rfl (Bk.all B1) ?_ | refine ldA T_ok rfl rfl rfl rfl rfl (Bk.all B4) ?_ | refine ld T_ok rfl rfl rfl rfl (Bk.get B1 rfl) ?_ | refine ld T_ok rfl rfl rfl rfl (Bk.get B4 rfl) ?_ | refine gT rfl rfl rfl rfl ?_ | refine gF rfl rfl rfl rfl ?_ | refine condT rfl rfl ?_ | refine condF rfl rfl ?_); refine go T_ok 200 rfl ?_)
 exact ret (ret1 (v := .bool true) Try.results91 rfl ⟨rfl, q⟩)
set_option maxHeartbeats 4000000 in
theorem cost_any (m : Cm) (l : List Int) (A : Option Addr) (c B : Nat) (w0 : World) (H : CpM w0 m) (hc : CpOk m.c) (Sl0 : Sl w0 B 1 A l.length (iL l)) (hl : Sites m.c l) (hl3 : l.length ≤ 1000) :
  Ret Try.prog 94 [.agg (cpL m).toArray, .slice A l.length c] w0 fun x w' => x = I (costP m.c l) ∧ Chg No w0 w' := by
 refine enter Try.func94 rfl Try.ntmps94 rfl ?_
 refine go T_ok 200 rfl ?_
 refine bx rfl rfl rfl (cs := cpL m) rfl ?_
 intro g2 u2 hg2 hs2 q2 B2
 have q := q2
 refine go T_ok 200 rfl ?_
 repeat ((first | refine ldA T_ok rfl rfl rfl rfl rfl (Bk.all B2) ?_ | refine ld T_ok rfl rfl rfl rfl (Bk.get B2 rfl) ?_ | refine gT rfl rfl rfl rfl ?_ | refine gF rfl rfl rfl rfl ?_ | refine condT rfl rfl ?_ | refine condF rfl rfl ?_); refine go T_ok 200 rfl ?_)
 refine loop [2, 5, 8, 9, 10] (fun j : Nat => [.pointer (some ⟨g2, 0, none⟩), I (costP m.c (l.take j)), .slice A l.length c, .int .i64 (l.length : Int), .int .i64 (j : Int)])
  (fun j w' => j ≤ l.length ∧ Chg No w0 w' ∧ Bk w' g2 63 (cpL m)) (fun j => l.length - j) 0 (fun _ => rfl) rfl ⟨Nat.zero_le _, q, B2⟩ ?_
 rintro j τ w ⟨hj, q, B2⟩
 have H1 := H.no q
 refine go T_ok 200 rfl ?_
 repeat ((first | refine ldA T_ok rfl rfl rfl rfl rfl (Bk.all B2) ?_ | refine ld T_ok rfl rfl rfl rfl (Bk.get B2 rfl) ?_ | refine gT rfl rfl rfl rfl ?_ | refine gF rfl rfl rfl rfl ?_ | refine condT rfl rfl ?_ | refine condF rfl rfl ?_); refine go T_ok 200 rfl ?_)
 refine condD rfl (fun hlt => ?_) (fun hlt => ?_)
 ·have hlt : j < l.length := by omega
  obtain ⟨i, hi⟩ := getA_of hlt
  obtain ⟨b1, o1, hA1, hb1, hc1⟩ := (Sl0.no q).elI hi
  have e3 : w64 ((j : Int) + 1) = ((j + 1 : Nat) : Int) := w64_id (by omega) (by omega)
  obtain ⟨i0, i1⟩ := hl i (List.mem_of_getElem? hi)
  obtain ⟨es, hso⟩ := siteAt_ok hc i0 i1
  obtain ⟨b3, o3, hA3, hb3, hc3⟩ := Sl.el H1 siL_len es
  have etake : costP m.c (l.take (j + 1)) = costP m.c (l.take j) + (siteAt m.c i).cost := by
   rw [← costP_snoc]; congr 1
   rw [List.take_add_one, hi]; rfl
  have hbd := costP_bd hc (l := l.take (j + 1)) (fun x hx => hl x (List.mem_of_mem_take hx))
  rw [List.length_take] at hbd
  refine go T_ok 200 rfl ?_
  rw [hA1]
  refine idx T_ok rfl rfl rfl rfl rfl j rfl hlt ?_
  refine go T_ok 200 rfl ?_
  refine ld T_ok rfl rfl rfl rfl (hc1) ?_
  refine go T_ok 200 rfl ?_
  rw [← hA1]
  refine go T_ok 200 rfl ?_
  repeat ((first | refine ldA T_ok rfl rfl rfl rfl rfl (Bk.all B2) ?_ | refine ld T_ok rfl rfl rfl rfl (Bk.get B2 rfl) ?_ | refine gT rfl rfl rfl rfl ?_ | refine gF rfl rfl rfl rfl ?_ | refine condT rfl rfl ?_ | refine condF rfl rfl ?_); refine go T_ok 200 rfl ?_)
  rw [hA3]
  refine idx T_ok rfl rfl rfl rfl rfl i.toNat (by omega) (by omega) ?_
  refine go T_ok 200 rfl ?_
  refine ld T_ok rfl rfl rfl rfl (hc3.get (i := 0) rfl) ?_
  refine go T_ok 200 rfl ?_
  rw [← hA3]
  rw [w64_id (x := costP m.c (l.take j) + (siteAt m.c i).cost) (by omega) (by omega), ← etake, e3]
  exact round ⟨j + 1, rfl, ⟨by omega, q, B2⟩, by omega⟩
 ·obtain rfl : j = l.length := by omega
  rw [List.take_length]
  refine go T_ok 200 rfl ?_
  exact ret (ret1 (v := I _) Try.results94 rfl ⟨rfl, q⟩)
set_option maxRecDepth 20000 in
set_option maxHeartbeats 4000000 in
theorem chosen_ok (m : Cm) (l : List Int) (A : Option Addr) (c B : Nat) (w0 : World) (H : CpM w0 m) (hc : CpOk m.c) (Sl0 : Sl w0 B 1 A l.length (iL l)) (hl : ChOk m.c l) :
  Ret Try.prog 69 [.agg (cpL m).toArray, .slice A l.length c] w0 fun x w' => x = .bool true ∧ Chg No w0 w' := by
 have n1 := hl.n1
 have n0 := hl.n0
 have m1 := hc.n1
 refine enter Try.func69 rfl Try.ntmps69 rfl ?_
 refine go T_ok 200 rfl ?_
 refine bx rfl rfl rfl (cs := cpL m) rfl ?_
 intro g2 u2 hg2 hs2 q2 B2
 have q := q2
 refine go T_ok 200 rfl ?_
 repeat ((first | refine ldA T_ok rfl rfl rfl rfl rfl (Bk.all B2) ?_ | refine ld T_ok rfl rfl rfl rfl (Bk.get B2 rfl) ?_ | refine gT rfl rfl rfl rfl ?_ | refine gF rfl rfl rfl rfl ?_ | refine condT rfl rfl ?_ | refine condF rfl rfl ?_); refine go T_ok 200 rfl ?_)
 refine loop [1, 2, 7, 8, 9] (fun j : Nat => [.slice A l.length c, .pointer (some ⟨g2, 0, none⟩), .slice A l.length c, .int .i64 (l.length : Int), .int .i64 (j : Int)])
  (fun j w' => j ≤ l.length ∧ Chg No w0 w' ∧ Bk w' g2 63 (cpL m)) (fun j => l.length - j) 0 (fun _ => rfl) rfl ⟨Nat.zero_le _, q, B2⟩ ?_
 rintro j τ w ⟨hj, q, B2⟩
 refine go T_ok 200 rfl ?_
 repeat ((first | refine ldA T_ok rfl rfl rfl rfl rfl (Bk.all B2) ?_ | refine ld T_ok rfl rfl rfl rfl (Bk.get B2 rfl) ?_ | refine gT rfl rfl rfl rfl ?_ | refine gF rfl rfl rfl rfl ?_ | refine condT rfl rfl ?_ | refine condF rfl rfl ?_); refine go T_ok 200 rfl ?_)
 refine condD rfl (fun hlt => ?_) (fun hlt => ?_)
 ·have hlt : j < l.length := by omega
  obtain ⟨i, hi⟩ := getA_of hlt
  obtain ⟨b1, o1, hA1, hb1, hc1⟩ := (Sl0.no q).elI hi
  have e3 : w64 ((j : Int) + 1) = ((j + 1 : Nat) : Int) := w64_id (by omega) (by omega)
  obtain ⟨i0, i1⟩ := hl.s i (List.mem_of_getElem? hi)
  refine go T_ok 200 rfl ?_
  rw [hA1]
  refine idx T_ok rfl rfl rfl rfl rfl j rfl hlt ?_
  refine go T_ok 200 rfl ?_
  refine ld T_ok rfl rfl rfl rfl (hc1) ?_
  refine go T_ok 200 rfl ?_
  rw [← hA1]
  refine go T_ok 200 rfl ?_
  repeat ((first | refine ldA T_ok rfl rfl rfl rfl rfl (Bk.all B2) ?_ | refine ld T_ok rfl rfl rfl rfl (Bk.get B2 rfl) ?_ | refine gT rfl rfl rfl rfl ?_ | refine gF rfl rfl rfl rfl ?_ | refine condT rfl rfl ?_ | refine condF rfl rfl ?_); refine go T_ok 200 rfl ?_)
  rw [w64_id (x := (m.c.sites.length : Int) - 1) (by omega) (by omega)]
  refine call rfl rfl rfl (ok _ (by decide) rfl) (within_any i 0 ((m.c.sites.length : Int) - 1) _) ?_
  rintro x w ⟨rfl, rfl⟩
  rw [decide_eq_true (show 0 ≤ i ∧ i ≤ (m.c.sites.length : Int) - 1 by omega)]
  refine go T_ok 200 rfl ?_
  repeat ((first | refine ldA T_ok rfl rfl rfl rfl rfl (Bk.all B2) ?_ | refine ld T_ok rfl rfl rfl rfl (Bk.get B2 rfl) ?_ | refine gT rfl rfl rfl rfl ?_ | refine gF rfl rfl rfl rfl ?_ | refine condT rfl rfl ?_ | refine condF rfl rfl ?_); refine go T_ok 200 rfl ?_)
  by_cases hj0 : j = 0
  ·refine guardA (b := false) rfl rfl rfl (congrArg Value.bool (decide_eq_false (by omega))) (fun h => by cases h) (fun _ => ?_)
   refine go T_ok 200 rfl ?_
   repeat ((first | refine ldA T_ok rfl rfl rfl rfl rfl (Bk.all B2) ?_ | refine ld T_ok rfl rfl rfl rfl (Bk.get B2 rfl) ?_ | refine gT rfl rfl rfl rfl ?_ | refine gF rfl rfl rfl rfl ?_ | refine condT rfl rfl ?_ | refine condF rfl rfl ?_); refine go T_ok 200 rfl ?_)
   rw [e3]
   exact round ⟨j + 1, rfl, ⟨by omega, q, B2⟩, by omega⟩
  obtain ⟨j', rfl⟩ : ∃ j', j = j' + 1 := ⟨j - 1, by omega⟩
  obtain ⟨a, ha⟩ := getA_of (l := l) (i := j') (by omega)
  obtain ⟨b2, o2, hA2, hb2, hc2⟩ := (Sl0.no q).elI ha
  have hup := hl.up j' a ha i hi
  refine guardA (b := true) rfl rfl rfl (congrArg Value.bool (decide_eq_true (by omega))) (fun _ => ?_) (fun h => by cases h)
  refine go T_ok 200 rfl ?_
  repeat ((first | refine ldA T_ok rfl rfl rfl rfl rfl (Bk.all B2) ?_ | refine ld T_ok rfl rfl rfl rfl (Bk.get B2 rfl) ?_ | refine gT rfl rfl rfl rfl ?_ | refine gF rfl rfl rfl rfl ?_ | refine condT rfl rfl ?_ | refine condF rfl rfl ?_); refine go T_ok 200 rfl ?_)
  rw [w64_id (x := ((j' + 1 : Nat) : Int) - 1) (by omega) (by omega), hA2]
  refine idx T_ok rfl rfl rfl rfl rfl j' (by omega) (by omega) ?_
  refine go T_ok 200 rfl ?_
  refine ld T_ok rfl rfl rfl rfl (hc2) ?_
  refine go T_ok 200 rfl ?_
  rw [← hA2]
  refine condF rfl (decide_eq_false (by omega)) ?_
  refine go T_ok 200 rfl ?_
  repeat ((first | refine ldA T_ok rfl rfl rfl rfl rfl (Bk.all B2) ?_ | refine ld T_ok rfl rfl rfl rfl (Bk.get B2 rfl) ?_ | refine gT rfl rfl rfl rfl ?_ | refine gF rfl rfl rfl rfl ?_ | refine condT rfl rfl ?_ | refine condF rfl rfl ?_); refine go T_ok 200 rfl ?_)
  rw [e3]
  exact round ⟨j' + 1 + 1, rfl, ⟨by omega, q, B2⟩, by omega⟩
 obtain rfl : j = l.length := by omega
 refine go T_ok 200 rfl ?_
 refine draw mixed (fun w' => Chg No w w') ([0,1].map (fun i => (i, true)) ++ [(2, false)] ++ [3,4,5,7,8].map (fun i => (i, true)) ++ [(6, false)] ++ [9,10,11].map (fun i => (i, true))) rfl (by kernel_rfl) (Chg.drew _) ?_
 refine goH T_ok 200 rfl ?_
 repeat (first | (refine gTH rfl rfl rfl rfl ?_; refine goH T_ok 200 rfl ?_) | (refine gFH rfl rfl rfl rfl ?_; refine goH T_ok 200 rfl ?_))
 refine callE rfl rfl rfl (ok _ (by decide) rfl) (within_any (l.length : Int) 1 3 _) ?_
 rintro x w1 ⟨rfl, rfl⟩
 refine ⟨Chg.drew _, ?_⟩
 rw [decide_eq_true (show 1 ≤ (l.length : Int) ∧ (l.length : Int) ≤ 3 by omega)]
 refine goH T_ok 200 rfl ?_
 repeat (first | (refine gTH rfl rfl rfl rfl ?_; refine goH T_ok 200 rfl ?_) | (refine gFH rfl rfl rfl rfl ?_; refine goH T_ok 200 rfl ?_))
 refine quietH rfl (fun w' hS => r_loadA T_ok rfl rfl rfl rfl (B2.no hS).all) ?_
 refine goH T_ok 200 rfl ?_
 repeat (first | (refine quietH rfl (fun w' hS => r_load T_ok rfl rfl rfl (Bk.get (B2.no hS) rfl)) ?_; refine goH T_ok 200 rfl ?_))
 refine callE rfl rfl rfl (ok _ (by decide) rfl) (cost_any m l A c B _ (H.no (q.trans (Chg.drew _))) hc (Sl0.no (q.trans (Chg.drew _))) hl.s (by omega)) ?_
 rintro x w1 ⟨rfl, q1⟩
 have q2 := (Chg.drew w).trans q1
 refine ⟨q2, ?_⟩
 refine goH T_ok 200 rfl ?_
 refine endH ?_
 refine go T_ok 200 rfl ?_
 have hb := hl.b
 rw [decide_eq_true hb]
 exact ret (ret1 (v := .bool true) Try.results69 rfl ⟨rfl, q.trans q2⟩)
end Go.Proofs.Ytolhfimknimliaa.K
namespace Go.Proofs.Ytolhfimknimliaa.K
open Go.Ev Go.Proofs Go.Camp
attribute [local irreducible] At AtH
theorem pow_mono' {D : Int} (hD : 1 ≤ D) {a b : Nat} (h : a ≤ b) : D ^ a ≤ D ^ b := Q.pow_mono hD h
theorem pow_pos' {D : Int} (hD : 1 ≤ D) (a : Nat) : 1 ≤ D ^ a := by have := pow_mono' hD (Nat.zero_le a); simpa using this
theorem whole_ok (c : Cp) (s : Nat) (w : World) (hp : 2 ≤ c.parts) (hs : SlOk c s) : Ret Try.prog 92 [I c.parts, I (s : Int)] w fun v w' => v = .tuple #[I (c.parts ^ (3 * s)), .bool true] ∧ w = w' := by
 have hn := hs.n
 have hw := hs.w
 refine enter Try.func92 rfl Try.ntmps92 rfl ?_
 refine go T_ok 200 rfl ?_
 refine condD rfl (fun p => absurd p (by omega)) (fun _ => ?_)
 refine go T_ok 200 rfl ?_
 rw [w64_id (x := 3 * (s : Int)) (by omega) (by omega)]
 refine loop [0, 6, 10, 11] (fun i : Nat => [I c.parts, I (c.parts ^ i), I (3 * (s : Int)), I (i : Int)]) (fun i w' => w = w' ∧ i ≤ 3 * s) (fun i => 3 * s - i) 0 (fun _ => rfl) (by rw [Int.pow_zero]; rfl) ⟨rfl, by omega⟩ ?_
 rintro i τ w' ⟨rfl, hi⟩
 refine go T_ok 200 rfl ?_
 refine condD rfl (fun hlt => ?_) (fun hlt => ?_)
 ·have h1 := pow_mono' (D := c.parts) (by omega) (show i + 1 ≤ 3 * s by omega)
  have h2 := pow_pos' (D := c.parts) (by omega) i
  have h3 : c.parts ^ i * c.parts = c.parts ^ (i + 1) := (Int.pow_succ _ _).symm
  have h4 : c.parts ^ i ≤ 1152921504606846976 / c.parts := by
   rw [Int.le_ediv_iff_mul_le (by omega), h3]
   omega
  have h5 := pow_pos' (D := c.parts) (by omega) (i + 1)
  refine go T_ok 200 rfl ?_
  refine quoN rfl rfl rfl rfl (by decide) (by decide) (by omega) ?_
  refine go T_ok 200 rfl ?_
  refine condD rfl (fun p => absurd p (by omega)) (fun _ => ?_)
  refine go T_ok 200 rfl ?_
  rw [h3, w64_id (x := c.parts ^ (i + 1)) (by omega) (by omega), w64_id (x := (i : Int) + 1) (by omega) (by omega)]
  exact round ⟨i + 1, rfl, ⟨rfl, by omega⟩, by omega⟩
 ·obtain rfl : i = 3 * s := by omega
  refine go T_ok 200 rfl ?_
  exact ret (ret2 (v := I _) (x := .bool true) Try.results92 rfl rfl ⟨rfl, rfl⟩)
/-! ### The keys of what a teller knows -/
theorem laidOut : laidOutB Try.prog = true := by kernel_rfl
theorem row192 : (172 : TypeId) < Try.prog.types.size := of_decide_eq_true (by kernel_rfl)
theorem wide192 : (match Try.prog.underlying 172 with | some (.array _ _) | some (.struct _) => true | _ => false) = true := by rw [Try.underlying172]
set_option maxRecDepth 100000 in
theorem K192 : Go.Maps.Keyed Try.prog 172 := Go.Maps.Keyed.of_law (deep_law_laid laidOut (m := 2) (by omega) row192 (by kernel_rfl) wide192)
/-- a key: a site, a level, is it without a chamber -/
abbrev SKey := Int × Int × Bool
def ekS (k : SKey) : Value := .agg #[I k.1, I k.2.1, .bool k.2.2]
theorem ekS_inj (a : SKey) : ∀ a', ekS a' = ekS a → a' = a := by
 intro a' h
 obtain ⟨x, y, z⟩ := a
 obtain ⟨x', y', z'⟩ := a'
 simp [ekS] at h
 obtain ⟨rfl, rfl, rfl⟩ := h
 rfl
theorem wf_i64 {x : Int} (h0 : -9223372036854775808 ≤ x) (h1 : x ≤ 9223372036854775807) : (Lit.int .i64 x).wf = true := by
 have hmin : IntKind.i64.min = -9223372036854775808 := by decide
 have hmax : IntKind.i64.max = 9223372036854775807 := by decide
 simp [Lit.wf, hmin, hmax]
 omega
theorem tyN : 1 ≤ Try.prog.types.size := by have h : 172 < Try.prog.types.size := row192; omega
theorem kS (k : SKey) (h1 : I64 k.1) (h2 : I64 k.2.1) : ∃ l, keyOf Try.prog 172 (ekS k) = some l :=
 keyStr_some (bs := [false, false, true]) (vs := [I k.1, I k.2.1, .bool k.2.2]) (by kernel_rfl) ⟨wf_i64 h1.1 h1.2, wf_i64 h2.1 h2.2, trivial, trivial⟩ tyN
end Go.Proofs.Ytolhfimknimliaa.K
namespace Go.Proofs.Ytolhfimknimliaa.K
open Go.Ev Go.Proofs Go.Camp
attribute [local irreducible] At AtH
theorem allN_ok {D : Int} (hD : 2 ≤ D) : ∀ (m : Nat) (a : Int), 1 ≤ a → a * D ^ m ≤ 1152921504606846976 → Q.allN D a m = some (a * D ^ m) := by
 intro m
 induction m with
 | zero => intro a _ _; simp [Q.allN]
 | succ m ih =>
  intro a ha hb
  have h1 := pow_pos' (D := D) (by omega) m
  have e : a * D ^ (m + 1) = (a * D) * D ^ m := by rw [Int.pow_succ, Int.mul_comm (D ^ m) D, Int.mul_assoc]
  rw [e] at hb ⊢
  have h2 : a * D * 1 ≤ a * D * D ^ m := Int.mul_le_mul_of_nonneg_left h1 (Int.mul_nonneg (by omega) (by omega))
  have h3 : a ≤ 1152921504606846976 / D := by rw [Int.le_ediv_iff_mul_le (by omega)]; omega
  have h4 : 1 * 1 ≤ a * D := Int.mul_le_mul ha (by omega) (by omega) (by omega)
  rw [Q.allN, if_neg (by omega)]
  exact ih _ (by omega) hb
theorem pow3 {D : Int} (s : Nat) : D ^ (3 * s) = D ^ s * (D ^ s * D ^ s) := by rw [← Int.pow_add, ← Int.pow_add]; congr 1; omega
theorem pow_le3 {D : Int} (hD : 1 ≤ D) (s : Nat) : D ^ s ≤ D ^ (3 * s) := pow_mono' hD (by omega)
theorem whole_pow {c : Cp} {s : Nat} (hc : CpOk c) (hs : SlOk c s) : Q.wholeP (s : Int) c.parts = (c.parts ^ s, 0) := by
 have h1 := hc.p0; have h2 := hc.p1; have h3 := hs.n; have h4 := hs.w
 have h5 := pow_le3 (D := c.parts) (by omega) s
 unfold Q.wholeP
 have e1 : ¬ (Go.Cnt.inB c.parts 2 1000 = false ∨ (s : Int) < 0) := by
  rintro (h | h)
  ·have := (Go.Cnt.inB_iff c.parts 2 1000).2 ⟨h1, h2⟩
   rw [h] at this; cases this
  ·omega
 rw [if_neg e1, if_neg (by omega), Int.toNat_natCast, allN_ok h1 s 1 (by omega) (by omega)]
 simp
/-- the chances of a site -/
def rateP (x : Site) (e : Bool) : Int := if e then x.lo else x.tru
def chV (c : Cp) (s : Nat) (k : SKey) : List Value := Q.powL (s : Int) c.parts k.2.1 (rateP (siteAt c k.1) k.2.2) (siteAt c k.1).lo (siteAt c k.1).hi
theorem powE_ok {c : Cp} {s : Nat} (hc : CpOk c) (hs : SlOk c s) {x : Site} (hx : SiteOk c.parts x) {lv : Int} (l0 : 2 ≤ lv) (l1 : lv ≤ 900000) (e : Bool) : Q.powE (s : Int) c.parts lv (rateP x e) x.lo x.hi = 0 := by
 have h1 := hx.l0; have h2 := hx.lh; have h3 := hx.h1; have h4 := hx.t0; have h5 := hx.t1
 unfold Q.powE
 rw [whole_pow hc hs, if_neg (by simp), if_pos]
 rw [(Go.Cnt.inB_iff lv 2 900000).2 ⟨l0, l1⟩, (Go.Cnt.inB_iff x.lo 0 (x.hi - 1)).2 (by omega), decide_eq_true h3]
 have : Go.Cnt.inB (rateP x e) 0 c.parts = true := (Go.Cnt.inB_iff _ _ _).2 (by unfold rateP; split <;> omega)
 rw [this]
 rfl
def telL (m : Cm) (s mb : Nat) : List Value := cpL m ++ [I (s : Int), .map (some mb)]
def ebC (l : List Value) : Value := .agg l.toArray
/-- a teller in memory: what it knows is right -/
structure TelM (w : World) (g mb : Nat) (m : Cm) (s : Nat) : Prop where
 bk : Bk w g 163 (telL m s mb)
 mp : ∃ n f, Mt Try.prog 172 w mb n ekS ebC f ∧ ∀ k v, f k = some v → v = chV m.c s k
 cm : CpM w m
 ne : g ≠ mb
theorem TelM.no {w w' : World} {g mb : Nat} {m : Cm} {s : Nat} (h : TelM w g mb m s) (c : Chg No w w') : TelM w' g mb m s := by
 obtain ⟨n, f, h1, h2⟩ := h.mp
 exact ⟨h.bk.no c, ⟨n, f, h1.no c, h2⟩, h.cm.no c, h.ne⟩
theorem TelM.lm {w : World} {g mb : Nat} {m : Cm} {s : Nat} (h : TelM w g mb m s) : mb < w.heap.size := by
 obtain ⟨n, f, h1, h2⟩ := h.mp
 exact h1.lt
/-- what can be read lies in no map -/
theorem sl_map {w w' : World} {kt : TypeId} {mb n k sz : Nat} {α β : Type} {ek : α → Value} {eb : β → Value} {f : α → Option β} {A : Option Addr} {xs : List Value} (h : Sl w w.heap.size sz A n xs) (h0 : 0 < sz) (M : Mt Try.prog kt w mb k ek eb f) (c : Chg (fun k => k = mb) w w') : Sl w' w'.heap.size sz A n xs := by
 refine ⟨h.1, Nat.le_refl _, fun hn => ?_⟩
 obtain ⟨b, o, hA, hb, hc⟩ := h.2.2 hn
 have hl : 0 < xs.length := by rw [h.1]; exact Nat.mul_pos hn h0
 have h1 := hc 0 xs[0] (List.getElem?_eq_getElem hl)
 have hne : b ≠ mb := by
  rintro rfl
  obtain ⟨es, clock, hm, _⟩ := M
  simp [World.cell?, hm] at h1
 exact ⟨b, o, hA, Nat.lt_of_lt_of_le hb c.size, hc.keep hb c hne⟩
/-- a closure that says yes -/
def Yes (fv : Value) (w0 : World) : Prop := ∃ k cap, fv = .func (.func k) #[] cap ∧ callable Try.prog k = true ∧ ∀ w', Chg No w0 w' → Ret Try.prog k cap.toList w' fun x w'' => x = .bool true ∧ Chg No w' w''
set_option maxRecDepth 20000 in
theorem ask_ok (m : Cm) (s : Nat) (fv : Value) (w0 : World) (H : CpM w0 m) (hc : CpOk m.c) (hs : SlOk m.c s) (hf : Yes fv w0) :
  Ret Try.prog 64 [.agg (cpL m).toArray, I (s : Int), fv] w0 fun x w' => ∃ g mb, x = .tuple #[.pointer (some ⟨g, 0, none⟩), I 0] ∧ Chg No w0 w' ∧ TelM w' g mb m s ∧ w0.heap.size ≤ g ∧ w0.heap.size ≤ mb := by
 obtain ⟨kf, cap, rfl, hkf, hp⟩ := hf
 have hn := hs.n
 refine enter Try.func64 rfl Try.ntmps64 rfl ?_
 refine go T_ok 200 rfl ?_
 refine bx rfl rfl rfl (cs := cpL m) rfl ?_
 intro g3 u3 hg3 hs3 q3 B3
 have q := q3
 refine go T_ok 200 rfl ?_
 repeat ((first | refine ldA T_ok rfl rfl rfl rfl rfl (Bk.all B3) ?_ | refine ld T_ok rfl rfl rfl rfl (Bk.get B3 rfl) ?_ | refine gT rfl rfl rfl rfl ?_ | refine gF rfl rfl rfl rfl ?_ | refine condT rfl rfl ?_ | refine condF rfl rfl ?_); refine go T_ok 200 rfl ?_)
 refine call rfl rfl rfl (ok _ (by decide) rfl) (planned_ok m _ (H.no q) hc) ?_
 rintro x w ⟨rfl, qk⟩
 have B3 := B3.no qk
 have q := q.trans qk
 refine go T_ok 200 rfl ?_
 repeat ((first | refine ldA T_ok rfl rfl rfl rfl rfl (Bk.all B3) ?_ | refine ld T_ok rfl rfl rfl rfl (Bk.get B3 rfl) ?_ | refine gT rfl rfl rfl rfl ?_ | refine gF rfl rfl rfl rfl ?_ | refine condT rfl rfl ?_ | refine condF rfl rfl ?_); refine go T_ok 200 rfl ?_)
 refine call rfl rfl rfl hkf (hp _ q) ?_
 rintro x w1 ⟨rfl, qk⟩
 have B3 := B3.no qk
 have q := q.trans qk
 refine go T_ok 200 rfl ?_
 repeat ((first | refine ldA T_ok rfl rfl rfl rfl rfl (Bk.all B3) ?_ | refine ld T_ok rfl rfl rfl rfl (Bk.get B3 rfl) ?_ | refine gT rfl rfl rfl rfl ?_ | refine gF rfl rfl rfl rfl ?_ | refine condT rfl rfl ?_ | refine condF rfl rfl ?_); refine go T_ok 200 rfl ?_)
 refine call rfl rfl rfl (ok _ (by decide) rfl) (whole_ok m.c s _ hc.p0 hs) ?_
 rintro x w ⟨rfl, rfl⟩
 refine go T_ok 200 rfl ?_
 repeat ((first | refine ldA T_ok rfl rfl rfl rfl rfl (Bk.all B3) ?_ | refine ld T_ok rfl rfl rfl rfl (Bk.get B3 rfl) ?_ | refine gT rfl rfl rfl rfl ?_ | refine gF rfl rfl rfl rfl ?_ | refine condT rfl rfl ?_ | refine condF rfl rfl ?_); refine go T_ok 200 rfl ?_)
 refine mkM (kt := 172) rfl rfl ?_
 intro mb w2 hmb hsm qk Mm
 have hq := q.size
 have Mm := Mm ekS ebC
 have B3 := B3.no qk
 have q := q.trans qk
 refine go T_ok 200 rfl ?_
 refine bx rfl rfl rfl (cs := telL m s mb) rfl ?_
 intro g w3 hg hsg qk Bg
 have hq2 := q.size
 have B3 := B3.no qk
 have q := q.trans qk
 refine go T_ok 200 rfl ?_
 exact ret (ret2 (v := .pointer (some ⟨g, 0, none⟩)) (x := I 0) Try.results64 rfl rfl ⟨g, mb, rfl, q, ⟨Bg, ⟨0, _, Mm.no qk, fun k v h => by cases h⟩, H.no q, by omega⟩, by omega, by omega⟩)
set_option maxRecDepth 20000 in
set_option maxHeartbeats 8000000 in
theorem chances_ok (m : Cm) (s g mb : Nat) (i lv : Int) (e : Bool) (w0 : World) (H : TelM w0 g mb m s) (hc : CpOk m.c) (hs : SlOk m.c s) (i0 : 0 ≤ i) (i1 : i < m.c.sites.length) (l0 : 2 ≤ lv) (l1 : lv ≤ 900000) :
  Ret Try.prog 97 [.pointer (some ⟨g, 0, none⟩), ekS (i, lv, e)] w0 fun x w' => x = .agg (chV m.c s (i, lv, e)).toArray ∧ Chg (fun k => k = mb) w0 w' ∧ TelM w' g mb m s := by
 obtain ⟨Bg, ⟨n, f, Mm, hf⟩, Hc, hne⟩ := H
 have Mm0 := Mm
 have hn := hs.n
 have hn8 := hc.n1
 have lg := Bg.lt
 have lm := Mm.lt
 obtain ⟨hsi, hso⟩ := siteAt_ok hc i0 i1
 have k1 := hso.l0; have k2 := hso.lh; have k3 := hso.h1; have k4 := hc.p1
 have hkey : ∃ kl, keyOf Try.prog 172 (ekS (i, lv, e)) = some kl := kS (i, lv, e) ⟨by show _ ≤ i; omega, by show i ≤ _; omega⟩ ⟨by show _ ≤ lv; omega, by show lv ≤ _; omega⟩
 refine enter Try.func97 rfl Try.ntmps97 rfl ?_
 refine go T_ok 200 rfl ?_
 refine bx rfl rfl rfl (cs := [I i, I lv, .bool e]) rfl ?_
 intro g3 w1 hg3 hs3 qk B3
 have q := qk
 have Bg := Bg.no qk
 have Mm := Mm.no qk
 refine go T_ok 200 rfl ?_
 refine nw rfl rfl (z := .agg #[I 0, I 0, I 0, I 0]) (by kernel_rfl) (cs := [I 0, I 0, I 0, I 0]) rfl ?_
 intro g4 w2 hg4 hs4 qk B4
 have Bg := Bg.no qk
 have B3 := B3.no qk
 have q := q.trans qk
 have Mm := Mm.no qk
 refine go T_ok 200 rfl ?_
 refine draw mixed (fun w' => Chg No w2 w') ([0,1,2,3,4,5,6,7,8].map (fun i => (i, true)) ++ [(9, false)] ++ [(10, false)] ++ [11].map (fun i => (i, true))) rfl (by kernel_rfl) (Chg.drew _) ?_
 refine goH T_ok 200 rfl ?_
 repeat (first | (refine quietH rfl (fun w' hS => r_load T_ok rfl rfl rfl (Bk.get (Bg.no hS) rfl)) ?_; refine goH T_ok 200 rfl ?_))
 refine quietH rfl (fun w' hS => r_loadA T_ok rfl rfl rfl rfl (B3.no hS).all) ?_
 refine goH T_ok 200 rfl ?_
 cases hfk : f (i, lv, e) with
 | some v =>
  obtain rfl := hf _ _ hfk
  refine quietH rfl (fun w' hS => r_lookS K192 rfl Try.underlying161 rfl (ek := ekS) (a := (i, lv, e)) rfl hkey (ekS_inj _) (Mm.no hS) (z := .agg #[I 0, I 0, I 0, I 0]) (by kernel_rfl) hfk) ?_
  refine goH T_ok 200 rfl ?_
  refine nwE rfl rfl (z := .agg #[I 0, I 0, I 0, I 0]) (by kernel_rfl) (cs := [I 0, I 0, I 0, I 0]) rfl ?_
  intro g5 w3 hg5 hs5 qk B5
  have hdr : w2.drew.heap.size = w2.heap.size := rfl
  have qk := (Chg.drew w2).trans qk
  refine ⟨qk, ?_⟩
  have hqq := qk.size
  refine goH T_ok 200 rfl ?_
  refine stAE T_ok rfl rfl rfl rfl (vs := chV m.c s (i, lv, e)) rfl rfl rfl B5 rfl ?_
  intro w4 q5 B5 hz5
  have qk := qk.step q5 (fun k hk e => by omega)
  refine ⟨qk, ?_⟩
  have B5 : Bk w4 g5 169 (chV m.c s (i, lv, e)) := B5
  have Bg := Bg.no qk
  have B3 := B3.no qk
  have B4 := B4.no qk
  have q := q.trans qk
  have Mm := Mm.no qk
  refine goH T_ok 200 rfl ?_
  refine endH ?_
  refine go T_ok 200 rfl ?_
  repeat ((first | refine ldA T_ok rfl rfl rfl rfl rfl (Bk.all Bg) ?_ | refine ldA T_ok rfl rfl rfl rfl rfl (Bk.all B3) ?_ | refine ldA T_ok rfl rfl rfl rfl rfl (Bk.all B4) ?_ | refine ldA T_ok rfl rfl rfl rfl rfl (Bk.all B5) ?_ | refine ld T_ok rfl rfl rfl rfl (Bk.get Bg rfl) ?_ | refine ld T_ok rfl rfl rfl rfl (Bk.get B3 rfl) ?_ | refine ld T_ok rfl rfl rfl rfl (Bk.get B4 rfl) ?_ | refine ld T_ok rfl rfl rfl rfl (Bk.get B5 rfl) ?_ | refine gT rfl rfl rfl rfl ?_ | refine gF rfl rfl rfl rfl ?_ | refine condT rfl rfl ?_ | refine condF rfl rfl ?_); refine go T_ok 200 rfl ?_)
  refine stA T_ok rfl rfl rfl rfl (vs := chV m.c s (i, lv, e)) rfl rfl rfl B4 rfl ?_
  intro w9 qk B4 hz9
  have B4 : Bk w9 g4 169 (chV m.c s (i, lv, e)) := B4
  have Bg := Bg.keep qk (by omega)
  have Mm := Mm.keep qk (by omega)
  have q := q.step qk (fun k hk e => by omega)
  refine go T_ok 200 rfl ?_
  refine ret (retR1 Try.results97 (resA T_ok rfl rfl rfl B4.all) ⟨rfl, ?_, ⟨Bg, ⟨n, f, Mm, hf⟩, ?_, hne⟩⟩)
  ·exact q.mono (fun _ _ h => h.elim)
  ·exact Hc.no q
 | none =>
  refine quietH rfl (fun w' hS => r_lookN K192 rfl Try.underlying161 rfl (ek := ekS) (a := (i, lv, e)) rfl hkey (ekS_inj _) (Mm.no hS) (z := .agg #[I 0, I 0, I 0, I 0]) (by kernel_rfl) hfk) ?_
  refine goH T_ok 200 rfl ?_
  refine nwE rfl rfl (z := .agg #[I 0, I 0, I 0, I 0]) (by kernel_rfl) (cs := [I 0, I 0, I 0, I 0]) rfl ?_
  intro g5 w3 hg5 hs5 qk B5
  have hdr : w2.drew.heap.size = w2.heap.size := rfl
  have qk := (Chg.drew w2).trans qk
  refine ⟨qk, ?_⟩
  have hqq := qk.size
  refine goH T_ok 200 rfl ?_
  refine stAE T_ok rfl rfl rfl rfl (vs := [I 0, I 0, I 0, I 0]) rfl rfl rfl B5 rfl ?_
  intro w4 q5 B5 hz5
  have qk := qk.step q5 (fun k hk e => by omega)
  refine ⟨qk, ?_⟩
  have B5 : Bk w4 g5 169 ([I 0, I 0, I 0, I 0]) := B5
  have Bg := Bg.no qk
  have B3 := B3.no qk
  have B4 := B4.no qk
  have q := q.trans qk
  have Mm := Mm.no qk
  refine goH T_ok 200 rfl ?_
  refine endH ?_
  refine go T_ok 200 rfl ?_
  repeat ((first | refine ldA T_ok rfl rfl rfl rfl rfl (Bk.all Bg) ?_ | refine ldA T_ok rfl rfl rfl rfl rfl (Bk.all B3) ?_ | refine ldA T_ok rfl rfl rfl rfl rfl (Bk.all B4) ?_ | refine ldA T_ok rfl rfl rfl rfl rfl (Bk.all B5) ?_ | refine ld T_ok rfl rfl rfl rfl (Bk.get Bg rfl) ?_ | refine ld T_ok rfl rfl rfl rfl (Bk.get B3 rfl) ?_ | refine ld T_ok rfl rfl rfl rfl (Bk.get B4 rfl) ?_ | refine ld T_ok rfl rfl rfl rfl (Bk.get B5 rfl) ?_ | refine gT rfl rfl rfl rfl ?_ | refine gF rfl rfl rfl rfl ?_ | refine condT rfl rfl ?_ | refine condF rfl rfl ?_); refine go T_ok 200 rfl ?_)
  obtain ⟨b1, o1, hA1, hb1, hc1⟩ := Sl.el (Hc.no q) siL_len hsi
  refine draw mixed (fun w' => Chg No w4 w') ([0,1,2,3,4,5,6,7,8].map (fun i => (i, true)) ++ [(9, false)] ++ [(10, false)]) rfl (by kernel_rfl) (Chg.drew _) ?_
  refine goH T_ok 200 rfl ?_
  repeat (first | (refine quietH rfl (fun w' hS => r_load T_ok rfl rfl rfl (Bk.get (Bg.no hS) rfl)) ?_; refine goH T_ok 200 rfl ?_) | (refine quietH rfl (fun w' hS => r_load T_ok rfl rfl rfl (Bk.get (B3.no hS) rfl)) ?_; refine goH T_ok 200 rfl ?_))
  rw [hA1]
  refine quietH rfl (fun w' hS => r_idx T_ok rfl rfl rfl rfl i.toNat (by omega) (by omega)) ?_
  refine goH T_ok 200 rfl ?_
  refine quietH rfl (fun w' hS => r_loadA T_ok rfl rfl rfl rfl (hc1.keep hb1 hS (fun h => h))) ?_
  rw [← hA1]
  refine goH T_ok 200 rfl ?_
  refine nwE rfl rfl (z := .agg #[I 0, I 0, I 0, I 0]) (by kernel_rfl) (cs := [I 0, I 0, I 0, I 0]) rfl ?_
  intro g7 w5 hg7 hs7 qk B7
  have hdr2 : w4.drew.heap.size = w4.heap.size := rfl
  have qk := (Chg.drew w4).trans qk
  refine ⟨qk, ?_⟩
  have hqq := qk.size
  have hq4 := q.size
  have l5 := B5.lt
  have l4 := B4.lt
  have Bg := Bg.no qk
  have B3 := B3.no qk
  have B4 := B4.no qk
  have B5 := B5.no qk
  have q := q.trans qk
  have Mm := Mm.no qk
  have lm5 := Mm.lt
  refine goH T_ok 200 rfl ?_
  refine stAL T_ok rfl rfl rfl rfl (vs := siL (siteAt m.c i)) rfl rfl rfl B7 rfl (by kernel_rfl) ?_
  intro w6 qk B7 hz7
  have B7 : Bk w6 g7 77 (siL (siteAt m.c i)) := B7
  have Bg := Bg.keep qk (by have := B3.lt; omega)
  have B3 := B3.keep qk (by omega)
  have B4 := B4.keep qk (by omega)
  have B5 := B5.keep qk (by omega)
  have Mm := Mm.keep qk (by omega)
  have q := q.step qk (fun k hk e => by omega)
  refine endH ?_
  have K := Q.Power_any (s : Int) m.c.parts lv (rateP (siteAt m.c i) e) (siteAt m.c i).lo (siteAt m.c i).hi
  rw [powE_ok hc hs hso l0 l1 e, if_pos rfl] at K
  refine go T_ok 200 rfl ?_
  repeat ((first | refine ldA T_ok rfl rfl rfl rfl rfl (Bk.all Bg) ?_ | refine ldA T_ok rfl rfl rfl rfl rfl (Bk.all B3) ?_ | refine ldA T_ok rfl rfl rfl rfl rfl (Bk.all B4) ?_ | refine ldA T_ok rfl rfl rfl rfl rfl (Bk.all B5) ?_ | refine ldA T_ok rfl rfl rfl rfl rfl (Bk.all B7) ?_ | refine ld T_ok rfl rfl rfl rfl (Bk.get Bg rfl) ?_ | refine ld T_ok rfl rfl rfl rfl (Bk.get B3 rfl) ?_ | refine ld T_ok rfl rfl rfl rfl (Bk.get B4 rfl) ?_ | refine ld T_ok rfl rfl rfl rfl (Bk.get B5 rfl) ?_ | refine ld T_ok rfl rfl rfl rfl (Bk.get B7 rfl) ?_ | refine gT rfl rfl rfl rfl ?_ | refine gF rfl rfl rfl rfl ?_ | refine condT rfl rfl ?_ | refine condF rfl rfl ?_); refine go T_ok 200 rfl ?_)
  refine Ev.cond rfl (fun he => ?_) (fun he => ?_)
  ·obtain rfl : e = true := he
   refine go T_ok 200 rfl ?_
   repeat ((first | refine ldA T_ok rfl rfl rfl rfl rfl (Bk.all Bg) ?_ | refine ldA T_ok rfl rfl rfl rfl rfl (Bk.all B3) ?_ | refine ldA T_ok rfl rfl rfl rfl rfl (Bk.all B4) ?_ | refine ldA T_ok rfl rfl rfl rfl rfl (Bk.all B5) ?_ | refine ldA T_ok rfl rfl rfl rfl rfl (Bk.all B7) ?_ | refine ld T_ok rfl rfl rfl rfl (Bk.get Bg rfl) ?_ | refine ld T_ok rfl rfl rfl rfl (Bk.get B3 rfl) ?_ | refine ld T_ok rfl rfl rfl rfl (Bk.get B4 rfl) ?_ | refine ld T_ok rfl rfl rfl rfl (Bk.get B5 rfl) ?_ | refine ld T_ok rfl rfl rfl rfl (Bk.get B7 rfl) ?_ | refine gT rfl rfl rfl rfl ?_ | refine gF rfl rfl rfl rfl ?_ | refine condT rfl rfl ?_ | refine condF rfl rfl ?_); refine go T_ok 200 rfl ?_)
   have lq6 := q.size
   have n1 : g ≠ g5 := by omega
   have n2 : g3 ≠ g5 := by omega
   have n3 : g7 ≠ g5 := by omega
   refine draw mixed (fun w' => Chg (fun k => k = g5) w6 w') ([0,1,2,3,4,5,6,7,8,9,10,11,12,13,14,15].map (fun i => (i, true)) ++ [(16, false)] ++ [17,18,19].map (fun i => (i, true)) ++ [(20, false)]) rfl (by kernel_rfl) ((Chg.drew _).mono (fun _ _ h => h.elim)) ?_
   refine goH T_ok 200 rfl ?_
   repeat (first | (refine quietH rfl (fun w' hS => r_load T_ok rfl rfl rfl (Bk.get (Bg.keep hS n1) rfl)) ?_; refine goH T_ok 200 rfl ?_) | (refine quietH rfl (fun w' hS => r_load T_ok rfl rfl rfl (Bk.get (B3.keep hS n2) rfl)) ?_; refine goH T_ok 200 rfl ?_) | (refine quietH rfl (fun w' hS => r_load T_ok rfl rfl rfl (Bk.get (B7.keep hS n3) rfl)) ?_; refine goH T_ok 200 rfl ?_))
   refine callE rfl rfl rfl (ok _ (by decide) rfl) (K _ (by omega)) ?_
   rintro v w7 ⟨q7, rfl⟩
   have qk := (Chg.drew w6).trans q7
   have qs : Chg (fun k => k = g5) w6 w7 := qk.mono (fun _ _ h => h.elim)
   refine ⟨qs, ?_⟩
   have Bg := Bg.no qk
   have B3 := B3.no qk
   have B4 := B4.no qk
   have B5 := B5.no qk
   have B7 := B7.no qk
   have q := q.trans qk
   have Mm := Mm.no qk
   have hqz := qk.size
   have lm7 := Mm.lt
   refine goH T_ok 200 rfl ?_
   refine stAE T_ok rfl rfl rfl rfl (vs := chV m.c s (i, lv, true)) rfl rfl rfl B5 rfl ?_
   intro w8 qk B5 hz8
   refine ⟨qs.trans qk, ?_⟩
   have B5 : Bk w8 g5 169 (chV m.c s (i, lv, true)) := B5
   have lq := q.size
   have Bg := Bg.keep qk (by omega)
   have B3 := B3.keep qk (by omega)
   have B4 := B4.keep qk (by omega)
   have Mm := Mm.keep qk (by omega)
   have q := q.step qk (fun k hk e => by omega)
   refine goH T_ok 200 rfl ?_
   refine endH ?_
   refine go T_ok 200 rfl ?_
   refine draw mixed (fun w' => Chg No w8 w') ([0,1,2,3,4,5].map (fun i => (i, true)) ++ [(6, false)]) rfl (by kernel_rfl) (Chg.drew _) ?_
   refine goH T_ok 200 rfl ?_
   repeat (first | (refine quietH rfl (fun w' hS => r_load T_ok rfl rfl rfl (Bk.get (Bg.no hS) rfl)) ?_; refine goH T_ok 200 rfl ?_))
   refine quietH rfl (fun w' hS => r_loadA T_ok rfl rfl rfl rfl (B3.no hS).all) ?_
   refine goH T_ok 200 rfl ?_
   refine quietH rfl (fun w' hS => r_loadA T_ok rfl rfl rfl rfl (B5.no hS).all) ?_
   refine goH T_ok 200 rfl ?_
   obtain ⟨kl, hkl⟩ := hkey
   refine updL K192 rfl rfl Try.underlying161 rfl (ek := ekS) (eb := ebC) (a := (i, lv, true)) rfl hkl (ekS_inj _) (v := chV m.c s (i, lv, true)) rfl (Mm.no (Chg.drew _)) (by kernel_rfl) ?_
   intro w9 qk Mm hz9
   have qk : Chg (fun k => k = mb) w8 w9 := ((Chg.drew w8).mono (fun _ _ h => h.elim)).trans qk
   have lm9 := Mm.lt
   have Bg := Bg.keep qk (by omega)
   have B4 := B4.keep qk (by omega)
   have B5 := B5.keep qk (by omega)
   have q : Chg (fun k => k = mb) w0 w9 := (q.mono (fun _ _ h => h.elim)).trans qk
   refine endH ?_
   refine go T_ok 200 rfl ?_
   repeat ((first | refine ldA T_ok rfl rfl rfl rfl rfl (Bk.all B4) ?_ | refine ldA T_ok rfl rfl rfl rfl rfl (Bk.all B5) ?_ | refine ld T_ok rfl rfl rfl rfl (Bk.get B4 rfl) ?_ | refine ld T_ok rfl rfl rfl rfl (Bk.get B5 rfl) ?_ | refine gT rfl rfl rfl rfl ?_ | refine gF rfl rfl rfl rfl ?_ | refine condT rfl rfl ?_ | refine condF rfl rfl ?_); refine go T_ok 200 rfl ?_)
   refine stA T_ok rfl rfl rfl rfl (vs := chV m.c s (i, lv, true)) rfl rfl rfl B4 rfl ?_
   intro w9 qk B4 hz9
   have B4 : Bk w9 g4 169 (chV m.c s (i, lv, true)) := B4
   have Bg := Bg.keep qk (by omega)
   have Mm := Mm.keep qk (by omega)
   have q := q.step qk (fun k hk e => by omega)
   refine go T_ok 200 rfl ?_
   refine ret (retR1 Try.results97 (resA T_ok rfl rfl rfl B4.all) ⟨rfl, ?_, ⟨Bg, ⟨_, _, Mm, ?_⟩, ?_, hne⟩⟩)
   ·exact q
   ·intro k v hv
    have hv : (if k = (i, lv, true) then some (chV m.c s (i, lv, true)) else f k) = some v := hv
    by_cases hk : k = (i, lv, true)
    ·rw [if_pos hk] at hv
     cases hv
     rw [hk]
    ·rw [if_neg hk] at hv
     exact hf k v hv
   ·exact sl_map Hc (by decide) Mm0 q
  ·obtain rfl : e = false := he
   refine go T_ok 200 rfl ?_
   repeat ((first | refine ldA T_ok rfl rfl rfl rfl rfl (Bk.all Bg) ?_ | refine ldA T_ok rfl rfl rfl rfl rfl (Bk.all B3) ?_ | refine ldA T_ok rfl rfl rfl rfl rfl (Bk.all B4) ?_ | refine ldA T_ok rfl rfl rfl rfl rfl (Bk.all B5) ?_ | refine ldA T_ok rfl rfl rfl rfl rfl (Bk.all B7) ?_ | refine ld T_ok rfl rfl rfl rfl (Bk.get Bg rfl) ?_ | refine ld T_ok rfl rfl rfl rfl (Bk.get B3 rfl) ?_ | refine ld T_ok rfl rfl rfl rfl (Bk.get B4 rfl) ?_ | refine ld T_ok rfl rfl rfl rfl (Bk.get B5 rfl) ?_ | refine ld T_ok rfl rfl rfl rfl (Bk.get B7 rfl) ?_ | refine gT rfl rfl rfl rfl ?_ | refine gF rfl rfl rfl rfl ?_ | refine condT rfl rfl ?_ | refine condF rfl rfl ?_); refine go T_ok 200 rfl ?_)
   have lq6 := q.size
   have n1 : g ≠ g5 := by omega
   have n2 : g3 ≠ g5 := by omega
   have n3 : g7 ≠ g5 := by omega
   refine draw mixed (fun w' => Chg (fun k => k = g5) w6 w') ([0,1,2,3,4,5,6,7,8,9,10,11,12,13,14,15].map (fun i => (i, true)) ++ [(16, false)] ++ [17,18,19].map (fun i => (i, true)) ++ [(20, false)]) rfl (by kernel_rfl) ((Chg.drew _).mono (fun _ _ h => h.elim)) ?_
   refine goH T_ok 200 rfl ?_
   repeat (first | (refine quietH rfl (fun w' hS => r_load T_ok rfl rfl rfl (Bk.get (Bg.keep hS n1) rfl)) ?_; refine goH T_ok 200 rfl ?_) | (refine quietH rfl (fun w' hS => r_load T_ok rfl rfl rfl (Bk.get (B3.keep hS n2) rfl)) ?_; refine goH T_ok 200 rfl ?_) | (refine quietH rfl (fun w' hS => r_load T_ok rfl rfl rfl (Bk.get (B7.keep hS n3) rfl)) ?_; refine goH T_ok 200 rfl ?_))
   refine callE rfl rfl rfl (ok _ (by decide) rfl) (K _ (by omega)) ?_
   rintro v w7 ⟨q7, rfl⟩
   have qk := (Chg.drew w6).trans q7
   have qs : Chg (fun k => k = g5) w6 w7 := qk.mono (fun _ _ h => h.elim)
   refine ⟨qs, ?_⟩
   have Bg := Bg.no qk
   have B3 := B3.no qk
   have B4 := B4.no qk
   have B5 := B5.no qk
   have B7 := B7.no qk
   have q := q.trans qk
   have Mm := Mm.no qk
   have hqz := qk.size
   have lm7 := Mm.lt
   refine goH T_ok 200 rfl ?_
   refine stAE T_ok rfl rfl rfl rfl (vs := chV m.c s (i, lv, false)) rfl rfl rfl B5 rfl ?_
   intro w8 qk B5 hz8
   refine ⟨qs.trans qk, ?_⟩
   have B5 : Bk w8 g5 169 (chV m.c s (i, lv, false)) := B5
   have lq := q.size
   have Bg := Bg.keep qk (by omega)
   have B3 := B3.keep qk (by omega)
   have B4 := B4.keep qk (by omega)
   have Mm := Mm.keep qk (by omega)
   have q := q.step qk (fun k hk e => by omega)
   refine goH T_ok 200 rfl ?_
   refine endH ?_
   refine go T_ok 200 rfl ?_
   refine draw mixed (fun w' => Chg No w8 w') ([0,1,2,3,4,5].map (fun i => (i, true)) ++ [(6, false)]) rfl (by kernel_rfl) (Chg.drew _) ?_
   refine goH T_ok 200 rfl ?_
   repeat (first | (refine quietH rfl (fun w' hS => r_load T_ok rfl rfl rfl (Bk.get (Bg.no hS) rfl)) ?_; refine goH T_ok 200 rfl ?_))
   refine quietH rfl (fun w' hS => r_loadA T_ok rfl rfl rfl rfl (B3.no hS).all) ?_
   refine goH T_ok 200 rfl ?_
   refine quietH rfl (fun w' hS => r_loadA T_ok rfl rfl rfl rfl (B5.no hS).all) ?_
   refine goH T_ok 200 rfl ?_
   obtain ⟨kl, hkl⟩ := hkey
   refine updL K192 rfl rfl Try.underlying161 rfl (ek := ekS) (eb := ebC) (a := (i, lv, false)) rfl hkl (ekS_inj _) (v := chV m.c s (i, lv, false)) rfl (Mm.no (Chg.drew _)) (by kernel_rfl) ?_
   intro w9 qk Mm hz9
   have qk : Chg (fun k => k = mb) w8 w9 := ((Chg.drew w8).mono (fun _ _ h => h.elim)).trans qk
   have lm9 := Mm.lt
   have Bg := Bg.keep qk (by omega)
   have B4 := B4.keep qk (by omega)
   have B5 := B5.keep qk (by omega)
   have q : Chg (fun k => k = mb) w0 w9 := (q.mono (fun _ _ h => h.elim)).trans qk
   refine endH ?_
   refine go T_ok 200 rfl ?_
   repeat ((first | refine ldA T_ok rfl rfl rfl rfl rfl (Bk.all B4) ?_ | refine ldA T_ok rfl rfl rfl rfl rfl (Bk.all B5) ?_ | refine ld T_ok rfl rfl rfl rfl (Bk.get B4 rfl) ?_ | refine ld T_ok rfl rfl rfl rfl (Bk.get B5 rfl) ?_ | refine gT rfl rfl rfl rfl ?_ | refine gF rfl rfl rfl rfl ?_ | refine condT rfl rfl ?_ | refine condF rfl rfl ?_); refine go T_ok 200 rfl ?_)
   refine stA T_ok rfl rfl rfl rfl (vs := chV m.c s (i, lv, false)) rfl rfl rfl B4 rfl ?_
   intro w9 qk B4 hz9
   have B4 : Bk w9 g4 169 (chV m.c s (i, lv, false)) := B4
   have Bg := Bg.keep qk (by omega)
   have Mm := Mm.keep qk (by omega)
   have q := q.step qk (fun k hk e => by omega)
   refine go T_ok 200 rfl ?_
   refine ret (retR1 Try.results97 (resA T_ok rfl rfl rfl B4.all) ⟨rfl, ?_, ⟨Bg, ⟨_, _, Mm, ?_⟩, ?_, hne⟩⟩)
   ·exact q
   ·intro k v hv
    have hv : (if k = (i, lv, false) then some (chV m.c s (i, lv, false)) else f k) = some v := hv
    by_cases hk : k = (i, lv, false)
    ·rw [if_pos hk] at hv
     cases hv
     rw [hk]
    ·rw [if_neg hk] at hv
     exact hf k v hv
   ·exact sl_map Hc (by decide) Mm0 q
end Go.Proofs.Ytolhfimknimliaa.K
namespace Go.Proofs.Ytolhfimknimliaa.K
open Go.Ev Go.Proofs Go.Camp
attribute [local irreducible] At AtH
/-- the weight of the outcomes of a site that tell -/
def abvP (c : Cp) (s : Nat) (k : SKey) : Int := Q.sumN (fun b => Q.wv c.parts.toNat k.2.1 (rateP (siteAt c k.1) k.2.2) (siteAt c k.1).lo.toNat (siteAt c k.1).hi.toNat 3 (Q.outN s b)) (2 ^ s)
/-- the weight of the outcomes of a choice in which all are silent -/
def silP (c : Cp) (s : Nat) (lv : Int) (e : Bool) (l : List Int) : Int := l.foldl (fun a i => a * (c.parts ^ s - abvP c s (i, lv, e))) 1
def oddsP (c : Cp) (s : Nat) (e : Bool) (l : List Int) : Int × Int := ((c.parts ^ s) ^ l.length - silP c s (c.level * l.length) e l, (c.parts ^ s) ^ l.length)
theorem rate_bd {p : Int} {x : Site} (h : SiteOk p x) (e : Bool) : 0 ≤ rateP x e ∧ rateP x e ≤ p := by
 have := h.l0; have := h.lh; have := h.h1; have := h.t0; have := h.t1
 unfold rateP
 split <;> omega
theorem abvP_bd {c : Cp} (hc : CpOk c) (s : Nat) {i : Int} (i0 : 0 ≤ i) (i1 : i < c.sites.length) (lv : Int) (e : Bool) : 0 ≤ abvP c s (i, lv, e) ∧ abvP c s (i, lv, e) ≤ c.parts ^ s := by
 have hx := (siteAt_ok hc i0 i1).2
 have hr := rate_bd hx e
 have hp := hc.p0
 have e1 : ((c.parts.toNat : Nat) : Int) = c.parts := by omega
 have := Q.wv_sum (d := c.parts.toNat) (lv := lv) (k := rateP (siteAt c i) e) (lo := (siteAt c i).lo.toNat) (hi := (siteAt c i).hi.toNat) (v := 3) hr.1 (by omega) s (Nat.le_refl _)
 rw [e1] at this
 exact this
theorem pow_s62 {c : Cp} (hc : CpOk c) {s : Nat} (hs : SlOk c s) : c.parts ^ s ≤ 1152921504606846976 := by
 have h1 := hc.p0; have h4 := hs.w
 have h5 := pow_le3 (D := c.parts) (by omega) s
 omega
theorem chV_eq {c : Cp} (hc : CpOk c) {s : Nat} (hs : SlOk c s) {i : Int} (i0 : 0 ≤ i) (i1 : i < c.sites.length) (lv : Int) (e : Bool) : ∃ a b : Int, chV c s (i, lv, e) = [I a, I (abvP c s (i, lv, e)), I b, I (c.parts ^ s)] := by
 have hx := (siteAt_ok hc i0 i1).2
 have hr := rate_bd hx e
 have hp := hc.p0
 have e1 : ((c.parts.toNat : Nat) : Int) = c.parts := by omega
 have h62 := pow_s62 hc hs
 have e2 := Q.powS_sum (d := c.parts.toNat) (lv := lv) (k := rateP (siteAt c i) e) (lo := (siteAt c i).lo.toNat) (hi := (siteAt c i).hi.toNat) (v := 3) hr.1 (by omega) (by omega) s (by rw [e1]; omega) (2 ^ s) (Nat.le_refl _)
 refine ⟨Q.powS c.parts.toNat lv (rateP (siteAt c i) e) (siteAt c i).lo.toNat (siteAt c i).hi.toNat 2 (Q.outsN s (2 ^ s)), Q.powS c.parts.toNat lv (rateP (siteAt c i) e) (siteAt c i).lo.toNat (siteAt c i).hi.toNat 1 (Q.outsN s (2 ^ s)), ?_⟩
 unfold chV Q.powL
 rw [whole_pow hc hs, Int.toNat_natCast]
 simp only
 rw [e2]
 rfl
theorem silP_snoc (c : Cp) (s : Nat) (lv : Int) (e : Bool) (l : List Int) (i : Int) : silP c s lv e (l ++ [i]) = silP c s lv e l * (c.parts ^ s - abvP c s (i, lv, e)) := by simp [silP, List.foldl_append]
theorem silF_bd {c : Cp} (hc : CpOk c) (s : Nat) (lv : Int) (e : Bool) : ∀ (l : List Int) (a : Int), 0 ≤ a → Sites c l → 0 ≤ l.foldl (fun a i => a * (c.parts ^ s - abvP c s (i, lv, e))) a ∧ l.foldl (fun a i => a * (c.parts ^ s - abvP c s (i, lv, e))) a ≤ a * (c.parts ^ s) ^ l.length := by
 have hp := hc.p0
 have h1 := pow_pos' (D := c.parts) (by omega) s
 intro l
 induction l with
 | nil => intro a h _; simp; exact h
 | cons i l ih =>
  intro a h hs
  obtain ⟨h2, h3⟩ := hs i (by simp)
  obtain ⟨b0, b1⟩ := abvP_bd hc s h2 h3 lv e
  have h4 : 0 ≤ a * (c.parts ^ s - abvP c s (i, lv, e)) := Int.mul_nonneg h (by omega)
  have h5 := ih _ h4 fun j hj => hs j (by simp [hj])
  simp only [List.foldl_cons, List.length_cons]
  refine ⟨h5.1, Int.le_trans h5.2 ?_⟩
  have h6 : a * (c.parts ^ s - abvP c s (i, lv, e)) ≤ a * c.parts ^ s := Int.mul_le_mul_of_nonneg_left (by omega) h
  have h7 := pow_pos' (D := c.parts ^ s) h1 l.length
  have h8 := Int.mul_le_mul_of_nonneg_right h6 (show 0 ≤ (c.parts ^ s) ^ l.length by omega)
  rw [Int.pow_succ, Int.mul_comm ((c.parts ^ s) ^ l.length) (c.parts ^ s), ← Int.mul_assoc]
  exact h8
theorem silP_bd {c : Cp} (hc : CpOk c) (s : Nat) (lv : Int) (e : Bool) {l : List Int} (hl : Sites c l) : 0 ≤ silP c s lv e l ∧ silP c s lv e l ≤ (c.parts ^ s) ^ l.length := by
 have := silF_bd hc s lv e l 1 (by omega) hl
 rw [Int.one_mul] at this
 exact this
theorem pow_pow3 {c : Cp} (hc : CpOk c) {s : Nat} (hs : SlOk c s) {j : Nat} (hj : j ≤ 3) : 1 ≤ (c.parts ^ s) ^ j ∧ (c.parts ^ s) ^ j ≤ 1152921504606846976 := by
 have hp := hc.p0
 have h1 := pow_pos' (D := c.parts) (by omega) s
 have h2 := pow_pos' (D := c.parts ^ s) h1 j
 have h3 := pow_mono' (D := c.parts ^ s) h1 hj
 have h4 : (c.parts ^ s) ^ 3 = c.parts ^ (3 * s) := by rw [pow3, Int.pow_succ, Int.pow_succ, Int.pow_succ, Int.pow_zero, Int.one_mul, Int.mul_assoc]
 have := hs.w
 omega
set_option maxRecDepth 20000 in
set_option maxHeartbeats 4000000 in
theorem odds_ok (m : Cm) (s g mb : Nat) (l : List Int) (e : Bool) (A : Option Addr) (c B : Nat) (w0 : World) (H : TelM w0 g mb m s) (hc : CpOk m.c) (hs : SlOk m.c s) (hl : Sites m.c l) (n0 : 1 ≤ l.length) (n3 : l.length ≤ 3) (Sl0 : Sl w0 B 1 A l.length (iL l)) :
  Ret Try.prog 70 [.pointer (some ⟨g, 0, none⟩), .slice A l.length c, .bool e] w0 fun x w' => x = .agg #[I (oddsP m.c s e l).1, I (oddsP m.c s e l).2] ∧ Chg (fun k => k = mb) w0 w' ∧ TelM w' g mb m s := by
 have lg := H.bk.lt
 have lm := H.lm
 have Hcm := H.cm
 obtain ⟨mn, mf, Mm0, _⟩ := H.mp
 have Sl0 := Sl0.more Sl0.2.1 (Nat.le_refl _)
 obtain ⟨lv, hlv⟩ : ∃ lv, lv = m.c.level * (l.length : Int) := ⟨_, rfl⟩
 have v0 := hc.v0; have v1 := hc.v1
 have hlv2 : 2 ≤ lv ∧ lv ≤ 900000 := by
  have h1 : m.c.level * 1 ≤ m.c.level * (l.length : Int) := Int.mul_le_mul_of_nonneg_left (by omega) (by omega)
  have h2 : m.c.level * (l.length : Int) ≤ m.c.level * 3 := Int.mul_le_mul_of_nonneg_left (by omega) (by omega)
  omega
 refine enter Try.func70 rfl Try.ntmps70 rfl ?_
 refine go T_ok 200 rfl ?_
 refine nw rfl rfl (z := .agg #[I 0, I 0]) (by kernel_rfl) (cs := [I 0, I 0]) rfl ?_
 intro g6 w1 hg6 hs6 qk B6
 have q : Chg (fun k => k = mb) w0 w1 := qk.mono (fun _ _ h => h.elim)
 have H := H.no qk
 refine go T_ok 200 rfl ?_
 repeat ((first | refine ldA T_ok rfl rfl rfl rfl rfl (Bk.all B6) ?_ | refine ld T_ok rfl rfl rfl rfl (Bk.get B6 rfl) ?_ | refine gT rfl rfl rfl rfl ?_ | refine gF rfl rfl rfl rfl ?_ | refine condT rfl rfl ?_ | refine condF rfl rfl ?_); refine go T_ok 200 rfl ?_)
 refine loop [0, 1, 2, 6, 7, 8, 12, 13, 14] (fun j : Nat => [.pointer (some ⟨g, 0, none⟩), .slice A l.length c, .bool e, .pointer (some ⟨g6, 0, none⟩), I ((m.c.parts ^ s) ^ j), I (silP m.c s lv e (l.take j)), .slice A l.length c, .int .i64 (l.length : Int), .int .i64 (j : Int)])
  (fun j w' => j ≤ l.length ∧ Chg (fun k => k = mb) w0 w' ∧ Bk w' g6 67 [I 0, I 0] ∧ TelM w' g mb m s) (fun j => l.length - j) 0 (fun _ => rfl) (by rw [Int.pow_zero]; rfl) ⟨Nat.zero_le _, q, B6, H⟩ ?_
 rintro j τ w ⟨hj, q, B6, H⟩
 have Bg := H.bk
 refine go T_ok 200 rfl ?_
 repeat ((first | refine ldA T_ok rfl rfl rfl rfl rfl (Bk.all B6) ?_ | refine ldA T_ok rfl rfl rfl rfl rfl (Bk.all Bg) ?_ | refine ld T_ok rfl rfl rfl rfl (Bk.get B6 rfl) ?_ | refine ld T_ok rfl rfl rfl rfl (Bk.get Bg rfl) ?_ | refine gT rfl rfl rfl rfl ?_ | refine gF rfl rfl rfl rfl ?_ | refine condT rfl rfl ?_ | refine condF rfl rfl ?_); refine go T_ok 200 rfl ?_)
 refine condD rfl (fun hlt => ?_) (fun hlt => ?_)
 ·have hlt : j < l.length := by omega
  obtain ⟨i, hi⟩ := getA_of hlt
  obtain ⟨i0, i1⟩ := hl i (List.mem_of_getElem? hi)
  obtain ⟨b1, o1, hA1, _, hc1⟩ := (sl_map Sl0 (by decide) Mm0 q).elI hi
  have e3 : w64 ((j : Int) + 1) = ((j + 1 : Nat) : Int) := w64_id (by omega) (by omega)
  have etake : l.take (j + 1) = l.take j ++ [i] := by rw [List.take_add_one, hi]; rfl
  have hb1 := silP_bd hc s lv e (l := l.take (j + 1)) (fun x hx => hl x (List.mem_of_mem_take hx))
  have hb0 := silP_bd hc s lv e (l := l.take j) (fun x hx => hl x (List.mem_of_mem_take hx))
  rw [List.length_take, Nat.min_eq_left (by omega)] at hb0 hb1
  have p1 := pow_pow3 hc hs (j := j + 1) (by omega)
  have p0 := pow_pow3 hc hs (j := j) (by omega)
  have ps := pow_s62 hc hs
  have ab := abvP_bd hc s i0 i1 lv e
  have hsn := silP_snoc m.c s lv e (l.take j) i
  rw [← etake] at hsn
  refine go T_ok 200 rfl ?_
  rw [hA1]
  refine idx T_ok rfl rfl rfl rfl rfl j rfl hlt ?_
  refine go T_ok 200 rfl ?_
  refine ld T_ok rfl rfl rfl rfl (hc1) ?_
  refine go T_ok 200 rfl ?_
  rw [← hA1]
  refine go T_ok 200 rfl ?_
  repeat ((first | refine ldA T_ok rfl rfl rfl rfl rfl (Bk.all B6) ?_ | refine ldA T_ok rfl rfl rfl rfl rfl (Bk.all Bg) ?_ | refine ld T_ok rfl rfl rfl rfl (Bk.get B6 rfl) ?_ | refine ld T_ok rfl rfl rfl rfl (Bk.get Bg rfl) ?_ | refine gT rfl rfl rfl rfl ?_ | refine gF rfl rfl rfl rfl ?_ | refine condT rfl rfl ?_ | refine condF rfl rfl ?_); refine go T_ok 200 rfl ?_)
  rw [w64_id (x := m.c.level * (l.length : Int)) (by omega) (by omega), ← hlv]
  refine call rfl rfl rfl (ok _ (by decide) rfl) (chances_ok m s g mb i lv e w H hc hs i0 i1 hlv2.1 hlv2.2) ?_
  rintro x w2 ⟨rfl, qk, H⟩
  obtain ⟨ca, cb, hch⟩ := chV_eq hc hs i0 i1 lv e
  rw [hch]
  have B6 := B6.keep qk (by omega)
  have q := q.trans qk
  have Bg := H.bk
  refine go T_ok 200 rfl ?_
  refine nw rfl rfl (z := .agg #[I 0, I 0, I 0, I 0]) (by kernel_rfl) (cs := [I 0, I 0, I 0, I 0]) rfl ?_
  intro g11 w3 hg11 hs11 qa B11
  have lm2 := H.lm
  refine go T_ok 200 rfl ?_
  refine stA T_ok rfl rfl rfl rfl (vs := [I ca, I (abvP m.c s (i, lv, e)), I cb, I (m.c.parts ^ s)]) rfl rfl rfl B11 rfl ?_
  intro w4 qb B11 hz
  have B11 : Bk w4 g11 169 [I ca, I (abvP m.c s (i, lv, e)), I cb, I (m.c.parts ^ s)] := B11
  have qk : Chg No w2 w4 := qa.step qb (fun k hk e => by omega)
  have H := H.no qk
  have B6 := B6.no qk
  have q := q.no qk
  refine go T_ok 200 rfl ?_
  repeat ((first | refine ldA T_ok rfl rfl rfl rfl rfl (Bk.all B6) ?_ | refine ldA T_ok rfl rfl rfl rfl rfl (Bk.all B11) ?_ | refine ld T_ok rfl rfl rfl rfl (Bk.get B6 rfl) ?_ | refine ld T_ok rfl rfl rfl rfl (Bk.get B11 rfl) ?_ | refine gT rfl rfl rfl rfl ?_ | refine gF rfl rfl rfl rfl ?_ | refine condT rfl rfl ?_ | refine condF rfl rfl ?_); refine go T_ok 200 rfl ?_)
  have eall : (m.c.parts ^ s) ^ j * m.c.parts ^ s = (m.c.parts ^ s) ^ (j + 1) := (Int.pow_succ _ _).symm
  rw [eall, w64_id (x := (m.c.parts ^ s) ^ (j + 1)) (by omega) (by omega), w64_id (x := m.c.parts ^ s - abvP m.c s (i, lv, e)) (by omega) (by omega), ← hsn, w64_id (x := silP m.c s lv e (l.take (j + 1))) (by omega) (by omega), e3]
  exact round ⟨j + 1, rfl, ⟨by omega, q, B6, H⟩, by omega⟩
 ·obtain rfl : j = l.length := by omega
  rw [List.take_length]
  have hb := silP_bd hc s lv e hl
  have p1 := pow_pow3 hc hs n3
  refine go T_ok 200 rfl ?_
  rw [w64_id (x := (m.c.parts ^ s) ^ l.length - silP m.c s lv e l) (by omega) (by omega)]
  have e1 : (m.c.parts ^ s) ^ l.length - silP m.c s lv e l = (oddsP m.c s e l).1 := by rw [hlv]; rfl
  have e2 : (m.c.parts ^ s) ^ l.length = (oddsP m.c s e l).2 := rfl
  rw [e1, e2]
  have lq := q.size
  have lg6 := B6.lt
  have hlm := H.lm
  refine stA T_ok rfl rfl rfl rfl (vs := [I (oddsP m.c s e l).1, I (oddsP m.c s e l).2]) rfl rfl rfl B6 rfl ?_
  intro w4 qb B6 hz
  have B6 : Bk w4 g6 67 [I (oddsP m.c s e l).1, I (oddsP m.c s e l).2] := B6
  have q := q.step qb (fun k hk e => by omega)
  refine go T_ok 200 rfl ?_
  obtain ⟨n5, f5, M5, hf5⟩ := H.mp
  exact ret (retR1 Try.results70 (resA T_ok rfl rfl rfl B6.all) ⟨rfl, q, ⟨H.bk.keep qb (by omega), ⟨n5, f5, M5.keep qb (by omega), hf5⟩, sl_map Hcm (by decide) Mm0 q, H.ne⟩⟩)
/-- Power and False -/
theorem yes_choice (m : Cm) (l : List Int) (A : Option Addr) (c : Nat) (kf g1 g2 : Nat) (w0 : World) (H : CpM w0 m) (hc : CpOk m.c) (Sl0 : Sl w0 w0.heap.size 1 A l.length (iL l)) (hl : ChOk m.c l) (B1 : Bk w0 g1 63 (cpL m)) (B2 : Bk w0 g2 45 [.slice A l.length c]) (hk : kf = 68 ∨ kf = 74) :
  Yes (.func (.func kf) #[] #[.pointer (some ⟨g1, 0, none⟩), .pointer (some ⟨g2, 0, none⟩)]) w0 := by
 rcases hk with rfl | rfl
 ·refine ⟨68, _, rfl, ok _ (by decide) rfl, fun w1 q => ?_⟩
  refine enter Try.func68 rfl Try.ntmps68 rfl ?_
  have B1 := B1.no q
  have B2 := B2.no q
  have q' := q
  have q := Chg.refl No w1
  refine go T_ok 200 rfl ?_
  repeat ((first | refine ldA T_ok rfl rfl rfl rfl rfl (Bk.all B1) ?_ | refine ldA T_ok rfl rfl rfl rfl rfl (Bk.all B2) ?_ | refine ld T_ok rfl rfl rfl rfl (Bk.get B1 rfl) ?_ | refine ld T_ok rfl rfl rfl rfl (Bk.get B2 rfl) ?_ | refine gT rfl rfl rfl rfl ?_ | refine gF rfl rfl rfl rfl ?_ | refine condT rfl rfl ?_ | refine condF rfl rfl ?_); refine go T_ok 200 rfl ?_)
  refine call rfl rfl rfl (ok _ (by decide) rfl) (chosen_ok m l A c _ _ (H.no q') hc (Sl0.no q') hl) ?_
  rintro x w ⟨rfl, qk⟩
  have B1 := B1.no qk
  have B2 := B2.no qk
  have q := q.trans qk
  refine go T_ok 200 rfl ?_
  exact ret (ret1 (v := .bool true) Try.results68 rfl ⟨rfl, q⟩)
 ·refine ⟨74, _, rfl, ok _ (by decide) rfl, fun w1 q => ?_⟩
  refine enter Try.func74 rfl Try.ntmps74 rfl ?_
  have B1 := B1.no q
  have B2 := B2.no q
  have q' := q
  have q := Chg.refl No w1
  refine go T_ok 200 rfl ?_
  repeat ((first | refine ldA T_ok rfl rfl rfl rfl rfl (Bk.all B1) ?_ | refine ldA T_ok rfl rfl rfl rfl rfl (Bk.all B2) ?_ | refine ld T_ok rfl rfl rfl rfl (Bk.get B1 rfl) ?_ | refine ld T_ok rfl rfl rfl rfl (Bk.get B2 rfl) ?_ | refine gT rfl rfl rfl rfl ?_ | refine gF rfl rfl rfl rfl ?_ | refine condT rfl rfl ?_ | refine condF rfl rfl ?_); refine go T_ok 200 rfl ?_)
  refine call rfl rfl rfl (ok _ (by decide) rfl) (chosen_ok m l A c _ _ (H.no q') hc (Sl0.no q') hl) ?_
  rintro x w ⟨rfl, qk⟩
  have B1 := B1.no qk
  have B2 := B2.no qk
  have q := q.trans qk
  refine go T_ok 200 rfl ?_
  exact ret (ret1 (v := .bool true) Try.results74 rfl ⟨rfl, q⟩)
set_option maxRecDepth 20000 in
set_option maxHeartbeats 4000000 in
theorem Power_ok (m : Cm) (s : Nat) (l : List Int) (A : Option Addr) (c B : Nat) (w0 : World) (H : CpM w0 m) (hc : CpOk m.c) (hs : SlOk m.c s) (hl : ChOk m.c l) (Sl0 : Sl w0 B 1 A l.length (iL l)) :
  Ret Try.prog 26 [.agg (cpL m).toArray, .slice A l.length c, I (s : Int)] w0 fun x w' => x = .tuple #[.agg #[I (oddsP m.c s false l).1, I (oddsP m.c s false l).2], I 0] ∧ Chg No w0 w' := by
 have Sl0 := Sl0.more Sl0.2.1 (Nat.le_refl _)
 refine enter Try.func26 rfl Try.ntmps26 rfl ?_
 refine go T_ok 200 rfl ?_
 refine bx rfl rfl rfl (cs := cpL m) rfl ?_
 intro g3 u3 hg3 hs3 q3 B3
 have q := q3
 refine go T_ok 200 rfl ?_
 refine bx rfl rfl rfl (cs := [.slice A l.length c]) rfl ?_
 intro g4 w1 hg4 hs4 qk B4
 have B3 := B3.no qk
 have q := q.trans qk
 refine go T_ok 200 rfl ?_
 refine nw rfl rfl (z := .agg #[I 0, I 0]) (by kernel_rfl) (cs := [I 0, I 0]) rfl ?_
 intro g6 w2 hg6 hs6 qk B6
 have B3 := B3.no qk
 have B4 := B4.no qk
 have q := q.trans qk
 refine go T_ok 200 rfl ?_
 repeat ((first | refine ldA T_ok rfl rfl rfl rfl rfl (Bk.all B3) ?_ | refine ldA T_ok rfl rfl rfl rfl rfl (Bk.all B4) ?_ | refine ldA T_ok rfl rfl rfl rfl rfl (Bk.all B6) ?_ | refine ld T_ok rfl rfl rfl rfl (Bk.get B3 rfl) ?_ | refine ld T_ok rfl rfl rfl rfl (Bk.get B4 rfl) ?_ | refine ld T_ok rfl rfl rfl rfl (Bk.get B6 rfl) ?_ | refine gT rfl rfl rfl rfl ?_ | refine gF rfl rfl rfl rfl ?_ | refine condT rfl rfl ?_ | refine condF rfl rfl ?_); refine go T_ok 200 rfl ?_)
 have Sq := (Sl0.no q).more q.size (Nat.le_refl _)
 refine call rfl rfl rfl (ok _ (by decide) rfl) (ask_ok m s _ _ (H.no q) hc hs (yes_choice m l A c 68 g3 g4 _ (H.no q) hc Sq hl B3 B4 (by decide))) ?_
 rintro x w ⟨g, mb, rfl, qk, HT, lg, lmb⟩
 have B3 := B3.no qk
 have B4 := B4.no qk
 have B6 := B6.no qk
 have q := q.trans qk
 have lq := q.size
 have l6 := B6.lt
 refine go T_ok 200 rfl ?_
 repeat ((first | refine ldA T_ok rfl rfl rfl rfl rfl (Bk.all B3) ?_ | refine ldA T_ok rfl rfl rfl rfl rfl (Bk.all B4) ?_ | refine ldA T_ok rfl rfl rfl rfl rfl (Bk.all B6) ?_ | refine ld T_ok rfl rfl rfl rfl (Bk.get B3 rfl) ?_ | refine ld T_ok rfl rfl rfl rfl (Bk.get B4 rfl) ?_ | refine ld T_ok rfl rfl rfl rfl (Bk.get B6 rfl) ?_ | refine gT rfl rfl rfl rfl ?_ | refine gF rfl rfl rfl rfl ?_ | refine condT rfl rfl ?_ | refine condF rfl rfl ?_); refine go T_ok 200 rfl ?_)
 refine call rfl rfl rfl (ok _ (by decide) rfl) (odds_ok m s g mb l false A c w0.heap.size _ HT hc hs hl.s hl.n0 hl.n1 (Sl0.no q)) ?_
 rintro x w4 ⟨rfl, qk, HT⟩
 have B6 := B6.keep qk (by omega)
 have q := q.step qk (fun k hk e => by omega)
 refine go T_ok 200 rfl ?_
 refine stA T_ok rfl rfl rfl rfl (vs := [I (oddsP m.c s false l).1, I (oddsP m.c s false l).2]) rfl rfl rfl B6 rfl ?_
 intro w5 qb B6 hz
 have B6 : Bk w5 g6 67 [I (oddsP m.c s false l).1, I (oddsP m.c s false l).2] := B6
 refine go T_ok 200 rfl ?_
 exact ret (retR2 Try.results26 (resA T_ok rfl rfl rfl B6.all) rfl ⟨rfl, q.step qb (fun k hk e => by omega)⟩)
set_option maxRecDepth 20000 in
set_option maxHeartbeats 4000000 in
theorem False_ok (m : Cm) (s : Nat) (l : List Int) (A : Option Addr) (c B : Nat) (w0 : World) (H : CpM w0 m) (hc : CpOk m.c) (hs : SlOk m.c s) (hl : ChOk m.c l) (Sl0 : Sl w0 B 1 A l.length (iL l)) :
  Ret Try.prog 29 [.agg (cpL m).toArray, .slice A l.length c, I (s : Int)] w0 fun x w' => x = .tuple #[.agg #[I (oddsP m.c s true l).1, I (oddsP m.c s true l).2], I 0] ∧ Chg No w0 w' := by
 have Sl0 := Sl0.more Sl0.2.1 (Nat.le_refl _)
 refine enter Try.func29 rfl Try.ntmps29 rfl ?_
 refine go T_ok 200 rfl ?_
 refine bx rfl rfl rfl (cs := cpL m) rfl ?_
 intro g3 u3 hg3 hs3 q3 B3
 have q := q3
 refine go T_ok 200 rfl ?_
 refine bx rfl rfl rfl (cs := [.slice A l.length c]) rfl ?_
 intro g4 w1 hg4 hs4 qk B4
 have B3 := B3.no qk
 have q := q.trans qk
 refine go T_ok 200 rfl ?_
 refine nw rfl rfl (z := .agg #[I 0, I 0]) (by kernel_rfl) (cs := [I 0, I 0]) rfl ?_
 intro g6 w2 hg6 hs6 qk B6
 have B3 := B3.no qk
 have B4 := B4.no qk
 have q := q.trans qk
 refine go T_ok 200 rfl ?_
 repeat ((first | refine ldA T_ok rfl rfl rfl rfl rfl (Bk.all B3) ?_ | refine ldA T_ok rfl rfl rfl rfl rfl (Bk.all B4) ?_ | refine ldA T_ok rfl rfl rfl rfl rfl (Bk.all B6) ?_ | refine ld T_ok rfl rfl rfl rfl (Bk.get B3 rfl) ?_ | refine ld T_ok rfl rfl rfl rfl (Bk.get B4 rfl) ?_ | refine ld T_ok rfl rfl rfl rfl (Bk.get B6 rfl) ?_ | refine gT rfl rfl rfl rfl ?_ | refine gF rfl rfl rfl rfl ?_ | refine condT rfl rfl ?_ | refine condF rfl rfl ?_); refine go T_ok 200 rfl ?_)
 have Sq := (Sl0.no q).more q.size (Nat.le_refl _)
 refine call rfl rfl rfl (ok _ (by decide) rfl) (ask_ok m s _ _ (H.no q) hc hs (yes_choice m l A c 74 g3 g4 _ (H.no q) hc Sq hl B3 B4 (by decide))) ?_
 rintro x w ⟨g, mb, rfl, qk, HT, lg, lmb⟩
 have B3 := B3.no qk
 have B4 := B4.no qk
 have B6 := B6.no qk
 have q := q.trans qk
 have lq := q.size
 have l6 := B6.lt
 refine go T_ok 200 rfl ?_
 repeat ((first | refine ldA T_ok rfl rfl rfl rfl rfl (Bk.all B3) ?_ | refine ldA T_ok rfl rfl rfl rfl rfl (Bk.all B4) ?_ | refine ldA T_ok rfl rfl rfl rfl rfl (Bk.all B6) ?_ | refine ld T_ok rfl rfl rfl rfl (Bk.get B3 rfl) ?_ | refine ld T_ok rfl rfl rfl rfl (Bk.get B4 rfl) ?_ | refine ld T_ok rfl rfl rfl rfl (Bk.get B6 rfl) ?_ | refine gT rfl rfl rfl rfl ?_ | refine gF rfl rfl rfl rfl ?_ | refine condT rfl rfl ?_ | refine condF rfl rfl ?_); refine go T_ok 200 rfl ?_)
 refine call rfl rfl rfl (ok _ (by decide) rfl) (odds_ok m s g mb l true A c w0.heap.size _ HT hc hs hl.s hl.n0 hl.n1 (Sl0.no q)) ?_
 rintro x w4 ⟨rfl, qk, HT⟩
 have B6 := B6.keep qk (by omega)
 have q := q.step qk (fun k hk e => by omega)
 refine go T_ok 200 rfl ?_
 refine stA T_ok rfl rfl rfl rfl (vs := [I (oddsP m.c s true l).1, I (oddsP m.c s true l).2]) rfl rfl rfl B6 rfl ?_
 intro w5 qb B6 hz
 have B6 : Bk w5 g6 67 [I (oddsP m.c s true l).1, I (oddsP m.c s true l).2] := B6
 refine go T_ok 200 rfl ?_
 exact ret (retR2 Try.results29 (resA T_ok rfl rfl rfl B6.all) rfl ⟨rfl, q.step qb (fun k hk e => by omega)⟩)
end Go.Proofs.Ytolhfimknimliaa.K
namespace Go.Ev
open Go.RowKit
section
variable {P : Program} {n : Nat} {R : Env → World → Prop} {fr : Fra} {S : World → Prop} {all : Array Oper} {k : List It} {ρ : Env} {dec : List Nat} {w : World}
/-- an iterator hands on, in a drawn region -/
theorem yieldE {l : List (Oper × Bool)} {o : Oper} {fo : Operand} {args : Array Operand} {tys : Array TypeId} {lr : Nat} {K : World → Prop}
  (hw : wantB n ρ all o = true) (ho : o.op = .call { callee := .value fo, args := args, argTypes := tys }) (hf : ev n ρ fo = .func (.yield lr) #[] #[])
  (hc : YieldAt Fence.wide 0 P lr (evs n ρ args.toList).toArray w (fun e w' => e = .returned (.bool true) ∧ K w')) (h : ∀ w', K w' → S w' ∧ AtH P n R fr S all l k (updo ρ o.dst (.bool true)) dec w') : AtH P n R fr S all ((o, false) :: l) k ρ dec w := by
 obtain ⟨fn, tmps, assign, body, hy, hR⟩ := hc
 refine byE hw ⟨fun _ _ => trivial, ?_⟩
 rw [Oper.semAt_eq (fen fr.1).round _ o (by intro c; rw [ho]; simp)]
 have e : (execOp (F fr.2 n ρ).eval o).run P w = .ok (.round lr fn tmps assign body) w := by
  rw [F_eval]
  have e1 : args.map (ev n ρ) = (evs n ρ args.toList).toArray := by apply Array.ext'; simp [← evs_map]
  simp only [execOp, ho, resolve, hf, Deferred.ofValue, e1, Sem.run_bind, Sem.run_pure, Result.andThen_ok, invoke]
  simpa using hy
 rw [e]
 refine ⟨fen_depth, ?_⟩
 show RoundIn Fence.wide 0 P lr fn tmps assign body w _
 refine RoundIn.mono hR ?_
 rintro e w' ⟨rfl, hv⟩
 obtain ⟨h1, h2⟩ := h w' hv
 exact ⟨_, F_put _ _ _ _, .inl h1, h2.hint⟩
end
theorem lt_own {w : World} {B : Nat} {e : TypeId} {sz n : Nat} {v : Value} {xs : List Value} (h : w.ownsRow B e sz v n xs) {k : Nat} (hk : v.ownBlock = some k) : k < w.heap.size := by
 obtain ⟨cs, t, hc⟩ := own_cells h hk
 exact lt_of_block hc
/-- an own row without its last element -/
theorem own_pop {w : World} {B : Nat} {e : TypeId} {n c : Nat} {A : Option Addr} {xs : List Value} {x : Value} (h : w.ownsRow B e 1 (.slice A (n + 1) c) (n + 1) (xs ++ [x])) : w.ownsRow B e 1 (.slice A n c) n xs := by
 obtain ⟨h1, h2⟩ := h
 have hl : xs.length = n := by simpa using h1
 refine ⟨by omega, ?_⟩
 rcases h2 with ⟨hv, h0⟩ | ⟨g, cap, cur, hv, hb, hg, hnc, hm, hcs, ht⟩
 ·omega
 ·injection hv with hA _ hc
  subst hA; subst hc
  refine .inr ⟨g, c, cur, rfl, hb, hg, by omega, hm, hcs, ?_⟩
  have := congrArg (List.take (n * 1)) ht
  rw [List.take_take, Nat.min_eq_left (by omega), List.take_left' (by omega)] at this
  exact this
end Go.Ev
namespace Go.Proofs.Ytolhfimknimliaa.K
open Go.Ev Go.Proofs Go.Camp
attribute [local irreducible] At AtH
/-- what an item and all behind it yield -/
def itemP (c : Cp) (rec : Nat → List Int → List (List Int)) (now : List Int) (i : Nat) : List (List Int) := (if costP c (now ++ [(i : Int)]) ≤ c.budget then [now ++ [(i : Int)]] else []) ++ rec (i + 1) (now ++ [(i : Int)])
def upTo (f : Nat → List (List Int)) (a : Nat) : Nat → List (List Int)
 | 0 => []
 | k + 1 => upTo f a k ++ f (a + k)
/-- all choices that go on from some sites, by sites from some number on -/
def moreL (c : Cp) : Nat → Nat → List Int → List (List Int)
 | 0, _, _ => []
 | f + 1, a, now => upTo (itemP c (moreL c f) now) a (c.sites.length - a)
abbrev Cx := Option Addr × Nat × List Int
def encX (x : Cx) : List Value := [.slice x.1 x.2.2.length x.2.1]
def outX (n : Nat) (x : Cx) (w : World) : Prop := 1 ≤ x.2.2.length ∧ x.2.2.length ≤ 3 ∧ (∀ i ∈ x.2.2, 0 ≤ i ∧ i < (n : Int)) ∧ Sl w w.heap.size 1 x.1 x.2.2.length (iL x.2.2)
section
variable (m : Cm) (s g mb gt gn gy gm l : Nat) (J : List Cx → (Nat → Prop) → World → Prop) (W : World)
def capsM : List Value := [.pointer (some ⟨gt, 0, none⟩), .pointer (some ⟨gn, 0, none⟩), .pointer (some ⟨gy, 0, none⟩), .pointer (some ⟨gm, 0, none⟩)]
/-- the blocks that the loop's body must leave -/
def ZX (k : Nat) : Prop := k = gt ∨ k = g ∨ ∃ o, m.A = some ⟨k, o, none⟩
/-- where a search stands -/
structure CInv (w : World) (now : List Int) (pre : List Cx) : Prop where
 bt : Bk w gt 123 [.pointer (some ⟨g, 0, none⟩)]
 bg : Bk w g 163 (telL m s mb)
 cm : Sl w W.heap.size 4 m.A m.c.sites.length (m.c.sites.flatMap siL)
 bn : ∃ A c O, Bk w gn 45 [.slice A now.length c] ∧ w.ownsRow (gm + 1) 3 1 (.slice A now.length c) now.length (iL now) ∧ J pre O w ∧ (O gn ∧ O gy ∧ O gm) ∧ ∀ k, (Value.slice A now.length c).ownBlock = some k → O k
 b2 : Bk w gy 112 [.func (.yield l) #[] #[]]
 bm : Bk w gm 103 [.func (.func 117) #[] (capsM gt gn gy gm).toArray]
 sz : W.heap.size ≤ w.heap.size
structure CPos : Prop where
 t : gt < W.heap.size
 g : g < W.heap.size
 y : W.heap.size ≤ gy
 n : gy < gn
 m : gn < gm
end
set_option maxRecDepth 20000 in
set_option maxHeartbeats 8000000 in
theorem more_ok (m : Cm) (s g mb gt gn gy gm l : Nat) (J : List Cx → (Nat → Prop) → World → Prop) (W : World) (hc : CpOk m.c) (hp : CPos g gt gn gy gm W)
  (hJ : ∀ s O A B, J s O A → Chg O A B → J s (Y.Cl O A B) B)
  (hY : ∀ pre O x W1, J pre O W1 → outX m.c.sites.length x W1 → W.heap.size ≤ W1.heap.size →
   YieldAt Fence.wide 0 Try.prog l (encX x).toArray W1 fun e W' => e = .returned (.bool true) ∧ J (pre ++ [x]) O W' ∧ Chg (fun k => ¬ ZX m g gt k ∧ ¬ O k) W1 W') :
  ∀ (f a : Nat) (now : List Int) (pre : List Cx) (w0 : World), now.length + f = 3 → a ≤ m.c.sites.length → Sites m.c now → 1 ≤ f → CInv m s g mb gt gn gy gm l J W w0 now pre →
  Ret Try.prog 117 (I (a : Int) :: capsM gt gn gy gm) w0 fun v w' => v = .bool true ∧ ∃ pre', pre'.map (·.2.2) = pre.map (·.2.2) ++ moreL m.c f a now ∧ CInv m s g mb gt gn gy gm l J W w' now pre' := by
 have n8 := hc.n1
 have p1 := hp.t; have p2 := hp.g; have p3 := hp.y; have p4 := hp.n; have p5 := hp.m
 intro f
 induction f with
 | zero => intro a now pre w0 _ _ _ h; omega
 | succ f ih =>
  intro a now pre w0 hf ha hns _ hI
  refine enter Try.func117 rfl Try.ntmps117 rfl ?_
  refine go T_ok 200 rfl ?_
  refine loop [1, 2, 3, 4, 7] (fun j : Nat => capsM gt gn gy gm ++ [.int .i64 ((a + j : Nat) : Int)])
   (fun j w' => a + j ≤ m.c.sites.length ∧ ∃ pre', pre'.map (·.2.2) = pre.map (·.2.2) ++ upTo (itemP m.c (moreL m.c f) now) a j ∧ CInv m s g mb gt gn gy gm l J W w' now pre') (fun j => m.c.sites.length - (a + j)) 0 (fun _ => rfl) rfl
   ⟨by omega, pre, by simp [upTo], hI⟩ ?_
  rintro j τ w ⟨hj, pre1, hpre, hI⟩
  have Bt := hI.bt
  have Bg := hI.bg
  refine go T_ok 200 rfl ?_
  repeat ((first | refine ldA T_ok rfl rfl rfl rfl rfl (Bk.all Bt) ?_ | refine ldA T_ok rfl rfl rfl rfl rfl (Bk.all Bg) ?_ | refine ld T_ok rfl rfl rfl rfl (Bk.get Bt rfl) ?_ | refine ld T_ok rfl rfl rfl rfl (Bk.get Bg rfl) ?_ | refine gT rfl rfl rfl rfl ?_ | refine gF rfl rfl rfl rfl ?_ | refine condT rfl rfl ?_ | refine condF rfl rfl ?_); refine go T_ok 200 rfl ?_)
  refine condD rfl (fun hlt => ?_) (fun hlt => ?_)
  ·have hlt : a + j < m.c.sites.length := by omega
   obtain ⟨A, c, O, Bn, on, hj, hO, hOw⟩ := hI.bn
   refine go T_ok 200 rfl ?_
   repeat ((first | refine ldA T_ok rfl rfl rfl rfl rfl (Bk.all Bn) ?_ | refine ld T_ok rfl rfl rfl rfl (Bk.get Bn rfl) ?_ | refine gT rfl rfl rfl rfl ?_ | refine gF rfl rfl rfl rfl ?_ | refine condT rfl rfl ?_ | refine condF rfl rfl ?_); refine go T_ok 200 rfl ?_)
   refine app1 T_ok rfl rfl rfl rfl rfl rfl (cs := [I ((a + j : Nat) : Int)]) rfl rfl rfl rfl (fun _ => rfl) (fun _ => rfl) (fun _ => rfl) on (by unfold maxLen; omega) (by omega) (by have := hI.bm.lt; omega) ?_
   intro gx A' c' w1 o1 q1 hs1 hown
   obtain ⟨now1, hnow1⟩ : ∃ x, x = now ++ [((a + j : Nat) : Int)] := ⟨_, rfl⟩
   have hln : now1.length = now.length + 1 := by rw [hnow1]; simp
   have hil : iL now1 = iL now ++ [I ((a + j : Nat) : Int)] := by rw [hnow1]; simp [iL]
   have hns1 : Sites m.c now1 := fun x hx => by
    rw [hnow1] at hx
    rcases List.mem_append.1 hx with h | h
    ·exact hns x h
    ·simp at h; subst h; omega
   have hge : ∀ k, (Value.slice A now.length c).ownBlock = some k → gm + 1 ≤ k := fun k e => own_ge on e
   have hsz := hI.sz
   refine go T_ok 200 rfl ?_
   have Bn := Bn.keep q1 (fun e => by have := hge _ e; omega)
   refine st T_ok rfl rfl rfl rfl (v := .slice A' (now.length + 1) c') rfl rfl Bn rfl ?_
   intro w2 q2 Bn hz2
   have on2' := own_keep o1 q2 (fun k e h => by have := own_ge o1 e; omega)
   obtain ⟨O2, j2, oo2, ow2⟩ : ∃ O2, J pre1 O2 w2 ∧ (O2 gn ∧ O2 gy ∧ O2 gm) ∧ ∀ k, (Value.slice A' (now.length + 1) c').ownBlock = some k → O2 k := by
    refine ⟨_, hJ _ _ _ _ (hJ _ _ _ _ hj (q1.mono fun k _ e => hOw k e)) (q2.mono fun k _ e => by subst e; exact .inl hO.1), ⟨.inl (.inl hO.1), .inl (.inl hO.2.1), .inl (.inl hO.2.2)⟩, fun k e => ?_⟩
    have hlt := lt_own o1 e
    rcases hown with h | h
    ·exact .inl (.inl (hOw k (h ▸ e)))
    ·rw [h] at e
     simp only [Option.some.injEq] at e
     exact .inl (.inr ⟨by omega, by omega⟩)
   have hI2 : CInv m s g mb gt gn gy gm l J W w2 now1 pre1 := by
    refine ⟨(hI.bt.keep q1 (fun e => by have := hge _ e; omega)).keep q2 (by omega), (hI.bg.keep q1 (fun e => by have := hge _ e; omega)).keep q2 (by omega), (hI.cm.keep q1 (fun k hk e => by have := hge _ e; omega)).keep q2 (fun k hk e => by omega),
     ⟨A', c', O2, by rw [hln]; exact Bn, by rw [hln, hil]; exact on2', j2, oo2, by rw [hln]; exact ow2⟩, (hI.b2.keep q1 (fun e => by have := hge _ e; omega)).keep q2 (by omega), (hI.bm.keep q1 (fun e => by have := hge _ e; omega)).keep q2 (by omega),
     by have := q1.size; have := q2.size; omega⟩
   rw [show now.length + 1 = now1.length from hln.symm]
   have Bn : Bk w2 gn 45 [.slice A' now1.length c'] := by rw [hln]; exact Bn
   have on2 : w2.ownsRow (gm + 1) 3 1 (.slice A' now1.length c') now1.length (iL now1) := by rw [hln, hil]; exact on2'
   rw [← hln] at ow2
   have hcb := costP_bd hc hns1
   refine go T_ok 200 rfl ?_
   refine draw mixed (fun w' => Bk w' gt 123 [.pointer (some ⟨g, 0, none⟩)] ∧ Bk w' g 163 (telL m s mb) ∧ Bk w' gn 45 [.slice A' now1.length c'] ∧ Bk w' gy 112 [.func (.yield l) #[] #[]]) ([0,1,2,3,4,6,7,8,9,10].map (fun i => (i, true)) ++ [(5, false)] ++ [11,12,13,14].map (fun i => (i, true)) ++ [(15, false)] ++ [16,17].map (fun i => (i, true))) rfl (by kernel_rfl) ⟨hI2.bt.no (Chg.drew _), hI2.bg.no (Chg.drew _), Bn.no (Chg.drew _), hI2.b2.no (Chg.drew _)⟩ ?_
   refine goH T_ok 200 rfl ?_
   repeat (first | (refine quietH rfl (fun w' hS => r_load T_ok rfl rfl rfl (Bk.get hS.1 rfl)) ?_; refine goH T_ok 200 rfl ?_) | (refine quietH rfl (fun w' hS => r_load T_ok rfl rfl rfl (Bk.get hS.2.1 rfl)) ?_; refine goH T_ok 200 rfl ?_) | (refine quietH rfl (fun w' hS => r_load T_ok rfl rfl rfl (Bk.get hS.2.2.1 rfl)) ?_; refine goH T_ok 200 rfl ?_) | (refine quietH rfl (fun w' hS => r_load T_ok rfl rfl rfl (Bk.get hS.2.2.2 rfl)) ?_; refine goH T_ok 200 rfl ?_) | (refine quietH rfl (fun w' hS => r_loadA T_ok rfl rfl rfl rfl (bk_at (ds := cpL m) hS.2.1 rfl)) ?_; refine goH T_ok 200 rfl ?_))
   refine callE rfl rfl rfl (ok _ (by decide) rfl) (cost_any m now1 A' c' w2.heap.size _ ((hI2.cm.more hI2.sz (Nat.le_refl _)).no (Chg.drew _)) hc ((own_sl on2).no (Chg.drew _)) hns1 (by omega)) ?_
   rintro x w3 ⟨rfl, q3⟩
   have q3 : Chg No w2 w3 := (Chg.drew w2).trans q3
   have Bn := Bn.no q3
   have on3 := own_no on2 q3
   obtain ⟨O3, j3, oo3, ow3⟩ : ∃ O3, J pre1 O3 w3 ∧ (O3 gn ∧ O3 gy ∧ O3 gm) ∧ ∀ k, (Value.slice A' now1.length c').ownBlock = some k → O3 k :=
    ⟨_, hJ _ _ _ _ j2 (q3.mono fun _ _ h => h.elim), ⟨.inl oo2.1, .inl oo2.2.1, .inl oo2.2.2⟩, fun k e => .inl (ow2 k e)⟩
   have hI3 : CInv m s g mb gt gn gy gm l J W w3 now1 pre1 :=
    ⟨hI2.bt.no q3, hI2.bg.no q3, hI2.cm.no q3, ⟨A', c', O3, Bn, on3, j3, oo3, ow3⟩, hI2.b2.no q3, hI2.bm.no q3, by have := hI2.sz; have := q3.size; omega⟩
   refine ⟨⟨hI3.bt, hI3.bg, Bn, hI3.b2⟩, ?_⟩
   refine goH T_ok 200 rfl ?_
   repeat (first | (refine quietH rfl (fun w' hS => r_load T_ok rfl rfl rfl (Bk.get hS.1 rfl)) ?_; refine goH T_ok 200 rfl ?_) | (refine quietH rfl (fun w' hS => r_load T_ok rfl rfl rfl (Bk.get hS.2.1 rfl)) ?_; refine goH T_ok 200 rfl ?_) | (refine quietH rfl (fun w' hS => r_load T_ok rfl rfl rfl (Bk.get hS.2.2.1 rfl)) ?_; refine goH T_ok 200 rfl ?_) | (refine quietH rfl (fun w' hS => r_load T_ok rfl rfl rfl (Bk.get hS.2.2.2 rfl)) ?_; refine goH T_ok 200 rfl ?_) | (refine quietH rfl (fun w' hS => r_loadA T_ok rfl rfl rfl rfl (bk_at (ds := cpL m) hS.2.1 rfl)) ?_; refine goH T_ok 200 rfl ?_))
   by_cases hb : costP m.c now1 ≤ m.c.budget
   ·rw [decide_eq_true hb]
    refine guardHA (b := true) rfl rfl rfl rfl (fun _ => ?_) (fun h => by cases h)
    refine goH T_ok 200 rfl ?_
    repeat (first | (refine quietH rfl (fun w' hS => r_load T_ok rfl rfl rfl (Bk.get hS.1 rfl)) ?_; refine goH T_ok 200 rfl ?_) | (refine quietH rfl (fun w' hS => r_load T_ok rfl rfl rfl (Bk.get hS.2.1 rfl)) ?_; refine goH T_ok 200 rfl ?_) | (refine quietH rfl (fun w' hS => r_load T_ok rfl rfl rfl (Bk.get hS.2.2.1 rfl)) ?_; refine goH T_ok 200 rfl ?_) | (refine quietH rfl (fun w' hS => r_load T_ok rfl rfl rfl (Bk.get hS.2.2.2 rfl)) ?_; refine goH T_ok 200 rfl ?_) | (refine quietH rfl (fun w' hS => r_loadA T_ok rfl rfl rfl rfl (bk_at (ds := cpL m) hS.2.1 rfl)) ?_; refine goH T_ok 200 rfl ?_))
    refine yieldE rfl rfl rfl (hY pre1 O3 (A', c', now1) w3 j3 ⟨by show 1 ≤ now1.length; omega, by show now1.length ≤ 3; omega, hns1, own_sl on3⟩ hI3.sz) ?_
    rintro w7 ⟨hJ7, q7⟩
    have hI7 : CInv m s g mb gt gn gy gm l J W w7 now1 (pre1 ++ [(A', c', now1)]) := by
     refine ⟨hI3.bt.keep q7 (fun h => h.1 (.inl rfl)), hI3.bg.keep q7 (fun h => h.1 (.inr (.inl rfl))), ?_, ⟨A', c', O3, Bn.keep q7 (fun h => h.2 oo3.1), own_keep on3 q7 (fun k e h => h.2 (ow3 k e)), hJ7, oo3, ow3⟩, hI3.b2.keep q7 (fun h => h.2 oo3.2.1), hI3.bm.keep q7 (fun h => h.2 oo3.2.2), by have := hI3.sz; have := q7.size; omega⟩
     refine ⟨hI3.cm.1, by have := hI3.sz; have := q7.size; omega, fun hn => ?_⟩
     obtain ⟨b, o, hA, hb, hcc⟩ := hI3.cm.2.2 hn
     exact ⟨b, o, hA, hb, hcc.keep (by have := hI3.sz; omega) q7 (fun h => h.1 (.inr (.inr ⟨o, hA⟩)))⟩
    obtain ⟨pre7, hpre7⟩ : ∃ x, x = pre1 ++ [(A', c', now1)] := ⟨_, rfl⟩
    rw [← hpre7] at hI7
    have hp7 : pre7.map (·.2.2) = pre1.map (·.2.2) ++ [now1] := by rw [hpre7]; simp
    rw [hpre] at hp7
    refine ⟨⟨hI7.bt, hI7.bg, Bn.keep q7 (fun h => h.2 oo3.1), hI7.b2⟩, ?_⟩
    refine goH T_ok 200 rfl ?_
    repeat (first | (refine quietH rfl (fun w' hS => r_load T_ok rfl rfl rfl (Bk.get hS.1 rfl)) ?_; refine goH T_ok 200 rfl ?_) | (refine quietH rfl (fun w' hS => r_load T_ok rfl rfl rfl (Bk.get hS.2.1 rfl)) ?_; refine goH T_ok 200 rfl ?_) | (refine quietH rfl (fun w' hS => r_load T_ok rfl rfl rfl (Bk.get hS.2.2.1 rfl)) ?_; refine goH T_ok 200 rfl ?_) | (refine quietH rfl (fun w' hS => r_load T_ok rfl rfl rfl (Bk.get hS.2.2.2 rfl)) ?_; refine goH T_ok 200 rfl ?_) | (refine quietH rfl (fun w' hS => r_loadA T_ok rfl rfl rfl rfl (bk_at (ds := cpL m) hS.2.1 rfl)) ?_; refine goH T_ok 200 rfl ?_))
    refine endH ?_
    refine go T_ok 200 rfl ?_
    repeat ((first | refine ldA T_ok rfl rfl rfl rfl rfl (Bk.all Bn) ?_ | refine ld T_ok rfl rfl rfl rfl (Bk.get Bn rfl) ?_ | refine gT rfl rfl rfl rfl ?_ | refine gF rfl rfl rfl rfl ?_ | refine condT rfl rfl ?_ | refine condF rfl rfl ?_); refine go T_ok 200 rfl ?_)
    obtain ⟨A7, c7, O7, Bn7, on7, _⟩ := hI7.bn
    have Bm7 := hI7.bm
    refine go T_ok 200 rfl ?_
    repeat ((first | refine ldA T_ok rfl rfl rfl rfl rfl (Bk.all Bn7) ?_ | refine ldA T_ok rfl rfl rfl rfl rfl (Bk.all Bm7) ?_ | refine ld T_ok rfl rfl rfl rfl (Bk.get Bn7 rfl) ?_ | refine ld T_ok rfl rfl rfl rfl (Bk.get Bm7 rfl) ?_ | refine gT rfl rfl rfl rfl ?_ | refine gF rfl rfl rfl rfl ?_ | refine condT rfl rfl ?_ | refine condF rfl rfl ?_); refine go T_ok 200 rfl ?_)
    by_cases hf0 : f = 0
    ·refine guardA (b := false) rfl rfl rfl (congrArg Value.bool (decide_eq_false (by omega))) (fun h => by cases h) (fun _ => ?_)
     refine go T_ok 200 rfl ?_
     obtain ⟨w8, hw8⟩ : ∃ x, x = w7 := ⟨_, rfl⟩
     obtain ⟨pre8, hpre8⟩ : ∃ x, x = pre7 := ⟨_, rfl⟩
     have hI8 := hI7
     have hp8 := hp7
     rw [← hw8, ← hpre8] at hI8
     rw [← hpre8] at hp8
     rw [← hw8]
     subst hf0
     obtain ⟨A8, c8, O8, Bn8, on8, j8, oo8, ow8⟩ := hI8.bn
     have Bt8 := hI8.bt
     refine go T_ok 200 rfl ?_
     repeat ((first | refine ldA T_ok rfl rfl rfl rfl rfl (Bk.all Bt8) ?_ | refine ldA T_ok rfl rfl rfl rfl rfl (Bk.all Bn8) ?_ | refine ld T_ok rfl rfl rfl rfl (Bk.get Bt8 rfl) ?_ | refine ld T_ok rfl rfl rfl rfl (Bk.get Bn8 rfl) ?_ | refine gT rfl rfl rfl rfl ?_ | refine gF rfl rfl rfl rfl ?_ | refine condT rfl rfl ?_ | refine condF rfl rfl ?_); refine go T_ok 200 rfl ?_)
     rw [w64_id (x := (now1.length : Int) - 1) (by omega) (by omega)]
     have hc8 := own_cap on8
     refine slcHi T_ok rfl rfl rfl rfl rfl now.length (by omega) (by omega) ?_
     refine go T_ok 200 rfl ?_
     refine st T_ok rfl rfl rfl rfl (v := .slice A8 now.length c8) rfl rfl Bn8 rfl ?_
     intro w9 q9 Bn9 hz9
     refine go T_ok 200 rfl ?_
     rw [w64_id (x := ((a + j : Nat) : Int) + 1) (by omega) (by omega)]
     have on9 : w8.ownsRow (gm + 1) 3 1 (.slice A8 now.length c8) now.length (iL now) := by rw [hln, hil] at on8; exact own_pop on8
     refine round ⟨j + 1, rfl, ⟨by omega, pre8, ?_, ⟨hI8.bt.keep q9 (by omega), hI8.bg.keep q9 (by omega), hI8.cm.keep q9 (fun k hk e => by omega), ⟨A8, c8, _, Bn9, own_keep on9 q9 (fun k e h => by have := own_ge on9 e; omega), hJ _ _ _ _ j8 (q9.mono fun k _ e => by subst e; exact oo8.1), ⟨.inl oo8.1, .inl oo8.2.1, .inl oo8.2.2⟩, fun k e => .inl (ow8 k (by cases A8 <;> exact e))⟩, hI8.b2.keep q9 (by omega), hI8.bm.keep q9 (by omega), by have := hI8.sz; have := q9.size; omega⟩⟩, by omega⟩
     rw [hp8, upTo, itemP, ← hnow1]
     simp [hb, moreL]
    ·refine guardA (b := true) rfl rfl rfl (congrArg Value.bool (decide_eq_true (by omega))) (fun _ => ?_) (fun h => by cases h)
     refine go T_ok 200 rfl ?_
     repeat ((first | refine ldA T_ok rfl rfl rfl rfl rfl (Bk.all Bn7) ?_ | refine ldA T_ok rfl rfl rfl rfl rfl (Bk.all Bm7) ?_ | refine ld T_ok rfl rfl rfl rfl (Bk.get Bn7 rfl) ?_ | refine ld T_ok rfl rfl rfl rfl (Bk.get Bm7 rfl) ?_ | refine gT rfl rfl rfl rfl ?_ | refine gF rfl rfl rfl rfl ?_ | refine condT rfl rfl ?_ | refine condF rfl rfl ?_); refine go T_ok 200 rfl ?_)
     rw [w64_id (x := ((a + j : Nat) : Int) + 1) (by omega) (by omega)]
     have X := ih (a + j + 1) now1 pre7 w7 (by omega) (by omega) hns1 (by omega) hI7
     refine call rfl rfl rfl (ok _ (by decide) rfl) X ?_
     rintro x w8 ⟨rfl, pre8, hp8, hI8⟩
     rw [hp7] at hp8
     refine go T_ok 200 rfl ?_
     refine condF rfl rfl ?_
     obtain ⟨A8, c8, O8, Bn8, on8, j8, oo8, ow8⟩ := hI8.bn
     have Bt8 := hI8.bt
     refine go T_ok 200 rfl ?_
     repeat ((first | refine ldA T_ok rfl rfl rfl rfl rfl (Bk.all Bt8) ?_ | refine ldA T_ok rfl rfl rfl rfl rfl (Bk.all Bn8) ?_ | refine ld T_ok rfl rfl rfl rfl (Bk.get Bt8 rfl) ?_ | refine ld T_ok rfl rfl rfl rfl (Bk.get Bn8 rfl) ?_ | refine gT rfl rfl rfl rfl ?_ | refine gF rfl rfl rfl rfl ?_ | refine condT rfl rfl ?_ | refine condF rfl rfl ?_); refine go T_ok 200 rfl ?_)
     rw [w64_id (x := (now1.length : Int) - 1) (by omega) (by omega)]
     have hc8 := own_cap on8
     refine slcHi T_ok rfl rfl rfl rfl rfl now.length (by omega) (by omega) ?_
     refine go T_ok 200 rfl ?_
     refine st T_ok rfl rfl rfl rfl (v := .slice A8 now.length c8) rfl rfl Bn8 rfl ?_
     intro w9 q9 Bn9 hz9
     refine go T_ok 200 rfl ?_
     rw [w64_id (x := ((a + j : Nat) : Int) + 1) (by omega) (by omega)]
     have on9 : w8.ownsRow (gm + 1) 3 1 (.slice A8 now.length c8) now.length (iL now) := by rw [hln, hil] at on8; exact own_pop on8
     refine round ⟨j + 1, rfl, ⟨by omega, pre8, ?_, ⟨hI8.bt.keep q9 (by omega), hI8.bg.keep q9 (by omega), hI8.cm.keep q9 (fun k hk e => by omega), ⟨A8, c8, _, Bn9, own_keep on9 q9 (fun k e h => by have := own_ge on9 e; omega), hJ _ _ _ _ j8 (q9.mono fun k _ e => by subst e; exact oo8.1), ⟨.inl oo8.1, .inl oo8.2.1, .inl oo8.2.2⟩, fun k e => .inl (ow8 k (by cases A8 <;> exact e))⟩, hI8.b2.keep q9 (by omega), hI8.bm.keep q9 (by omega), by have := hI8.sz; have := q9.size; omega⟩⟩, by omega⟩
     rw [hp8, upTo, itemP, ← hnow1]
     simp [hb]
   ·rw [decide_eq_false hb]
    refine guardHA (b := false) rfl rfl rfl rfl (fun h => by cases h) (fun _ => ?_)
    refine goH T_ok 200 rfl ?_
    refine passE rfl ?_
    refine goH T_ok 200 rfl ?_
    refine endH ?_
    have hI7 := hI3
    obtain ⟨pre7, hpre7⟩ : ∃ x, x = pre1 := ⟨_, rfl⟩
    obtain ⟨w7, hw7⟩ : ∃ x, x = w3 := ⟨_, rfl⟩
    rw [← hpre7, ← hw7] at hI7
    rw [← hw7]
    have hp7 := hpre
    rw [← hpre7] at hp7
    refine go T_ok 200 rfl ?_
    repeat ((first | refine ldA T_ok rfl rfl rfl rfl rfl (Bk.all Bt8) ?_ | refine ldA T_ok rfl rfl rfl rfl rfl (Bk.all Bn8) ?_ | refine ld T_ok rfl rfl rfl rfl (Bk.get Bt8 rfl) ?_ | refine ld T_ok rfl rfl rfl rfl (Bk.get Bn8 rfl) ?_ | refine gT rfl rfl rfl rfl ?_ | refine gF rfl rfl rfl rfl ?_ | refine condT rfl rfl ?_ | refine condF rfl rfl ?_); refine go T_ok 200 rfl ?_)
    obtain ⟨A7, c7, O7, Bn7, on7, _⟩ := hI7.bn
    have Bm7 := hI7.bm
    refine go T_ok 200 rfl ?_
    repeat ((first | refine ldA T_ok rfl rfl rfl rfl rfl (Bk.all Bn7) ?_ | refine ldA T_ok rfl rfl rfl rfl rfl (Bk.all Bm7) ?_ | refine ld T_ok rfl rfl rfl rfl (Bk.get Bn7 rfl) ?_ | refine ld T_ok rfl rfl rfl rfl (Bk.get Bm7 rfl) ?_ | refine gT rfl rfl rfl rfl ?_ | refine gF rfl rfl rfl rfl ?_ | refine condT rfl rfl ?_ | refine condF rfl rfl ?_); refine go T_ok 200 rfl ?_)
    by_cases hf0 : f = 0
    ·refine guardA (b := false) rfl rfl rfl (congrArg Value.bool (decide_eq_false (by omega))) (fun h => by cases h) (fun _ => ?_)
     refine go T_ok 200 rfl ?_
     obtain ⟨w8, hw8⟩ : ∃ x, x = w7 := ⟨_, rfl⟩
     obtain ⟨pre8, hpre8⟩ : ∃ x, x = pre7 := ⟨_, rfl⟩
     have hI8 := hI7
     have hp8 := hp7
     rw [← hw8, ← hpre8] at hI8
     rw [← hpre8] at hp8
     rw [← hw8]
     subst hf0
     obtain ⟨A8, c8, O8, Bn8, on8, j8, oo8, ow8⟩ := hI8.bn
     have Bt8 := hI8.bt
     refine go T_ok 200 rfl ?_
     repeat ((first | refine ldA T_ok rfl rfl rfl rfl rfl (Bk.all Bt8) ?_ | refine ldA T_ok rfl rfl rfl rfl rfl (Bk.all Bn8) ?_ | refine ld T_ok rfl rfl rfl rfl (Bk.get Bt8 rfl) ?_ | refine ld T_ok rfl rfl rfl rfl (Bk.get Bn8 rfl) ?_ | refine gT rfl rfl rfl rfl ?_ | refine gF rfl rfl rfl rfl ?_ | refine condT rfl rfl ?_ | refine condF rfl rfl ?_); refine go T_ok 200 rfl ?_)
     rw [w64_id (x := (now1.length : Int) - 1) (by omega) (by omega)]
     have hc8 := own_cap on8
     refine slcHi T_ok rfl rfl rfl rfl rfl now.length (by omega) (by omega) ?_
     refine go T_ok 200 rfl ?_
     refine st T_ok rfl rfl rfl rfl (v := .slice A8 now.length c8) rfl rfl Bn8 rfl ?_
     intro w9 q9 Bn9 hz9
     refine go T_ok 200 rfl ?_
     rw [w64_id (x := ((a + j : Nat) : Int) + 1) (by omega) (by omega)]
     have on9 : w8.ownsRow (gm + 1) 3 1 (.slice A8 now.length c8) now.length (iL now) := by rw [hln, hil] at on8; exact own_pop on8
     refine round ⟨j + 1, rfl, ⟨by omega, pre8, ?_, ⟨hI8.bt.keep q9 (by omega), hI8.bg.keep q9 (by omega), hI8.cm.keep q9 (fun k hk e => by omega), ⟨A8, c8, _, Bn9, own_keep on9 q9 (fun k e h => by have := own_ge on9 e; omega), hJ _ _ _ _ j8 (q9.mono fun k _ e => by subst e; exact oo8.1), ⟨.inl oo8.1, .inl oo8.2.1, .inl oo8.2.2⟩, fun k e => .inl (ow8 k (by cases A8 <;> exact e))⟩, hI8.b2.keep q9 (by omega), hI8.bm.keep q9 (by omega), by have := hI8.sz; have := q9.size; omega⟩⟩, by omega⟩
     rw [hp8, upTo, itemP, ← hnow1]
     simp [hb, moreL]
    ·refine guardA (b := true) rfl rfl rfl (congrArg Value.bool (decide_eq_true (by omega))) (fun _ => ?_) (fun h => by cases h)
     refine go T_ok 200 rfl ?_
     repeat ((first | refine ldA T_ok rfl rfl rfl rfl rfl (Bk.all Bn7) ?_ | refine ldA T_ok rfl rfl rfl rfl rfl (Bk.all Bm7) ?_ | refine ld T_ok rfl rfl rfl rfl (Bk.get Bn7 rfl) ?_ | refine ld T_ok rfl rfl rfl rfl (Bk.get Bm7 rfl) ?_ | refine gT rfl rfl rfl rfl ?_ | refine gF rfl rfl rfl rfl ?_ | refine condT rfl rfl ?_ | refine condF rfl rfl ?_); refine go T_ok 200 rfl ?_)
     rw [w64_id (x := ((a + j : Nat) : Int) + 1) (by omega) (by omega)]
     have X := ih (a + j + 1) now1 pre7 w7 (by omega) (by omega) hns1 (by omega) hI7
     refine call rfl rfl rfl (ok _ (by decide) rfl) X ?_
     rintro x w8 ⟨rfl, pre8, hp8, hI8⟩
     rw [hp7] at hp8
     refine go T_ok 200 rfl ?_
     refine condF rfl rfl ?_
     obtain ⟨A8, c8, O8, Bn8, on8, j8, oo8, ow8⟩ := hI8.bn
     have Bt8 := hI8.bt
     refine go T_ok 200 rfl ?_
     repeat ((first | refine ldA T_ok rfl rfl rfl rfl rfl (Bk.all Bt8) ?_ | refine ldA T_ok rfl rfl rfl rfl rfl (Bk.all Bn8) ?_ | refine ld T_ok rfl rfl rfl rfl (Bk.get Bt8 rfl) ?_ | refine ld T_ok rfl rfl rfl rfl (Bk.get Bn8 rfl) ?_ | refine gT rfl rfl rfl rfl ?_ | refine gF rfl rfl rfl rfl ?_ | refine condT rfl rfl ?_ | refine condF rfl rfl ?_); refine go T_ok 200 rfl ?_)
     rw [w64_id (x := (now1.length : Int) - 1) (by omega) (by omega)]
     have hc8 := own_cap on8
     refine slcHi T_ok rfl rfl rfl rfl rfl now.length (by omega) (by omega) ?_
     refine go T_ok 200 rfl ?_
     refine st T_ok rfl rfl rfl rfl (v := .slice A8 now.length c8) rfl rfl Bn8 rfl ?_
     intro w9 q9 Bn9 hz9
     refine go T_ok 200 rfl ?_
     rw [w64_id (x := ((a + j : Nat) : Int) + 1) (by omega) (by omega)]
     have on9 : w8.ownsRow (gm + 1) 3 1 (.slice A8 now.length c8) now.length (iL now) := by rw [hln, hil] at on8; exact own_pop on8
     refine round ⟨j + 1, rfl, ⟨by omega, pre8, ?_, ⟨hI8.bt.keep q9 (by omega), hI8.bg.keep q9 (by omega), hI8.cm.keep q9 (fun k hk e => by omega), ⟨A8, c8, _, Bn9, own_keep on9 q9 (fun k e h => by have := own_ge on9 e; omega), hJ _ _ _ _ j8 (q9.mono fun k _ e => by subst e; exact oo8.1), ⟨.inl oo8.1, .inl oo8.2.1, .inl oo8.2.2⟩, fun k e => .inl (ow8 k (by cases A8 <;> exact e))⟩, hI8.b2.keep q9 (by omega), hI8.bm.keep q9 (by omega), by have := hI8.sz; have := q9.size; omega⟩⟩, by omega⟩
     rw [hp8, upTo, itemP, ← hnow1]
     simp [hb]
  ·obtain rfl : j = m.c.sites.length - a := by omega
   refine go T_ok 200 rfl ?_
   exact ret (ret1 (v := .bool true) Try.results117 rfl ⟨rfl, pre1, hpre, hI⟩)
/-- the iterator of all choices -/
theorem choices_seq (m : Cm) (s g mb gt : Nat) (w : World) (hc : CpOk m.c) (Bt : Bk w gt 123 [.pointer (some ⟨g, 0, none⟩)]) (Bg : Bk w g 163 (telL m s mb)) (H : CpM w m) :
  Y.Seq Try.prog 116 [.pointer (some ⟨gt, 0, none⟩)] encX (outX m.c.sites.length) (ZX m g gt) (fun xs => xs.map (·.2.2) = moreL m.c 3 0 []) w := by
 intro l J W hW hJ hY h0
 refine enter Try.func116 rfl Try.ntmps116 rfl ?_
 have Bt := Bt.no hW
 have Bg := Bg.no hW
 have H := H.no hW
 have lt := Bt.lt
 have lg := Bg.lt
 refine go T_ok 200 rfl ?_
 refine bx rfl rfl rfl (cs := [.func (.yield l) #[] #[]]) rfl ?_
 intro gy w1 hgy hsy q1 By
 refine go T_ok 200 rfl ?_
 refine nw rfl rfl (z := .slice none 0 0) (by kernel_rfl) (cs := [.slice none 0 0]) rfl ?_
 intro gn w2 hgn hsn q2 Bn
 refine go T_ok 200 rfl ?_
 refine nw rfl rfl (z := .nilFunc) (by kernel_rfl) (cs := [.nilFunc]) rfl ?_
 intro gm w3 hgm hsm q3 Bm
 refine go T_ok 200 rfl ?_
 refine st T_ok rfl rfl rfl rfl (v := .func (.func 117) #[] (capsM gt gn gy gm).toArray) rfl rfl Bm rfl ?_
 intro w4 q4 Bm hz
 have Bm : Bk w4 gm 103 [.func (.func 117) #[] (capsM gt gn gy gm).toArray] := Bm
 have q : Chg No W w4 := ((q1.trans q2).trans q3).step q4 (fun k hk e => by omega)
 have By := ((By.no q2).no q3).keep q4 (by omega)
 have Bn := (Bn.no q3).keep q4 (by omega)
 have hI : CInv m s g mb gt gn gy gm l J W w4 [] [] :=
  ⟨Bt.no q, Bg.no q, Sl.no H q, ⟨none, 0, _, Bn, own_nil, hJ _ _ _ _ h0 (q.mono fun _ _ h => h.elim), ⟨.inr ⟨by omega, Bn.lt⟩, .inr ⟨by omega, By.lt⟩, .inr ⟨by omega, Bm.lt⟩⟩, fun k e => by cases e⟩, By, Bm, q.size⟩
 refine go T_ok 200 rfl ?_
 refine ld T_ok rfl rfl rfl rfl (Bm.get rfl) ?_
 refine go T_ok 200 rfl ?_
 have X := more_ok m s g mb gt gn gy gm l J W hc ⟨lt, lg, by omega, by omega, by omega⟩ hJ hY 3 0 [] [] w4 rfl (Nat.zero_le _) (fun i h => by cases h) (by decide) hI
 refine call rfl rfl rfl (ok _ (by decide) rfl) X ?_
 rintro x w5 ⟨rfl, pre, hpre, hI5⟩
 obtain ⟨_, _, O, _, _, hj, _⟩ := hI5.bn
 refine go T_ok 200 rfl ?_
 exact fin (ret0 Try.results116 ⟨pre, O, by simpa using hpre, hj⟩)
theorem choices_any (g : Nat) (w : World) : Ret Try.prog 93 [.pointer (some ⟨g, 0, none⟩)] w fun v w' => ∃ gt, v = .func (.func 116) #[] #[.pointer (some ⟨gt, 0, none⟩)] ∧ Chg No w w' ∧ w.heap.size ≤ gt ∧ Bk w' gt 123 [.pointer (some ⟨g, 0, none⟩)] := by
 refine enter Try.func93 rfl Try.ntmps93 rfl ?_
 refine go T_ok 200 rfl ?_
 refine bx rfl rfl rfl (cs := [.pointer (some ⟨g, 0, none⟩)]) rfl ?_
 intro gt w1 hgt hst q1 Bt
 refine go T_ok 200 rfl ?_
 exact ret (ret1 (v := .func _ _ _) Try.results93 rfl ⟨gt, rfl, q1, by omega, Bt⟩)
end Go.Proofs.Ytolhfimknimliaa.K
namespace Go.Ev
open Go.RowKit
section
variable {P : Program} {T : Tab} {n : Nat} {R : Env → World → Prop} {fr : Fra} {all : Array Oper} {l : List Oper} {k : List It} {ρ : Env} {dec : List Nat} {w : World} {o : Oper}
theorem r_nilS {x y : Operand} {t ty e : TypeId} {A : Option Addr} {m c : Nat} (ho : o.op = .binOp .eql t x y ty) (ht : P.underlying t = some (.slice e)) (hx : ev n ρ x = .slice A m c) (hy : ev n ρ y = .slice none 0 0) :
  (execOp (ev n ρ) o).run P w = .ok (.value (.bool A.isNone)) w := by
 have e1 : (Op.equal t (.slice A m c) (.slice none 0 0)).run P w = .ok A.isNone w := by
  show (Op.equalIn (9999 + 1) t (.slice A m c) (.slice none 0 0)).run P w = .ok A.isNone w
  unfold Op.equalIn
  cases A <;> simp [run_underlying ht]
 have e2 : binOp .eql t (.slice A m c) (.slice none 0 0) = (do return .bool (← Op.equal t (.slice A m c) (.slice none 0 0))) := rfl
 have e3 : (eqGuard .eql t x y (.slice A m c) (.slice none 0 0)).run P w = .ok () w := rfl
 simp only [execOp, ho, hx, hy, e2, Sem.run_bind, e1, e3, Result.andThen_ok, Sem.run_pure]
theorem nilS (hw : wantB n ρ all o = true) {x y : Operand} {t ty e : TypeId} {A : Option Addr} {m c : Nat} (ho : o.op = .binOp .eql t x y ty) (ht : P.underlying t = some (.slice e)) (hx : ev n ρ x = .slice A m c) (hy : ev n ρ y = .slice none 0 0)
  (h : At P n R fr all l k (updo ρ o.dst (.bool A.isNone)) dec w) : At P n R fr all (o :: l) k ρ dec w := op_val hw (r_nilS ho ht hx hy) h
end
end Go.Ev
namespace Go.Proofs.Ytolhfimknimliaa.K
open Go.Ev Go.Proofs Go.Camp
attribute [local irreducible] At AtH
theorem cloneI_any (xs : List Value) (n : Nat) (A : Option Addr) (c B : Nat) (w : World) (h : Sl w B 1 A n xs) (h1 : xs.all (·.oneCell') = true) (hn : n ≤ 1000000000) (h0 : A = none → n = 0) :
  Ret Try.prog 95 [.slice A n c] w fun v w' => ∃ A' c', v = .slice A' n c' ∧ Chg No w w' ∧ w'.ownsRow w.heap.size 3 1 (.slice A' n c') n xs ∧ (A' = none ↔ A = none) := by
 refine enter Try.func95 rfl Try.ntmps95 rfl ?_
 refine go T_ok 200 rfl ?_
 refine nilS rfl rfl Try.underlying45 rfl rfl ?_
 cases A with
 | none =>
  have hn0 := h0 rfl
  subst hn0
  have hx : xs = [] := List.eq_nil_of_length_eq_zero (by simpa using h.1)
  subst hx
  refine go T_ok 200 rfl ?_
  refine condT rfl rfl ?_
  refine go T_ok 200 rfl ?_
  exact ret (ret1 (v := .slice _ _ _) Try.results95 rfl ⟨none, 0, rfl, Chg.refl _ _, own_nil, by simp⟩)
 | some a =>
  refine go T_ok 200 rfl ?_
  refine condF rfl rfl ?_
  refine go T_ok 200 rfl ?_
  refine row T_ok rfl rfl rfl rfl rfl rfl (cs := []) rfl ?_
  intro g w1 hg hs q1 B1 _
  have o1 : w1.ownsRow w.heap.size 3 1 (.slice (some ⟨g, 0, none⟩) 0 0) 0 [] := ⟨rfl, .inr ⟨g, 0, #[], rfl, by omega, B1, by omega, by omega, rfl, rfl⟩⟩
  refine go T_ok 200 rfl ?_
  refine appS T_ok rfl rfl rfl rfl rfl o1 (h.no q1) h1 (by unfold maxLen; omega) (by omega) (by omega) ?_
  intro A' c' w2 o2 q2 hown
  refine go T_ok 200 rfl ?_
  rw [Nat.zero_add] at o2 ⊢
  refine ret (ret1 (v := .slice _ _ _) Try.results95 rfl ⟨A', c', rfl, q1.step q2 (fun k hk e => by have := own_ge o1 e; omega), by simpa using o2, ?_⟩)
  constructor
  ·intro h
   subst h
   rcases hown with h | h <;> simp [Value.ownBlock] at h
  ·intro h; cases h
end Go.Proofs.Ytolhfimknimliaa.K
namespace Go.Proofs.Ytolhfimknimliaa.K
open Go.Ev Go.Proofs Go.Camp
attribute [local irreducible] At AtH
def bs1 : Tr := .fork [(0, true), (1, true), (2, true), (3, true), (4, true), (5, true), (6, true), (7, true), (8, true)] (.fin [(9, false), (10, true), (11, true), (12, true), (13, false), (14, false), (15, true)]) (.fin [(13, false), (9, false), (10, true), (11, true), (12, true), (14, false), (15, true)])
/-- the power of a choice, as parts of the weight of all outcomes of three sites -/
def valP (c : Cp) (s : Nat) (l : List Int) : Int := (oddsP c s false l).1 * (c.parts ^ (3 * s) / (oddsP c s false l).2)
def stepB (c : Cp) (s : Nat) (b : Option (List Int)) (l : List Int) : Option (List Int) := match b with
 | none => some l
 | some b => if valP c s b < valP c s l ∨ (valP c s l = valP c s b ∧ costP c l < costP c b) then some l else some b
def bestOf (c : Cp) (s : Nat) (L : List (List Int)) : Option (List Int) := L.foldl (stepB c s) none
theorem bestOf_snoc (c : Cp) (s : Nat) (L : List (List Int)) (l : List Int) : bestOf c s (L ++ [l]) = stepB c s (bestOf c s L) l := by simp [bestOf, List.foldl_append]
def odV (c : Cp) (s : Nat) (b : Option (List Int)) : List Value := match b with | none => [I 0, I 0] | some l => [I (oddsP c s false l).1, I (oddsP c s false l).2]
def grV (c : Cp) (s : Nat) (b : Option (List Int)) : Int := match b with | none => -1 | some l => valP c s l
/-- a list of sites -/
def LsOk (c : Cp) (l : List Int) : Prop := Sites c l ∧ 1 ≤ l.length ∧ l.length ≤ 3
theorem odds_bd {c : Cp} (hc : CpOk c) {s : Nat} (hs : SlOk c s) (e : Bool) {l : List Int} (hl : LsOk c l) : 0 ≤ (oddsP c s e l).1 ∧ (oddsP c s e l).1 ≤ (oddsP c s e l).2 ∧ 1 ≤ (oddsP c s e l).2 ∧ (oddsP c s e l).2 ≤ c.parts ^ (3 * s) := by
 obtain ⟨h1, h2, h3⟩ := hl
 have hb := silP_bd hc s (c.level * l.length) e h1
 have hp := pow_pow3 hc hs h3
 have hp0 := hc.p0
 have h1' := pow_pos' (D := c.parts) (by omega) s
 have h5 := pow_mono' (D := c.parts ^ s) h1' h3
 have h4 : (c.parts ^ s) ^ 3 = c.parts ^ (3 * s) := by rw [pow3, Int.pow_succ, Int.pow_succ, Int.pow_succ, Int.pow_zero, Int.one_mul, Int.mul_assoc]
 show 0 ≤ (c.parts ^ s) ^ l.length - silP c s (c.level * l.length) e l ∧ (c.parts ^ s) ^ l.length - silP c s (c.level * l.length) e l ≤ (c.parts ^ s) ^ l.length ∧ 1 ≤ (c.parts ^ s) ^ l.length ∧ (c.parts ^ s) ^ l.length ≤ c.parts ^ (3 * s)
 omega
theorem val_bd {c : Cp} (hc : CpOk c) {s : Nat} (hs : SlOk c s) {l : List Int} (hl : LsOk c l) : 0 ≤ valP c s l ∧ valP c s l ≤ c.parts ^ (3 * s) := by
 obtain ⟨h0, h1, h2, h3⟩ := odds_bd hc hs false hl
 have hd : 0 ≤ c.parts ^ (3 * s) / (oddsP c s false l).2 := Int.ediv_nonneg (by omega) (by omega)
 refine ⟨Int.mul_nonneg h0 hd, ?_⟩
 refine Int.le_trans (Int.mul_le_mul_of_nonneg_right h1 hd) ?_
 rw [Int.mul_comm]
 exact Int.ediv_mul_le _ (by omega)
section
variable (m : Cm) (s g mb g1 g4 g6 g7 g8 : Nat)
/-- the blocks of the search for the best -/
def Mine (A : Option Addr) (k : Nat) : Prop := k = g1 ∨ k = g4 ∨ k = g ∨ k = mb ∨ k = g6 ∨ k = g7 ∨ k = g8 ∨ (∃ o z, A = some ⟨k, o, z⟩) ∨ ∃ o, m.A = some ⟨k, o, none⟩
structure BI (w : World) (O : Nat → Prop) (b : Option (List Int)) (A : Option Addr) (c : Nat) : Prop where
 t1 : Bk w g1 123 [.pointer (some ⟨g, 0, none⟩)]
 al : Bk w g4 3 [I (m.c.parts ^ (3 * s))]
 tl : TelM w g mb m s
 b6 : Bk w g6 45 [.slice A (b.getD []).length c]
 rw : w.ownsRow (g8 + 1) 3 1 (.slice A (b.getD []).length c) (b.getD []).length (iL (b.getD []))
 nil : A = none ↔ b = none
 b7 : Bk w g7 67 (odV m.c s b)
 b8 : Bk w g8 3 [I (grV m.c s b)]
 ok : ∀ l, b = some l → LsOk m.c l
 no : ∀ k, Mine m g mb g1 g4 g6 g7 g8 A k → ¬ O k
 ob : ∀ k, O k → k < w.heap.size
variable {m s g mb g1 g4 g6 g7 g8} {w w' : World} {O O' M : Nat → Prop} {b : Option (List Int)} {A : Option Addr} {c : Nat}
theorem own_mine {n : Nat} {k : Nat} (e : (Value.slice A n c).ownBlock = some k) : Mine m g mb g1 g4 g6 g7 g8 A k := by
 cases A with
 | none => cases e
 | some a =>
  obtain ⟨b, o, z⟩ := a
  simp only [Value.ownBlock, Option.some.injEq] at e
  subst e
  exact .inr (.inr (.inr (.inr (.inr (.inr (.inr (.inl ⟨o, z, rfl⟩)))))))
theorem BI.keep (h : BI m s g mb g1 g4 g6 g7 g8 w O b A c) (q : Chg M w w') (hm : ∀ k, Mine m g mb g1 g4 g6 g7 g8 A k → ¬ M k) (hn : ∀ k, Mine m g mb g1 g4 g6 g7 g8 A k → ¬ O' k) (ho : ∀ k, O' k → k < w'.heap.size) : BI m s g mb g1 g4 g6 g7 g8 w' O' b A c := by
 obtain ⟨n, f, hM, hf⟩ := h.tl.mp
 refine ⟨h.t1.keep q (hm _ (.inl rfl)), h.al.keep q (hm _ (.inr (.inl rfl))), ⟨h.tl.bk.keep q (hm _ (.inr (.inr (.inl rfl)))), ⟨n, f, hM.keep q (hm _ (.inr (.inr (.inr (.inl rfl))))), hf⟩, ⟨h.tl.cm.1, Nat.le_refl _, fun hn => ?_⟩, h.tl.ne⟩,
  h.b6.keep q (hm _ (.inr (.inr (.inr (.inr (.inl rfl)))))), own_keep h.rw q (fun k e => hm k (own_mine e)), h.nil, h.b7.keep q (hm _ (.inr (.inr (.inr (.inr (.inr (.inl rfl))))))), h.b8.keep q (hm _ (.inr (.inr (.inr (.inr (.inr (.inr (.inl rfl)))))))), h.ok, hn, ho⟩
 obtain ⟨bb, o, hA, hb, hcc⟩ := h.tl.cm.2.2 hn
 exact ⟨bb, o, hA, Nat.lt_of_lt_of_le hb q.size, hcc.keep hb q (hm _ (.inr (.inr (.inr (.inr (.inr (.inr (.inr (.inr ⟨o, hA⟩)))))))))⟩
theorem BI.kind (h : BI m s g mb g1 g4 g6 g7 g8 w O b A c) (n0 : 1 ≤ m.c.sites.length) {k : Nat} (hk : Mine m g mb g1 g4 g6 g7 g8 A k) : (∃ cs t z, w.heap[k]? = some (.cells cs t z)) ∨ ∃ es cl, w.heap[k]? = some (.map es cl) := by
 rcases hk with rfl | rfl | rfl | rfl | rfl | rfl | rfl | ⟨o, z, rfl⟩ | ⟨o, hA⟩
 ·exact .inl ⟨_, _, _, h.t1⟩
 ·exact .inl ⟨_, _, _, h.al⟩
 ·exact .inl ⟨_, _, _, h.tl.bk⟩
 ·obtain ⟨n, f, ⟨es, cl, hb, _⟩, _⟩ := h.tl.mp
  exact .inr ⟨_, _, hb⟩
 ·exact .inl ⟨_, _, _, h.b6⟩
 ·exact .inl ⟨_, _, _, h.b7⟩
 ·exact .inl ⟨_, _, _, h.b8⟩
 ·obtain ⟨cs, t, hc⟩ := own_cells h.rw (k := k) rfl
  exact .inl ⟨_, _, _, hc⟩
 ·obtain ⟨bb, o', hA', hb, hcc⟩ := h.tl.cm.2.2 (by omega)
  rw [hA] at hA'
  cases hA'
  have hl : 0 < (m.c.sites.flatMap siL).length := by rw [h.tl.cm.1]; omega
  have h1 := hcc 0 _ (List.getElem?_eq_getElem hl)
  simp only [World.cell?] at h1
  split at h1
  ·rename_i hh; exact .inl ⟨_, _, _, hh⟩
  ·cases h1
theorem BI.lt (h : BI m s g mb g1 g4 g6 g7 g8 w O b A c) (n0 : 1 ≤ m.c.sites.length) {k : Nat} (hk : Mine m g mb g1 g4 g6 g7 g8 A k) : k < w.heap.size := by
 rcases h.kind n0 hk with ⟨cs, t, z, h⟩ | ⟨es, cl, h⟩
 ·exact lt_of_block h
 ·exact lt_of_block h
theorem BI.turn (h : BI m s g mb g1 g4 g6 g7 g8 w O b A c) (n0 : 1 ≤ m.c.sites.length) (q : Chg O w w') : BI m s g mb g1 g4 g6 g7 g8 w' (Y.Cl O w w') b A c := by
 refine h.keep q h.no (fun k hk e => ?_) (fun k e => ?_)
 ·rcases e with e | e
  ·exact h.no k hk e
  ·have := h.lt n0 hk; omega
 ·rcases e with e | e
  ·exact Nat.lt_of_lt_of_le (h.ob k e) q.size
  ·exact e.2
theorem BI.none_ (h : BI m s g mb g1 g4 g6 g7 g8 w O b A c) (q : Chg No w w') : BI m s g mb g1 g4 g6 g7 g8 w' O b A c := h.keep q (fun _ _ e => e) h.no (fun k e => Nat.lt_of_lt_of_le (h.ob k e) q.size)
theorem BI.loop (h : BI m s g mb g1 g4 g6 g7 g8 w O b A c) (n0 : 1 ≤ m.c.sites.length) {l : Nat} (hl : ∃ r, w.heap[l]? = some (.loop r)) (q : Chg (fun k => k = l) w w') : BI m s g mb g1 g4 g6 g7 g8 w' O b A c := by
 refine h.keep q (fun k hk e => ?_) h.no (fun k e => Nat.lt_of_lt_of_le (h.ob k e) q.size)
 subst e
 obtain ⟨r, hr⟩ := hl
 rcases h.kind n0 hk with ⟨cs, t, z, h⟩ | ⟨es, cl, h⟩ <;> rw [hr] at h <;> cases h
end
theorem TelM.keep {w w' : World} {g mb : Nat} {m : Cm} {s : Nat} {M : Nat → Prop} (h : TelM w g mb m s) (q : Chg M w w') (h1 : ¬ M g) (h2 : ¬ M mb) (h3 : ∀ k o, m.A = some ⟨k, o, none⟩ → ¬ M k) : TelM w' g mb m s := by
 obtain ⟨n, f, hM, hf⟩ := h.mp
 refine ⟨h.bk.keep q h1, ⟨n, f, hM.keep q h2, hf⟩, ⟨h.cm.1, Nat.le_refl _, fun hn => ?_⟩, h.ne⟩
 obtain ⟨bb, o, hA, hb, hcc⟩ := h.cm.2.2 hn
 exact ⟨bb, o, hA, Nat.lt_of_lt_of_le hb q.size, hcc.keep hb q (h3 _ _ hA)⟩
theorem outX_loop (n : Nat) (x : Cx) (A B : World) (l : Nat) (h : outX n x A) (hl : ∃ r, A.heap[l]? = some (.loop r)) (q : Chg (fun k => k = l) A B) : outX n x B :=
 ⟨h.1, h.2.1, h.2.2.1, (h.2.2.2.loop hl q).more q.size (Nat.le_refl _)⟩
set_option maxRecDepth 20000 in
set_option maxHeartbeats 8000000 in
theorem best_ok (m : Cm) (s g mb : Nat) (w0 : World) (H : TelM w0 g mb m s) (hc : CpOk m.c) (hs : SlOk m.c s) :
  Ret Try.prog 66 [.pointer (some ⟨g, 0, none⟩)] w0 fun v w' => ∃ A c b, b = bestOf m.c s (moreL m.c 3 0 []) ∧ v = .tuple #[.slice A (b.getD []).length c, .agg (odV m.c s b).toArray] ∧ Chg (fun k => k = mb) w0 w' ∧ (A = none ↔ b = none) ∧
   w'.ownsRow w0.heap.size 3 1 (.slice A (b.getD []).length c) (b.getD []).length (iL (b.getD [])) ∧ ∀ l, b = some l → LsOk m.c l := by
 have n0 := hc.n0
 have n8 := hc.n1
 have hp0 := hc.p0
 have lg := H.bk.lt
 have lm := H.lm
 have hw := hs.w
 have hD := pow_pos' (D := m.c.parts) (by omega) (3 * s)
 have hcm0 := H.cm
 refine enter Try.func66 rfl Try.ntmps66 rfl ?_
 refine go T_ok 200 rfl ?_
 refine bx rfl rfl rfl (cs := [.pointer (some ⟨g, 0, none⟩)]) rfl ?_
 intro g1 w1 hg1 hs1 qk B1
 have q := qk
 refine go T_ok 200 rfl ?_
 refine nw rfl rfl (z := .agg #[I 0, I 0]) (by kernel_rfl) (cs := [I 0, I 0]) rfl ?_
 intro g3 w2 hg3 hs3 qk B3
 have B1 := B1.no qk
 have q := q.trans qk
 have H2 := H.no q
 have q00 := q
 have Bg := H2.bk
 refine go T_ok 200 rfl ?_
 refine join [1, 3, 4] (fun g4 : Nat => [.pointer (some ⟨g1, 0, none⟩), .pointer (some ⟨g3, 0, none⟩), .pointer (some ⟨g4, 0, none⟩)]) (fun g4 w => Chg No w2 w ∧ Bk w g4 3 [I (m.c.parts ^ (3 * s))] ∧ w2.heap.size ≤ g4) (fun _ => rfl) ?_ ?_
 ·refine drawT mixed (fun w' => Chg No w2 w') bs1 (by kernel_rfl) (Chg.drew _) ?_
  have qd := Chg.drew w2
  refine segK rfl ?_
  refine goH T_ok 200 rfl ?_
  repeat (first | (refine quietH rfl (fun w' hS => r_load T_ok rfl rfl rfl (Bk.get (B1.no hS) rfl)) ?_; refine goH T_ok 200 rfl ?_) | (refine quietH rfl (fun w' hS => r_load T_ok rfl rfl rfl (Bk.get (Bg.no hS) rfl)) ?_; refine goH T_ok 200 rfl ?_))
  refine forkK qd ?_ ?_
  ·refine segF rfl ?_
   refine goH T_ok 200 rfl ?_
   repeat (first | (refine quietH rfl (fun w' hS => r_load T_ok rfl rfl rfl (Bk.get (B1.no hS) rfl)) ?_; refine goH T_ok 200 rfl ?_) | (refine quietH rfl (fun w' hS => r_load T_ok rfl rfl rfl (Bk.get (Bg.no hS) rfl)) ?_; refine goH T_ok 200 rfl ?_))
   refine callE rfl rfl rfl (ok _ (by decide) rfl) (whole_ok m.c s _ hc.p0 hs) ?_
   rintro x w ⟨rfl, rfl⟩
   refine ⟨qd, ?_⟩
   refine goH T_ok 200 rfl ?_
   repeat (first | (refine quietH rfl (fun w' hS => r_load T_ok rfl rfl rfl (Bk.get (B1.no hS) rfl)) ?_; refine goH T_ok 200 rfl ?_) | (refine quietH rfl (fun w' hS => r_load T_ok rfl rfl rfl (Bk.get (Bg.no hS) rfl)) ?_; refine goH T_ok 200 rfl ?_))
   have hdw : w2.drew.heap.size = w2.heap.size := rfl
   refine nwE rfl rfl (z := .int .i64 0) (by kernel_rfl) (cs := [I 0]) rfl ?_
   intro g4 w hg4 hs4 qk B4
   have lqd := qd.size
   have qd := qd.trans qk
   refine ⟨qd, ?_⟩
   refine goH T_ok 200 rfl ?_
   repeat (first | (refine quietH rfl (fun w' hS => r_load T_ok rfl rfl rfl (Bk.get (B1.no hS) rfl)) ?_; refine goH T_ok 200 rfl ?_) | (refine quietH rfl (fun w' hS => r_load T_ok rfl rfl rfl (Bk.get (Bg.no hS) rfl)) ?_; refine goH T_ok 200 rfl ?_))
   refine storeE T_ok rfl rfl rfl rfl (v := I (m.c.parts ^ (3 * s))) rfl rfl B4 rfl ?_
   intro w3 qe B4 hz4
   have B4 : Bk w3 g4 3 [I (m.c.parts ^ (3 * s))] := B4
   have qd := qd.step qe (fun k hk e => by omega)
   refine ⟨qd, ?_⟩
   refine goH T_ok 200 rfl ?_
   repeat (first | (refine quietH rfl (fun w' hS => r_load T_ok rfl rfl rfl (Bk.get (B1.no hS) rfl)) ?_; refine goH T_ok 200 rfl ?_) | (refine quietH rfl (fun w' hS => r_load T_ok rfl rfl rfl (Bk.get (Bg.no hS) rfl)) ?_; refine goH T_ok 200 rfl ?_))
   refine endH ?_
   exact round ⟨g4, rfl, qd, B4, by omega⟩
  ·refine segF rfl ?_
   refine goH T_ok 200 rfl ?_
   repeat (first | (refine quietH rfl (fun w' hS => r_load T_ok rfl rfl rfl (Bk.get (B1.no hS) rfl)) ?_; refine goH T_ok 200 rfl ?_) | (refine quietH rfl (fun w' hS => r_load T_ok rfl rfl rfl (Bk.get (Bg.no hS) rfl)) ?_; refine goH T_ok 200 rfl ?_))
   have hdw : w2.drew.heap.size = w2.heap.size := rfl
   refine nwE rfl rfl (z := .int .i64 0) (by kernel_rfl) (cs := [I 0]) rfl ?_
   intro g4 w hg4 hs4 qk B4
   have lqd := qd.size
   have qd := qd.trans qk
   refine ⟨qd, ?_⟩
   refine goH T_ok 200 rfl ?_
   repeat (first | (refine quietH rfl (fun w' hS => r_load T_ok rfl rfl rfl (Bk.get (B1.no hS) rfl)) ?_; refine goH T_ok 200 rfl ?_) | (refine quietH rfl (fun w' hS => r_load T_ok rfl rfl rfl (Bk.get (Bg.no hS) rfl)) ?_; refine goH T_ok 200 rfl ?_))
   refine callE rfl rfl rfl (ok _ (by decide) rfl) (whole_ok m.c s _ hc.p0 hs) ?_
   rintro x w ⟨rfl, rfl⟩
   refine ⟨qd, ?_⟩
   refine goH T_ok 200 rfl ?_
   repeat (first | (refine quietH rfl (fun w' hS => r_load T_ok rfl rfl rfl (Bk.get (B1.no hS) rfl)) ?_; refine goH T_ok 200 rfl ?_) | (refine quietH rfl (fun w' hS => r_load T_ok rfl rfl rfl (Bk.get (Bg.no hS) rfl)) ?_; refine goH T_ok 200 rfl ?_))
   refine storeE T_ok rfl rfl rfl rfl (v := I (m.c.parts ^ (3 * s))) rfl rfl B4 rfl ?_
   intro w3 qe B4 hz4
   have B4 : Bk w3 g4 3 [I (m.c.parts ^ (3 * s))] := B4
   have qd := qd.step qe (fun k hk e => by omega)
   refine ⟨qd, ?_⟩
   refine goH T_ok 200 rfl ?_
   repeat (first | (refine quietH rfl (fun w' hS => r_load T_ok rfl rfl rfl (Bk.get (B1.no hS) rfl)) ?_; refine goH T_ok 200 rfl ?_) | (refine quietH rfl (fun w' hS => r_load T_ok rfl rfl rfl (Bk.get (Bg.no hS) rfl)) ?_; refine goH T_ok 200 rfl ?_))
   refine endH ?_
   exact round ⟨g4, rfl, qd, B4, by omega⟩
 intro g4 τ w3 ⟨qd, B4, lg4⟩
 have B1 := B1.no qd
 have B3 := B3.no qd
 have H := H2.no qd
 have lq0 := q.size
 have l3 := B3.lt
 have q := q.trans qd
 clear Bg
 refine go T_ok 200 rfl ?_
 refine nw rfl rfl (z := .slice none 0 0) (by kernel_rfl) (cs := [.slice none 0 0]) rfl ?_
 intro g6 w4 hg6 hs6 qk B6
 have l4 := B4.lt
 have B1 := B1.no qk
 have B3 := B3.no qk
 have B4 := B4.no qk
 have q := q.trans qk
 have H := H.no qk
 refine go T_ok 200 rfl ?_
 refine nw rfl rfl (z := .agg #[I 0, I 0]) (by kernel_rfl) (cs := [I 0, I 0]) rfl ?_
 intro g7 w5 hg7 hs7 qk B7
 have B1 := B1.no qk
 have B3 := B3.no qk
 have B4 := B4.no qk
 have B6 := B6.no qk
 have q := q.trans qk
 have H := H.no qk
 refine go T_ok 200 rfl ?_
 refine nw rfl rfl (z := .int .i64 0) (by kernel_rfl) (cs := [I 0]) rfl ?_
 intro g8 w6 hg8 hs8 qk B8
 refine go T_ok 200 rfl ?_
 refine st T_ok rfl rfl rfl rfl (v := I (-1)) rfl rfl B8 rfl ?_
 intro w7 qe B8 hz8
 have B8 : Bk w7 g8 3 [I (-1)] := B8
 have qk : Chg No w5 w7 := qk.step qe (fun k hk e => by omega)
 have B1 := B1.no qk
 have B3 := B3.no qk
 have B4 := B4.no qk
 have B6 := B6.no qk
 have B7 := B7.no qk
 have q := q.trans qk
 have H := H.no qk
 refine go T_ok 200 rfl ?_
 repeat ((first | refine ldA T_ok rfl rfl rfl rfl rfl (Bk.all B1) ?_ | refine ldA T_ok rfl rfl rfl rfl rfl (Bk.all B3) ?_ | refine ldA T_ok rfl rfl rfl rfl rfl (Bk.all B4) ?_ | refine ldA T_ok rfl rfl rfl rfl rfl (Bk.all B6) ?_ | refine ldA T_ok rfl rfl rfl rfl rfl (Bk.all B7) ?_ | refine ldA T_ok rfl rfl rfl rfl rfl (Bk.all B8) ?_ | refine ld T_ok rfl rfl rfl rfl (Bk.get B1 rfl) ?_ | refine ld T_ok rfl rfl rfl rfl (Bk.get B3 rfl) ?_ | refine ld T_ok rfl rfl rfl rfl (Bk.get B4 rfl) ?_ | refine ld T_ok rfl rfl rfl rfl (Bk.get B6 rfl) ?_ | refine ld T_ok rfl rfl rfl rfl (Bk.get B7 rfl) ?_ | refine ld T_ok rfl rfl rfl rfl (Bk.get B8 rfl) ?_ | refine gT rfl rfl rfl rfl ?_ | refine gF rfl rfl rfl rfl ?_ | refine condT rfl rfl ?_ | refine condF rfl rfl ?_); refine go T_ok 200 rfl ?_)
 refine call rfl rfl rfl (ok _ (by decide) rfl) (choices_any g _) ?_
 rintro x w8 ⟨gt, rfl, qk, lgt, Bt⟩
 have B1 := B1.no qk
 have B3 := B3.no qk
 have B4 := B4.no qk
 have B6 := B6.no qk
 have B7 := B7.no qk
 have B8 := B8.no qk
 have q := q.trans qk
 have H := H.no qk
 have lq8 := q.size
 have lg8 := B8.lt
 have lmb := H.lm
 have lgg := H.bk.lt
 refine go T_ok 200 rfl ?_
 have hmA : ∀ k o, m.A = some ⟨k, o, none⟩ → k < w0.heap.size ∧ k ≠ mb := by
  intro k o hA
  obtain ⟨b, o', hA', hb, hcc⟩ := hcm0.2.2 (by omega)
  rw [hA] at hA'
  cases hA'
  refine ⟨hb, ?_⟩
  rintro rfl
  obtain ⟨nn, ff, ⟨es, cl, hM, _⟩, _⟩ := H2.mp
  have hl : 0 < (m.c.sites.flatMap siL).length := by rw [hcm0.1]; omega
  have h1 := (hcc.keep hb q00 (fun h => h)) 0 _ (List.getElem?_eq_getElem hl)
  simp [World.cell?, hM] at h1
 have hb0 : BI m s g mb g1 g4 g6 g7 g8 w8 (fun _ => False) (bestOf m.c s []) none 0 := ⟨B1, B4, H, B6, own_nil, by simp [bestOf], B7, B8, (fun l h => by cases h), fun _ _ h => h, fun _ h => h.elim⟩
 refine Y.rangeFunc rfl rfl (ok _ (by decide) rfl) (choices_seq m s g mb gt w8 hc Bt H.bk H.cm) ?_ (fun _ => rfl) (outX_loop _)
  (fun xs O W => (∃ A c, BI m s g mb g1 g4 g6 g7 g8 W O (bestOf m.c s (xs.map (·.2.2))) A c) ∧ Bk W g3 67 [I 0, I 0] ∧ ¬ O g3 ∧ (∀ k, O k → w8.heap.size ≤ k) ∧ Chg (fun k => k = mb) w0 W ∧ w8.heap.size ≤ W.heap.size) ?_ ?_ ?_ ⟨⟨none, 0, hb0⟩, B3, fun h => h, fun _ h => h.elim, q.mono (fun _ _ h => h.elim), Nat.le_refl _⟩ (fun x => [(9, .slice x.1 x.2.2.length x.2.1)]) ?ca ?bd ?dn
 ·rintro k (rfl | rfl | ⟨o, hA⟩)
  ·exact Bt.lt
  ·omega
  ·have := hmA k o hA; omega
 ·rintro xs O A B ⟨⟨A1, c1, hB⟩, h3, h4, h5, h6, h7⟩ qq
  exact ⟨⟨A1, c1, hB.none_ qq⟩, h3.no qq, h4, h5, h6.no qq, Nat.le_trans h7 qq.size⟩
 ·rintro xs O A B ⟨⟨A1, c1, hB⟩, h3, h4, h5, h6, h7⟩ qq
  refine ⟨⟨A1, c1, hB.turn n0 qq⟩, h3.keep qq h4, fun e => ?_, fun k e => ?_, h6.step qq (fun k hk e => by have := h5 k e; omega), Nat.le_trans h7 qq.size⟩
  ·rcases e with e | e
   ·exact h4 e
   ·have := h3.lt; omega
  ·rcases e with e | e
   ·exact h5 k e
   ·omega
 ·rintro xs O A B ⟨⟨A1, c1, hB⟩, h3, h4, h5, h6, h7⟩ hl qq
  exact ⟨⟨A1, c1, hB.loop n0 hl qq⟩, h3.loop hl qq, h4, h5, h6.step qq (fun k hk e => by omega), Nat.le_trans h7 qq.size⟩
 case ca =>
  intro l x W
  refine go T_ok 200 rfl ?_
  exact round ⟨rfl, rfl⟩
 case bd =>
  rintro l xs O ⟨Ax, cx, lx⟩ W ⟨⟨A1, c1, hB⟩, h3, h4, h5, h6, h7⟩ hO ⟨x1, x2, x3, x4⟩ hsz hlp hdf
  have hx : LsOk m.c lx := ⟨x3, x1, x2⟩
  have x1 : 1 ≤ lx.length := x1
  have x2 : lx.length ≤ 3 := x2
  have x3 : Sites m.c lx := x3
  have x4 : Sl W W.heap.size 1 Ax lx.length (iL lx) := x4
  obtain ⟨b, hb⟩ : ∃ b, b = bestOf m.c s (xs.map (·.2.2)) := ⟨_, rfl⟩
  rw [← hb] at hB
  have hsn : bestOf m.c s ((xs ++ [(Ax, cx, lx)]).map (·.2.2)) = stepB m.c s b lx := by rw [List.map_append, hb, ← bestOf_snoc]; rfl
  obtain ⟨od0, od1, od2, od3⟩ := odds_bd hc hs false hx
  obtain ⟨vb0, vb1⟩ := val_bd hc hs hx
  have BT1 := hB.t1
  have BAL := hB.al
  obtain ⟨mn, mf, Mm0, hmf⟩ := hB.tl.mp
  refine keepS (l' := [(1, .pointer (some ⟨g1, 0, none⟩)), (3, .pointer (some ⟨g3, 0, none⟩)), (4, .pointer (some ⟨g4, 0, none⟩)), (6, .pointer (some ⟨g6, 0, none⟩)), (7, .pointer (some ⟨g7, 0, none⟩)), (8, .pointer (some ⟨g8, 0, none⟩)), (9, .slice Ax lx.length cx)]) ⟨rfl, rfl, rfl, rfl, rfl, rfl, rfl, trivial⟩ ?_
  intro τ
  refine go T_ok 200 rfl ?_
  repeat ((first | refine ldA T_ok rfl rfl rfl rfl rfl (Bk.all BT1) ?_ | refine ld T_ok rfl rfl rfl rfl (Bk.get BT1 rfl) ?_ | refine gT rfl rfl rfl rfl ?_ | refine gF rfl rfl rfl rfl ?_ | refine condT rfl rfl ?_ | refine condF rfl rfl ?_); refine go T_ok 200 rfl ?_)
  refine call rfl rfl rfl (ok _ (by decide) rfl) (odds_ok m s g mb lx false Ax cx W.heap.size W hB.tl hc hs x3 x1 x2 x4) ?_
  rintro x W1 ⟨rfl, qa, HT⟩
  have lmW := hB.tl.lm
  have l1W := hB.t1.lt
  have l4W := hB.al.lt
  have l6W := hB.b6.lt
  have l7W := hB.b7.lt
  have l8W := hB.b8.lt
  have nmb : ∀ k o, m.A = some ⟨k, o, none⟩ → k ≠ mb := fun k o hA => (hmA k o hA).2
  have BT1 := hB.t1.keep qa (by omega)
  have BAL := hB.al.keep qa (by omega)
  have B6 := hB.b6.keep qa (by omega)
  have B7 := hB.b7.keep qa (by omega)
  have B8 := hB.b8.keep qa (by omega)
  have R6 := own_keep hB.rw qa (fun k e h => by have := own_ge hB.rw e; omega)
  have Bg := HT.bk
  refine go T_ok 200 rfl ?_
  refine nw rfl rfl (z := .agg #[I 0, I 0]) (by kernel_rfl) (cs := [I 0, I 0]) rfl ?_
  intro g10 W2 hg10 hs10 qb B10
  refine go T_ok 200 rfl ?_
  refine stA T_ok rfl rfl rfl rfl (vs := [I (oddsP m.c s false lx).1, I (oddsP m.c s false lx).2]) rfl rfl rfl B10 rfl ?_
  intro W3 qe B10 hz10
  have B10 : Bk W3 g10 67 [I (oddsP m.c s false lx).1, I (oddsP m.c s false lx).2] := B10
  have qk : Chg No W1 W3 := qb.step qe (fun k hk e => by omega)
  have qaz := qa.size
  have HT := HT.no qk
  have R6 := own_no R6 qk
  have q := qa.no qk
  have BT1 := BT1.no qk
  have BAL := BAL.no qk
  have B6 := B6.no qk
  have B7 := B7.no qk
  have B8 := B8.no qk
  have Bg := Bg.no qk
  have x4 := (sl_map x4 (by decide) Mm0 qa).no qk
  have qkz := qk.size
  have l10 : W1.heap.size ≤ g10 := by omega
  refine go T_ok 200 rfl ?_
  refine draw mixed (fun w' => Chg No W3 w') ([0,1,2,3,4,5,6,7].map (fun i => (i, true))) rfl (by kernel_rfl) (Chg.drew _) ?_
  refine goH T_ok 200 rfl ?_
  repeat (first | (refine quietH rfl (fun w' hS => r_load T_ok rfl rfl rfl (Bk.get (B10.no hS) rfl)) ?_; refine goH T_ok 200 rfl ?_) | (refine quietH rfl (fun w' hS => r_load T_ok rfl rfl rfl (Bk.get (BAL.no hS) rfl)) ?_; refine goH T_ok 200 rfl ?_))
  refine quietH rfl (fun w' hS => r_quoN rfl rfl rfl (by omega) (by omega) (by omega)) ?_
  refine goH T_ok 200 rfl ?_
  refine endH ?_
  rw [show (oddsP m.c s false lx).1 * (m.c.parts ^ (3 * s) / (oddsP m.c s false lx).2) = valP m.c s lx from rfl, w64_id (x := valP m.c s lx) (by omega) (by omega)]
  have qk := Chg.drew W3
  have HT := HT.no qk
  have R6 := own_no R6 qk
  have x4 := x4.no qk
  have BT1 := BT1.no qk
  have BAL := BAL.no qk
  have B6 := B6.no qk
  have B7 := B7.no qk
  have B8 := B8.no qk
  have Bg := Bg.no qk
  have B10 := B10.no qk
  have q := q.no qk
  refine go T_ok 200 rfl ?_
  refine draw mixed (fun w' => Chg No W3.drew w') ([0,1,2,3,4,5,6,7,8,9,10,11,12,14,15,16,17,18].map (fun i => (i, true)) ++ [(13, false)] ++ [(19, false)] ++ [20,21,22].map (fun i => (i, true))) rfl (by kernel_rfl) (Chg.drew _) ?_
  have qk := Chg.drew W3.drew
  have hgk : ∀ k, Mine m g mb g1 g4 g6 g7 g8 A1 k → k < W.heap.size := fun k hk => hB.lt n0 hk
  have hw8 : w8.heap.size ≤ W.heap.size := h7
  have hcbx := costP_bd hc x3
  have hfg : ∀ k : Nat, k = g6 ∨ k = g7 ∨ k = g8 → k ≠ w8.heap.size ∧ k ≠ w8.heap.size + 1 ∧ ¬ ZX m g gt k ∧ ¬ O k := by
   intro k hk
   refine ⟨by omega, by omega, ?_, ?_⟩
   ·rintro (h | h | ⟨o, hA⟩)
    ·omega
    ·omega
    ·have := (hmA k o hA).1; omega
   ·rcases hk with rfl | rfl | rfl
    ·exact hB.no _ (.inr (.inr (.inr (.inr (.inl rfl)))))
    ·exact hB.no _ (.inr (.inr (.inr (.inr (.inr (.inl rfl))))))
    ·exact hB.no _ (.inr (.inr (.inr (.inr (.inr (.inr (.inl rfl)))))))
  have hfm : ∀ k : Nat, k = mb → k ≠ w8.heap.size ∧ k ≠ w8.heap.size + 1 ∧ ¬ ZX m g gt k ∧ ¬ O k := by
   rintro k rfl
   refine ⟨by omega, by omega, ?_, hB.no _ (.inr (.inr (.inr (.inl rfl))))⟩
   rintro (h | h | ⟨o, hA⟩)
   ·omega
   ·exact H.ne h.symm
   ·exact nmb _ o hA rfl
  refine goH T_ok 200 rfl ?_
  repeat (first | (refine quietH rfl (fun w' hS => r_load T_ok rfl rfl rfl (Bk.get (B8.no hS) rfl)) ?_; refine goH T_ok 200 rfl ?_))
  by_cases hgt : grV m.c s b < valP m.c s lx
  ·rw [decide_eq_true hgt]
   refine goH T_ok 200 rfl ?_
   repeat (first | (refine guardHA (b := true) rfl rfl rfl rfl (fun _ => ?_) (fun h => by cases h); refine goH T_ok 200 rfl ?_) | (refine guardHA (b := false) rfl rfl rfl rfl (fun h => by cases h) (fun _ => ?_); refine goH T_ok 200 rfl ?_) | (refine passE rfl ?_; refine goH T_ok 200 rfl ?_))
   refine endH ?_
   have HT := HT.no qk
   have R6 := own_no R6 qk
   have x4 := x4.no qk
   have BT1 := BT1.no qk
   have BAL := BAL.no qk
   have B6 := B6.no qk
   have B7 := B7.no qk
   have B8 := B8.no qk
   have Bg := Bg.no qk
   have B10 := B10.no qk
   have q := q.no qk
   refine condT rfl rfl ?_
   refine go T_ok 200 rfl ?_
   have hqW := q.size
   have hst : stepB m.c s b lx = some lx := by cases b with | none => rfl | some bl => exact if_pos (.inl hgt)
   have hAx : Ax ≠ none := by
    obtain ⟨_, _, hA, _⟩ := x4.2.2 (by omega)
    rw [hA]; simp
   have n10 : ¬ (g10 = g6 ∨ g10 = g7 ∨ g10 = g8) := by omega
   refine draw mixed (fun w' => Chg (fun k => k = g6 ∨ k = g7 ∨ k = g8) W3.drew.drew w') ([0,2,3].map (fun i => (i, true)) ++ [(1, false)] ++ [(4, false)] ++ [(5, false)] ++ [(6, false)]) rfl (by kernel_rfl) ((Chg.drew _).mono fun _ _ h => h.elim) ?_
   have qk := Chg.drew W3.drew.drew
   refine goH T_ok 200 rfl ?_
   refine quietH rfl (fun w' hS => r_loadA T_ok rfl rfl rfl rfl (B10.keep hS n10).all) ?_
   refine goH T_ok 200 rfl ?_
   refine callE rfl rfl rfl (ok _ (by decide) rfl) (cloneI_any (iL lx) lx.length Ax cx _ _ (x4.no qk) (by simp [iL, Value.oneCell']) (by omega) (fun h => absurd h hAx)) ?_
   rintro v W7 ⟨A', c', rfl, q7, o7, hnn⟩
   have qk : Chg No W3.drew.drew W7 := qk.trans q7
   have qs : Chg (fun k => k = g6 ∨ k = g7 ∨ k = g8) W3.drew.drew W7 := qk.mono fun _ _ h => h.elim
   refine ⟨qs, ?_⟩
   have o7 := own_base o7 (B' := (W3.drew.drew).heap.size) (Nat.le_refl _)
   have HT := HT.no qk
   have R6 := own_no R6 qk
   have x4 := x4.no qk
   have BT1 := BT1.no qk
   have BAL := BAL.no qk
   have B6 := B6.no qk
   have B7 := B7.no qk
   have B8 := B8.no qk
   have Bg := Bg.no qk
   have B10 := B10.no qk
   have q := q.no qk
   refine goH T_ok 200 rfl ?_
   refine storeE T_ok rfl rfl rfl rfl (v := .slice A' lx.length c') rfl rfl B6 rfl ?_
   intro W8 q8 B6 hz8
   have qs := qs.trans (q8.mono fun k _ e => .inl e)
   refine ⟨qs, ?_⟩
   have B7 := B7.keep q8 (by omega)
   have B8 := B8.keep q8 (by omega)
   refine goH T_ok 200 rfl ?_
   refine stAE T_ok rfl rfl rfl rfl (vs := [I (oddsP m.c s false lx).1, I (oddsP m.c s false lx).2]) rfl rfl rfl B7 (by cases b <;> rfl) ?_
   intro W9 q9 B7 hz9
   have qs := qs.trans (q9.mono fun k _ e => .inr (.inl e))
   refine ⟨qs, ?_⟩
   have B6 := B6.keep q9 (by omega)
   have B8 := B8.keep q9 (by omega)
   refine goH T_ok 200 rfl ?_
   refine storeE T_ok rfl rfl rfl rfl (v := I (valP m.c s lx)) rfl rfl B8 rfl ?_
   intro W10 q10 B8 hz10
   have qs := qs.trans (q10.mono fun k _ e => .inr (.inr e))
   refine ⟨qs, ?_⟩
   have B6 : Bk W10 g6 45 [.slice A' lx.length c'] := B6.keep q10 (by omega)
   have B7 : Bk W10 g7 67 (odV m.c s (some lx)) := by
    have := B7.keep q10 (by omega)
    cases hbz : b <;> rw [hbz] at this <;> exact this
   have B8 : Bk W10 g8 3 [I (grV m.c s (some lx))] := B8
   have q710 : Chg (fun k => k = g6 ∨ k = g7 ∨ k = g8) W7 W10 := ((q8.mono fun k _ e => Or.inl e).trans (q9.mono fun k _ e => Or.inr (.inl e))).trans (q10.mono fun k _ e => Or.inr (.inr e))
   have oge : ∀ k, (Value.slice A' lx.length c').ownBlock = some k → W.heap.size ≤ k := fun k e => by have := own_ge o7 e; omega
   have o10 := own_keep o7 q710 (fun k e h => by have := oge k e; omega)
   have BT1 := BT1.keep q710 (by omega)
   have BAL := BAL.keep q710 (by omega)
   have HT := HT.keep q710 (by omega) (by omega) (fun k o hA h => by have := (hmA k o hA).1; omega)
   refine goH T_ok 200 rfl ?_
   refine endH ?_
   refine go T_ok 200 rfl ?_
   rw [hsn, hst]
   have hz710 := q710.size
   refine round ⟨⟨⟨A', c', ⟨BT1, BAL, HT, B6, own_base o10 (by omega), ⟨fun h => absurd (hnn.1 h) hAx, fun h => by cases h⟩, B7, B8, fun l h => by cases h; exact hx, ?_, fun k e => by have := hB.ob k e; have := q.size; omega⟩⟩, (h3.keep q (by omega)).keep q710 (by omega), h4, h5, (h6.trans q).step q710 (fun k hk e => by omega), by have := q.size; omega⟩, ?_⟩
   ·rintro k (h | h | h | h | h | h | h | ⟨o, z, h⟩ | h)
    ·exact hB.no k (.inl h)
    ·exact hB.no k (.inr (.inl h))
    ·exact hB.no k (.inr (.inr (.inl h)))
    ·exact hB.no k (.inr (.inr (.inr (.inl h))))
    ·exact hB.no k (.inr (.inr (.inr (.inr (.inl h)))))
    ·exact hB.no k (.inr (.inr (.inr (.inr (.inr (.inl h))))))
    ·exact hB.no k (.inr (.inr (.inr (.inr (.inr (.inr (.inl h)))))))
    ·intro e
     have := hB.ob k e
     have := oge k (by rw [h]; rfl)
     omega
    ·exact hB.no k (.inr (.inr (.inr (.inr (.inr (.inr (.inr (.inr h))))))))
   ·exact (q.mono fun k _ e => hfm k e).trans (q710.mono fun k _ e => hfg k e)
  rw [decide_eq_false hgt]
  refine guardHA (b := false) rfl rfl rfl rfl (fun h => by cases h) (fun _ => ?_)
  refine goH T_ok 200 rfl ?_
  repeat (first | (refine quietH rfl (fun w' hS => r_load T_ok rfl rfl rfl (Bk.get (B8.no hS) rfl)) ?_; refine goH T_ok 200 rfl ?_))
  by_cases heq : valP m.c s lx = grV m.c s b
  case neg =>
   have e0 : (valP m.c s lx == grV m.c s b) = false := by simp [heq]
   rw [e0]
   refine goH T_ok 200 rfl ?_
   repeat (first | (refine guardHA (b := true) rfl rfl rfl rfl (fun _ => ?_) (fun h => by cases h); refine goH T_ok 200 rfl ?_) | (refine guardHA (b := false) rfl rfl rfl rfl (fun h => by cases h) (fun _ => ?_); refine goH T_ok 200 rfl ?_) | (refine passE rfl ?_; refine goH T_ok 200 rfl ?_))
   refine endH ?_
   have HT := HT.no qk
   have R6 := own_no R6 qk
   have x4 := x4.no qk
   have BT1 := BT1.no qk
   have BAL := BAL.no qk
   have B6 := B6.no qk
   have B7 := B7.no qk
   have B8 := B8.no qk
   have Bg := Bg.no qk
   have B10 := B10.no qk
   have q := q.no qk
   refine condF rfl rfl ?_
   refine go T_ok 200 rfl ?_
   rw [hsn, (show stepB m.c s b lx = b by cases b with | none => exact absurd hgt (by show ¬¬ (-1 < valP m.c s lx); omega) | some bl => exact if_neg (fun h => h.elim hgt (fun h => heq h.1)))]
   refine round ⟨⟨⟨A1, c1, ⟨BT1, BAL, HT, B6, R6, hB.nil, B7, B8, hB.ok, hB.no, fun k e => Nat.lt_of_lt_of_le (hB.ob k e) q.size⟩⟩, h3.keep q (by omega), h4, h5, h6.trans q, Nat.le_trans h7 q.size⟩, q.mono fun k _ e => hfm k e⟩
  have e0 : (valP m.c s lx == grV m.c s b) = true := by simp [heq]
  rw [e0]
  obtain ⟨bl, rfl⟩ : ∃ bl, b = some bl := by
   cases b with
   | none => exact absurd hgt (by show ¬¬ (-1 < valP m.c s lx); omega)
   | some bl => exact ⟨bl, rfl⟩
  have hbl := hB.ok bl rfl
  have hcbb := costP_bd hc hbl.1
  refine guardHA (b := true) rfl rfl rfl rfl (fun _ => ?_) (fun h => by cases h)
  refine goH T_ok 200 rfl ?_
  repeat (first | (refine quietH rfl (fun w' hS => r_load T_ok rfl rfl rfl (Bk.get (BT1.no hS) rfl)) ?_; refine goH T_ok 200 rfl ?_) | (refine quietH rfl (fun w' hS => r_load T_ok rfl rfl rfl (Bk.get (B6.no hS) rfl)) ?_; refine goH T_ok 200 rfl ?_) | (refine quietH rfl (fun w' hS => r_loadA T_ok rfl rfl rfl rfl (bk_at (ds := cpL m) (Bg.no hS) rfl)) ?_; refine goH T_ok 200 rfl ?_))
  refine callE rfl rfl rfl (ok _ (by decide) rfl) (cost_any m lx Ax cx _ _ (HT.cm.no qk) hc (x4.no qk) x3 (by omega)) ?_
  rintro x W5 ⟨rfl, q5⟩
  have qk := qk.trans q5
  refine ⟨qk, ?_⟩
  refine goH T_ok 200 rfl ?_
  repeat (first | (refine quietH rfl (fun w' hS => r_load T_ok rfl rfl rfl (Bk.get (BT1.no hS) rfl)) ?_; refine goH T_ok 200 rfl ?_) | (refine quietH rfl (fun w' hS => r_load T_ok rfl rfl rfl (Bk.get (B6.no hS) rfl)) ?_; refine goH T_ok 200 rfl ?_) | (refine quietH rfl (fun w' hS => r_loadA T_ok rfl rfl rfl rfl (bk_at (ds := cpL m) (Bg.no hS) rfl)) ?_; refine goH T_ok 200 rfl ?_))
  refine callE rfl rfl rfl (ok _ (by decide) rfl) (cost_any m bl A1 c1 _ _ (HT.cm.no qk) hc ((own_sl R6).no qk) hbl.1 (by have := hbl.2.2; omega)) ?_
  rintro x W6 ⟨rfl, q6⟩
  have qk := qk.trans q6
  refine ⟨qk, ?_⟩
  refine goH T_ok 200 rfl ?_
  refine endH ?_
  have HT := HT.no qk
  have R6 := own_no R6 qk
  have x4 := x4.no qk
  have BT1 := BT1.no qk
  have BAL := BAL.no qk
  have B6 := B6.no qk
  have B7 := B7.no qk
  have B8 := B8.no qk
  have Bg := Bg.no qk
  have B10 := B10.no qk
  have q := q.no qk
  by_cases hcl : costP m.c lx < costP m.c bl
  ·rw [decide_eq_true hcl]
   refine condT rfl rfl ?_
   refine go T_ok 200 rfl ?_
   have hqW := q.size
   have hst : stepB m.c s (some bl) lx = some lx := if_pos (.inr ⟨heq, hcl⟩)
   have hAx : Ax ≠ none := by
    obtain ⟨_, _, hA, _⟩ := x4.2.2 (by omega)
    rw [hA]; simp
   have n10 : ¬ (g10 = g6 ∨ g10 = g7 ∨ g10 = g8) := by omega
   refine draw mixed (fun w' => Chg (fun k => k = g6 ∨ k = g7 ∨ k = g8) W6 w') ([0,2,3].map (fun i => (i, true)) ++ [(1, false)] ++ [(4, false)] ++ [(5, false)] ++ [(6, false)]) rfl (by kernel_rfl) ((Chg.drew _).mono fun _ _ h => h.elim) ?_
   have qk := Chg.drew W6
   refine goH T_ok 200 rfl ?_
   refine quietH rfl (fun w' hS => r_loadA T_ok rfl rfl rfl rfl (B10.keep hS n10).all) ?_
   refine goH T_ok 200 rfl ?_
   refine callE rfl rfl rfl (ok _ (by decide) rfl) (cloneI_any (iL lx) lx.length Ax cx _ _ (x4.no qk) (by simp [iL, Value.oneCell']) (by omega) (fun h => absurd h hAx)) ?_
   rintro v W7 ⟨A', c', rfl, q7, o7, hnn⟩
   have qk : Chg No W6 W7 := qk.trans q7
   have qs : Chg (fun k => k = g6 ∨ k = g7 ∨ k = g8) W6 W7 := qk.mono fun _ _ h => h.elim
   refine ⟨qs, ?_⟩
   have o7 := own_base o7 (B' := (W6).heap.size) (Nat.le_refl _)
   have HT := HT.no qk
   have R6 := own_no R6 qk
   have x4 := x4.no qk
   have BT1 := BT1.no qk
   have BAL := BAL.no qk
   have B6 := B6.no qk
   have B7 := B7.no qk
   have B8 := B8.no qk
   have Bg := Bg.no qk
   have B10 := B10.no qk
   have q := q.no qk
   refine goH T_ok 200 rfl ?_
   refine storeE T_ok rfl rfl rfl rfl (v := .slice A' lx.length c') rfl rfl B6 rfl ?_
   intro W8 q8 B6 hz8
   have qs := qs.trans (q8.mono fun k _ e => .inl e)
   refine ⟨qs, ?_⟩
   have B7 := B7.keep q8 (by omega)
   have B8 := B8.keep q8 (by omega)
   refine goH T_ok 200 rfl ?_
   refine stAE T_ok rfl rfl rfl rfl (vs := [I (oddsP m.c s false lx).1, I (oddsP m.c s false lx).2]) rfl rfl rfl B7 (by cases (some bl) <;> rfl) ?_
   intro W9 q9 B7 hz9
   have qs := qs.trans (q9.mono fun k _ e => .inr (.inl e))
   refine ⟨qs, ?_⟩
   have B6 := B6.keep q9 (by omega)
   have B8 := B8.keep q9 (by omega)
   refine goH T_ok 200 rfl ?_
   refine storeE T_ok rfl rfl rfl rfl (v := I (valP m.c s lx)) rfl rfl B8 rfl ?_
   intro W10 q10 B8 hz10
   have qs := qs.trans (q10.mono fun k _ e => .inr (.inr e))
   refine ⟨qs, ?_⟩
   have B6 : Bk W10 g6 45 [.slice A' lx.length c'] := B6.keep q10 (by omega)
   have B7 : Bk W10 g7 67 (odV m.c s (some lx)) := by
    have := B7.keep q10 (by omega)
    cases hbz : (some bl) <;> rw [hbz] at this <;> exact this
   have B8 : Bk W10 g8 3 [I (grV m.c s (some lx))] := B8
   have q710 : Chg (fun k => k = g6 ∨ k = g7 ∨ k = g8) W7 W10 := ((q8.mono fun k _ e => Or.inl e).trans (q9.mono fun k _ e => Or.inr (.inl e))).trans (q10.mono fun k _ e => Or.inr (.inr e))
   have oge : ∀ k, (Value.slice A' lx.length c').ownBlock = some k → W.heap.size ≤ k := fun k e => by have := own_ge o7 e; omega
   have o10 := own_keep o7 q710 (fun k e h => by have := oge k e; omega)
   have BT1 := BT1.keep q710 (by omega)
   have BAL := BAL.keep q710 (by omega)
   have HT := HT.keep q710 (by omega) (by omega) (fun k o hA h => by have := (hmA k o hA).1; omega)
   refine goH T_ok 200 rfl ?_
   refine endH ?_
   refine go T_ok 200 rfl ?_
   rw [hsn, hst]
   have hz710 := q710.size
   refine round ⟨⟨⟨A', c', ⟨BT1, BAL, HT, B6, own_base o10 (by omega), ⟨fun h => absurd (hnn.1 h) hAx, fun h => by cases h⟩, B7, B8, fun l h => by cases h; exact hx, ?_, fun k e => by have := hB.ob k e; have := q.size; omega⟩⟩, (h3.keep q (by omega)).keep q710 (by omega), h4, h5, (h6.trans q).step q710 (fun k hk e => by omega), by have := q.size; omega⟩, ?_⟩
   ·rintro k (h | h | h | h | h | h | h | ⟨o, z, h⟩ | h)
    ·exact hB.no k (.inl h)
    ·exact hB.no k (.inr (.inl h))
    ·exact hB.no k (.inr (.inr (.inl h)))
    ·exact hB.no k (.inr (.inr (.inr (.inl h))))
    ·exact hB.no k (.inr (.inr (.inr (.inr (.inl h)))))
    ·exact hB.no k (.inr (.inr (.inr (.inr (.inr (.inl h))))))
    ·exact hB.no k (.inr (.inr (.inr (.inr (.inr (.inr (.inl h)))))))
    ·intro e
     have := hB.ob k e
     have := oge k (by rw [h]; rfl)
     omega
    ·exact hB.no k (.inr (.inr (.inr (.inr (.inr (.inr (.inr (.inr h))))))))
   ·exact (q.mono fun k _ e => hfm k e).trans (q710.mono fun k _ e => hfg k e)
  ·rw [decide_eq_false hcl]
   refine condF rfl rfl ?_
   refine go T_ok 200 rfl ?_
   rw [hsn, (show stepB m.c s (some bl) lx = some bl from if_neg (fun h => h.elim hgt (fun h => hcl h.2)))]
   refine round ⟨⟨⟨A1, c1, ⟨BT1, BAL, HT, B6, R6, hB.nil, B7, B8, hB.ok, hB.no, fun k e => Nat.lt_of_lt_of_le (hB.ob k e) q.size⟩⟩, h3.keep q (by omega), h4, h5, h6.trans q, Nat.le_trans h7 q.size⟩, q.mono fun k _ e => hfm k e⟩
 case dn =>
  rintro xs O W hS ⟨⟨A1, c1, hB⟩, h3, h4, h5, h6, h7⟩ hsz hD
  have hS : xs.map (·.2.2) = moreL m.c 3 0 [] := hS
  rw [hS] at hB
  obtain ⟨b, hb⟩ : ∃ b, b = bestOf m.c s (moreL m.c 3 0 []) := ⟨_, rfl⟩
  rw [← hb] at hB
  refine keepS (l' := [(3, .pointer (some ⟨g3, 0, none⟩)), (6, .pointer (some ⟨g6, 0, none⟩)), (7, .pointer (some ⟨g7, 0, none⟩))]) ⟨rfl, rfl, rfl, trivial⟩ ?_
  intro τ
  refine go T_ok 200 rfl ?_
  have B6 := hB.b6
  have B7 := hB.b7
  have l6W := B6.lt
  have l7W := B7.lt
  have lo : (odV m.c s b).length = 2 := by cases b <;> rfl
  have lo2 : lenL (odV m.c s b) = 2 := by rw [lenL_eq, lo]
  have hone : (odV m.c s b).all (·.oneCell') = true := by cases b <;> rfl
  refine draw mixed (fun w' => Chg (fun k => k = g3) W w') ([0,1,2].map (fun i => (i, true)) ++ [(3, false)]) rfl (by kernel_rfl) ((Chg.drew _).mono fun _ _ h => h.elim) ?_
  refine goH T_ok 200 rfl ?_
  refine quietH rfl (fun w' hS => r_load T_ok rfl rfl rfl ((B6.keep hS (by omega)).get rfl)) ?_
  refine goH T_ok 200 rfl ?_
  refine quietH rfl (fun w' hS => r_loadA T_ok rfl rfl rfl (by rw [lo2]; rfl) (B7.keep hS (by omega)).all) ?_
  refine goH T_ok 200 rfl ?_
  refine stAE T_ok rfl rfl rfl rfl (vs := odV m.c s b) rfl (by rw [lo2]; rfl) hone (h3.no (Chg.drew _)) rfl ?_
  intro W2 q2 B3 hz2
  have q2 : Chg (fun k => k = g3) W W2 := ((Chg.drew W).mono fun _ _ h => h.elim).trans q2
  refine ⟨q2, ?_⟩
  have B3 : Bk W2 g3 67 (odV m.c s b) := by cases b <;> exact B3
  refine goH T_ok 200 rfl ?_
  refine endH ?_
  refine go T_ok 200 rfl ?_
  have hD' : W2.heap[w8.heap.size]? = some (.deferred (some [])) := by rw [q2.block _ (by omega) (by omega)]; exact hD
  have qp := Chg.putObj W2 w8.heap.size (.deferred none)
  refine retM rfl hD' (retR2 Try.results66 (r := .tmp 2) rfl (resA T_ok rfl rfl (by rw [lo2]; rfl) (B3.keep qp (by omega)).all) (v := .slice _ _ _) ⟨A1, c1, b, hb, rfl, (h6.step q2 (fun k hk e => by omega)).step qp (fun k hk e => by omega), hB.nil, ?_, hB.ok⟩)
  exact own_base (own_keep (own_keep hB.rw q2 (fun k e h => by have := own_ge hB.rw e; omega)) qp (fun k e h => by
   subst h
   obtain ⟨cs, t, hc⟩ := own_cells hB.rw e
   rw [hD] at hc
   cases hc)) (by omega)
end Go.Proofs.Ytolhfimknimliaa.K
namespace Go.Proofs.Ytolhfimknimliaa.K
open Go.Ev Go.Proofs Go.Camp
attribute [local irreducible] At AtH
theorem yes_72 (w : World) : Yes (.func (.func 65) #[] #[]) w := by
 refine ⟨65, #[], rfl, ok _ (by decide) rfl, fun w' _ => ?_⟩
 refine enter Try.func65 rfl Try.ntmps65 rfl ?_
 refine go T_ok 200 rfl ?_
 exact ret (ret1 (v := .bool true) Try.results65 rfl ⟨rfl, Chg.refl _ _⟩)
set_option maxRecDepth 20000 in
set_option maxHeartbeats 4000000 in
theorem Best_ok (m : Cm) (s : Nat) (w0 : World) (H : CpM w0 m) (hc : CpOk m.c) (hs : SlOk m.c s) :
  Ret Try.prog 24 [.agg (cpL m).toArray, I (s : Int)] w0 fun v w' => ∃ A c b, b = bestOf m.c s (moreL m.c 3 0 []) ∧ v = .tuple #[.slice A (b.getD []).length c, .agg (odV m.c s b).toArray, I (if b = none then 5 else 0)] ∧ Chg No w0 w' ∧
   w'.ownsRow w0.heap.size 3 1 (.slice A (b.getD []).length c) (b.getD []).length (iL (b.getD [])) ∧ ∀ l, b = some l → LsOk m.c l := by
 refine enter Try.func24 rfl Try.ntmps24 rfl ?_
 refine go T_ok 200 rfl ?_
 refine bx rfl rfl rfl (cs := cpL m) rfl ?_
 intro g2 u2 hg2 hs2 q2 B2
 have q := q2
 refine go T_ok 200 rfl ?_
 refine nw rfl rfl (z := .agg #[I 0, I 0]) (by kernel_rfl) (cs := [I 0, I 0]) rfl ?_
 intro g5 w1 hg5 hs5 qk B5
 have B2 := B2.no qk
 have q := q.trans qk
 refine go T_ok 200 rfl ?_
 repeat ((first | refine ldA T_ok rfl rfl rfl rfl rfl (Bk.all B2) ?_ | refine ldA T_ok rfl rfl rfl rfl rfl (Bk.all B5) ?_ | refine ld T_ok rfl rfl rfl rfl (Bk.get B2 rfl) ?_ | refine ld T_ok rfl rfl rfl rfl (Bk.get B5 rfl) ?_ | refine gT rfl rfl rfl rfl ?_ | refine gF rfl rfl rfl rfl ?_ | refine condT rfl rfl ?_ | refine condF rfl rfl ?_); refine go T_ok 200 rfl ?_)
 refine call rfl rfl rfl (ok _ (by decide) rfl) (ask_ok m s _ _ (H.no q) hc hs (yes_72 _)) ?_
 rintro x w2 ⟨g, mb, rfl, qk, HT, lg, lmb⟩
 have B2 := B2.no qk
 have B5 := B5.no qk
 have q := q.trans qk
 have lq := q.size
 have l5 := B5.lt
 refine go T_ok 200 rfl ?_
 repeat ((first | refine ldA T_ok rfl rfl rfl rfl rfl (Bk.all B2) ?_ | refine ldA T_ok rfl rfl rfl rfl rfl (Bk.all B5) ?_ | refine ld T_ok rfl rfl rfl rfl (Bk.get B2 rfl) ?_ | refine ld T_ok rfl rfl rfl rfl (Bk.get B5 rfl) ?_ | refine gT rfl rfl rfl rfl ?_ | refine gF rfl rfl rfl rfl ?_ | refine condT rfl rfl ?_ | refine condF rfl rfl ?_); refine go T_ok 200 rfl ?_)
 refine call rfl rfl rfl (ok _ (by decide) rfl) (best_ok m s g mb _ HT hc hs) ?_
 rintro x w3 ⟨A, c, b, hb, rfl, qk, hnil, ho, hok⟩
 have B5 := B5.keep qk (by omega)
 have q := q.step qk (fun k hk e => by omega)
 have lq3 := qk.size
 have ho3 := ho
 cases b with
 | none =>
  obtain rfl := hnil.2 rfl
  refine go T_ok 200 rfl ?_
  refine nw rfl rfl (z := .agg #[I 0, I 0]) (by kernel_rfl) (cs := [I 0, I 0]) rfl ?_
  intro g10 w4 hg10 hs10 qk B10
  have q := q.trans qk
  have B5 := B5.no qk
  have ho := own_no ho qk
  refine go T_ok 200 rfl ?_
  refine stA T_ok rfl rfl rfl rfl (vs := [I 0, I 0]) rfl rfl rfl B10 rfl ?_
  intro w5 qk B10 hz
  have B5 := B5.keep qk (by omega)
  have q := q.step qk (fun k hk e => by omega)
  refine go T_ok 200 rfl ?_
  refine nilS rfl rfl Try.underlying45 rfl rfl ?_
  refine go T_ok 200 rfl ?_
  refine condT rfl rfl ?_
  refine go T_ok 200 rfl ?_
  refine stA T_ok rfl rfl rfl rfl (vs := [I 0, I 0]) rfl rfl rfl B5 rfl ?_
  intro w6 qk B5 hz
  have B5 : Bk w6 g5 67 [I 0, I 0] := B5
  have q := q.step qk (fun k hk e => by omega)
  refine go T_ok 200 rfl ?_
  exact ret (retR3 Try.results24 (r := .tmp 4) rfl (resA T_ok rfl rfl rfl B5.all) (u := .tmp 6) (y := I 5) rfl (v := .slice none 0 0) ⟨none, 0, none, hb, rfl, q, own_nil, hok⟩)
 | some l =>
  obtain ⟨a, rfl⟩ : ∃ a, A = some a := by
   cases A with
   | none => have := hnil.1 rfl; cases this
   | some a => exact ⟨a, rfl⟩
  refine go T_ok 200 rfl ?_
  refine nw rfl rfl (z := .agg #[I 0, I 0]) (by kernel_rfl) (cs := [I 0, I 0]) rfl ?_
  intro g10 w4 hg10 hs10 qk B10
  have q := q.trans qk
  have B5 := B5.no qk
  have ho := own_no ho qk
  refine go T_ok 200 rfl ?_
  refine stA T_ok rfl rfl rfl rfl (vs := [I (oddsP m.c s false l).1, I (oddsP m.c s false l).2]) rfl rfl rfl B10 rfl ?_
  intro w5 qk B10 hz
  have B10 : Bk w5 g10 67 [I (oddsP m.c s false l).1, I (oddsP m.c s false l).2] := B10
  have hlo : ∀ k, (Value.slice (some a) l.length c).ownBlock = some k → k < w4.heap.size ∧ w2.heap.size ≤ k := fun k e => ⟨lt_own ho e, own_ge ho e⟩
  have hlo3 : ∀ k, (Value.slice (some a) l.length c).ownBlock = some k → k ≠ g10 := fun k e h => by
   obtain ⟨_, h2⟩ := hlo k e
   have := lt_own ho3 e
   omega
  have B5 := B5.keep qk (by omega)
  have ho := own_keep ho qk (fun k e h => hlo3 k e h)
  have q := q.step qk (fun k hk e => by omega)
  refine go T_ok 200 rfl ?_
  refine nilS rfl rfl Try.underlying45 rfl rfl ?_
  refine go T_ok 200 rfl ?_
  refine condF rfl rfl ?_
  refine go T_ok 200 rfl ?_
  have n105 : g10 ≠ g5 := by omega
  have hlo5 : ∀ k, (Value.slice (some a) l.length c).ownBlock = some k → k ≠ g5 := fun k e h => by
   obtain ⟨_, h2⟩ := hlo k e
   omega
  refine draw mixed (fun w' => Chg (fun k => k = g5) w5 w') ([0,1,2].map (fun i => (i, true)) ++ [(3, false)] ++ [4].map (fun i => (i, true))) rfl (by kernel_rfl) ((Chg.drew _).mono fun _ _ h => h.elim) ?_
  refine goH T_ok 200 rfl ?_
  refine quietH rfl (fun w' hS => r_loadA T_ok rfl rfl rfl rfl (B10.keep hS n105).all) ?_
  refine goH T_ok 200 rfl ?_
  refine stAE T_ok rfl rfl rfl rfl (vs := [I (oddsP m.c s false l).1, I (oddsP m.c s false l).2]) rfl rfl rfl (B5.no (Chg.drew _)) rfl ?_
  intro w6 q6 B5 hz
  have B5 : Bk w6 g5 67 [I (oddsP m.c s false l).1, I (oddsP m.c s false l).2] := B5
  have q6 : Chg (fun k => k = g5) w5 w6 := ((Chg.drew w5).mono fun _ _ h => h.elim).trans q6
  refine ⟨q6, ?_⟩
  refine goH T_ok 200 rfl ?_
  refine endH ?_
  refine go T_ok 200 rfl ?_
  refine ret (retR3 Try.results24 (r := .tmp 4) rfl (resA T_ok rfl rfl rfl B5.all) (u := .tmp 6) (y := I 0) rfl (v := .slice _ _ _) ⟨some a, c, some l, hb, rfl, q.step q6 (fun k hk e => by omega), ?_, hok⟩)
  exact own_base (own_keep ho q6 (fun k e h => hlo5 k e h)) (by omega)
end Go.Proofs.Ytolhfimknimliaa.K
namespace Go.Proofs.Ytolhfimknimliaa.K
open Go.Ev Go.Proofs
attribute [local irreducible] At AtH
theorem rIn_any (x lo hi : Int) (w : World) : Ret Try.prog 63 [I x, I lo, I hi] w fun v w' => v = .bool (decide (lo ≤ x ∧ x ≤ hi)) ∧ w = w' := by
 refine enter Try.func63 rfl Try.ntmps63 rfl ?_
 refine go T_ok 200 rfl ?_
 by_cases h1 : lo ≤ x
 ·rw [decide_eq_true h1]
  refine go T_ok 200 rfl ?_
  repeat (first | (refine gT rfl rfl rfl rfl ?_; refine go T_ok 200 rfl ?_) | (refine gF rfl rfl rfl rfl ?_; refine go T_ok 200 rfl ?_) | (refine condT rfl rfl ?_; refine go T_ok 200 rfl ?_) | (refine condF rfl rfl ?_; refine go T_ok 200 rfl ?_))
  by_cases h2 : x ≤ hi
  ·rw [decide_eq_true h2]
   refine go T_ok 200 rfl ?_
   repeat (first | (refine gT rfl rfl rfl rfl ?_; refine go T_ok 200 rfl ?_) | (refine gF rfl rfl rfl rfl ?_; refine go T_ok 200 rfl ?_) | (refine condT rfl rfl ?_; refine go T_ok 200 rfl ?_) | (refine condF rfl rfl ?_; refine go T_ok 200 rfl ?_))
   exact ret (ret1 (v := .bool _) Try.results63 rfl ⟨by rw [decide_eq_true ⟨h1, h2⟩], rfl⟩)
  ·rw [decide_eq_false h2]
   refine go T_ok 200 rfl ?_
   repeat (first | (refine gT rfl rfl rfl rfl ?_; refine go T_ok 200 rfl ?_) | (refine gF rfl rfl rfl rfl ?_; refine go T_ok 200 rfl ?_) | (refine condT rfl rfl ?_; refine go T_ok 200 rfl ?_) | (refine condF rfl rfl ?_; refine go T_ok 200 rfl ?_))
   exact ret (ret1 (v := .bool _) Try.results63 rfl ⟨by rw [decide_eq_false (fun h => h2 h.2)], rfl⟩)
 ·rw [decide_eq_false h1]
  refine go T_ok 200 rfl ?_
  repeat (first | (refine gT rfl rfl rfl rfl ?_; refine go T_ok 200 rfl ?_) | (refine gF rfl rfl rfl rfl ?_; refine go T_ok 200 rfl ?_) | (refine condT rfl rfl ?_; refine go T_ok 200 rfl ?_) | (refine condF rfl rfl ?_; refine go T_ok 200 rfl ?_))
  exact ret (ret1 (v := .bool _) Try.results63 rfl ⟨by rw [decide_eq_false (fun h => h1 h.1)], rfl⟩)
end Go.Proofs.Ytolhfimknimliaa.K
namespace Go.Proofs.Ytolhfimknimliaa.K
open Go.Ev Go.Proofs
open Go.Camp (Cp CpOk ChOk Site SiteOk Sites costP siteAt siteAt_ok costP_bd costP_snoc SlOk)
attribute [local irreducible] At AtH
set_option maxRecDepth 20000 in
set_option maxHeartbeats 8000000 in
theorem rCampaign_any (m : Cm) (w0 : World) (H : CpM w0 m) (hn : m.c.sites.length ≤ 1000) : Ret Try.prog 22 [.agg (cpL m).toArray] w0 fun v w' => (∃ b, v = .bool b ∧ (b = true ↔ CpOk m.c)) ∧ Chg No w0 w' := by
 refine enter Try.func22 rfl Try.ntmps22 rfl ?_
 refine go T_ok 200 rfl ?_
 refine bx rfl rfl rfl (cs := cpL m) rfl ?_
 intro g1 u1 hg1 hs1 q1 B1
 have q := q1
 refine go T_ok 200 rfl ?_
 repeat ((first | refine ldA T_ok rfl rfl rfl rfl rfl (Bk.all B1) ?_ | refine ld T_ok rfl rfl rfl rfl (Bk.get B1 rfl) ?_ | refine gT rfl rfl rfl rfl ?_ | refine gF rfl rfl rfl rfl ?_ | refine condT rfl rfl ?_ | refine condF rfl rfl ?_); refine go T_ok 200 rfl ?_)
 refine call rfl rfl rfl (ok _ (by decide) rfl) (Q.Parts_any m.c.parts _) ?_
 rintro x w ⟨rfl, rfl⟩
 by_cases h1 : 2 ≤ m.c.parts ∧ m.c.parts ≤ 1000
 case neg =>
  rw [show Go.Cnt.inB m.c.parts 2 1000 = false from (Go.Cnt.inB_false _ _ _).2 h1]
  refine go T_ok 200 rfl ?_
  repeat ((first | refine ldA T_ok rfl rfl rfl rfl rfl (Bk.all B1) ?_ | refine ld T_ok rfl rfl rfl rfl (Bk.get B1 rfl) ?_ | refine gT rfl rfl rfl rfl ?_ | refine gF rfl rfl rfl rfl ?_ | refine condT rfl rfl ?_ | refine condF rfl rfl ?_); refine go T_ok 200 rfl ?_)
  exact ret (ret1 (v := .bool false) Try.results22 rfl ⟨⟨false, rfl, by simp; exact fun h => h1 ⟨h.p0, h.p1⟩⟩, q⟩)
 rw [show Go.Cnt.inB m.c.parts 2 1000 = true from (Go.Cnt.inB_iff _ _ _).2 h1]
 refine go T_ok 200 rfl ?_
 repeat ((first | refine ldA T_ok rfl rfl rfl rfl rfl (Bk.all B1) ?_ | refine ld T_ok rfl rfl rfl rfl (Bk.get B1 rfl) ?_ | refine gT rfl rfl rfl rfl ?_ | refine gF rfl rfl rfl rfl ?_ | refine condT rfl rfl ?_ | refine condF rfl rfl ?_); refine go T_ok 200 rfl ?_)
 refine call rfl rfl rfl (ok _ (by decide) rfl) (rIn_any m.c.level 2 300000 _) ?_
 rintro x w ⟨rfl, rfl⟩
 by_cases h2 : 2 ≤ m.c.level ∧ m.c.level ≤ 300000
 case neg =>
  rw [decide_eq_false h2]
  refine go T_ok 200 rfl ?_
  repeat ((first | refine ldA T_ok rfl rfl rfl rfl rfl (Bk.all B1) ?_ | refine ld T_ok rfl rfl rfl rfl (Bk.get B1 rfl) ?_ | refine gT rfl rfl rfl rfl ?_ | refine gF rfl rfl rfl rfl ?_ | refine condT rfl rfl ?_ | refine condF rfl rfl ?_); refine go T_ok 200 rfl ?_)
  exact ret (ret1 (v := .bool false) Try.results22 rfl ⟨⟨false, rfl, by simp; exact fun h => h2 ⟨h.v0, h.v1⟩⟩, q⟩)
 rw [decide_eq_true h2]
 refine go T_ok 200 rfl ?_
 repeat ((first | refine ldA T_ok rfl rfl rfl rfl rfl (Bk.all B1) ?_ | refine ld T_ok rfl rfl rfl rfl (Bk.get B1 rfl) ?_ | refine gT rfl rfl rfl rfl ?_ | refine gF rfl rfl rfl rfl ?_ | refine condT rfl rfl ?_ | refine condF rfl rfl ?_); refine go T_ok 200 rfl ?_)
 refine call rfl rfl rfl (ok _ (by decide) rfl) (rIn_any m.c.budget 0 8000000 _) ?_
 rintro x w ⟨rfl, rfl⟩
 by_cases h3 : 0 ≤ m.c.budget ∧ m.c.budget ≤ 8000000
 case neg =>
  rw [decide_eq_false h3]
  refine go T_ok 200 rfl ?_
  repeat ((first | refine ldA T_ok rfl rfl rfl rfl rfl (Bk.all B1) ?_ | refine ld T_ok rfl rfl rfl rfl (Bk.get B1 rfl) ?_ | refine gT rfl rfl rfl rfl ?_ | refine gF rfl rfl rfl rfl ?_ | refine condT rfl rfl ?_ | refine condF rfl rfl ?_); refine go T_ok 200 rfl ?_)
  exact ret (ret1 (v := .bool false) Try.results22 rfl ⟨⟨false, rfl, by simp; exact fun h => h3 ⟨h.b0, h.b1⟩⟩, q⟩)
 rw [decide_eq_true h3]
 refine go T_ok 200 rfl ?_
 repeat ((first | refine ldA T_ok rfl rfl rfl rfl rfl (Bk.all B1) ?_ | refine ld T_ok rfl rfl rfl rfl (Bk.get B1 rfl) ?_ | refine gT rfl rfl rfl rfl ?_ | refine gF rfl rfl rfl rfl ?_ | refine condT rfl rfl ?_ | refine condF rfl rfl ?_); refine go T_ok 200 rfl ?_)
 refine call rfl rfl rfl (ok _ (by decide) rfl) (rIn_any (m.c.sites.length : Int) 1 8 _) ?_
 rintro x w ⟨rfl, rfl⟩
 by_cases h4 : 1 ≤ (m.c.sites.length : Int) ∧ (m.c.sites.length : Int) ≤ 8
 case neg =>
  rw [decide_eq_false h4]
  refine go T_ok 200 rfl ?_
  repeat ((first | refine ldA T_ok rfl rfl rfl rfl rfl (Bk.all B1) ?_ | refine ld T_ok rfl rfl rfl rfl (Bk.get B1 rfl) ?_ | refine gT rfl rfl rfl rfl ?_ | refine gF rfl rfl rfl rfl ?_ | refine condT rfl rfl ?_ | refine condF rfl rfl ?_); refine go T_ok 200 rfl ?_)
  exact ret (ret1 (v := .bool false) Try.results22 rfl ⟨⟨false, rfl, by simp; exact fun h => h4 ⟨by have := h.n0; omega, by have := h.n1; omega⟩⟩, q⟩)
 rw [decide_eq_true h4]
 refine go T_ok 200 rfl ?_
 repeat ((first | refine ldA T_ok rfl rfl rfl rfl rfl (Bk.all B1) ?_ | refine ld T_ok rfl rfl rfl rfl (Bk.get B1 rfl) ?_ | refine gT rfl rfl rfl rfl ?_ | refine gF rfl rfl rfl rfl ?_ | refine condT rfl rfl ?_ | refine condF rfl rfl ?_); refine go T_ok 200 rfl ?_)
 refine loop [1, 3] (fun j : Nat => [.pointer (some ⟨g1, 0, none⟩), .int .i64 (j : Int)])
  (fun j w' => j ≤ m.c.sites.length ∧ Chg No w0 w' ∧ Bk w' g1 63 (cpL m) ∧ ∀ (k : Nat) s, k < j → m.c.sites[k]? = some s → SiteOk m.c.parts s) (fun j => m.c.sites.length - j) 0 (fun _ => rfl) rfl ⟨Nat.zero_le _, q, B1, fun k s h => absurd h (Nat.not_lt_zero _)⟩ ?_
 rintro j τ w ⟨hj, q, B1, hm⟩
 have H1 := H.no q
 refine go T_ok 200 rfl ?_
 repeat ((first | refine ldA T_ok rfl rfl rfl rfl rfl (Bk.all B1) ?_ | refine ld T_ok rfl rfl rfl rfl (Bk.get B1 rfl) ?_ | refine gT rfl rfl rfl rfl ?_ | refine gF rfl rfl rfl rfl ?_ | refine condT rfl rfl ?_ | refine condF rfl rfl ?_); refine go T_ok 200 rfl ?_)
 refine condD rfl (fun hlt => ?_) (fun hlt => ?_)
 ·have hlt : j < m.c.sites.length := by omega
  obtain ⟨s, hs⟩ := getA_of hlt
  have hsm := List.mem_of_getElem? hs
  obtain ⟨b1, o1, hA1, hb1, hc1⟩ := Sl.el H1 siL_len hs
  have e3 : w64 ((j : Int) + 1) = ((j + 1 : Nat) : Int) := w64_id (by omega) (by omega)
  refine go T_ok 200 rfl ?_
  repeat ((first | refine ldA T_ok rfl rfl rfl rfl rfl (Bk.all B1) ?_ | refine ld T_ok rfl rfl rfl rfl (Bk.get B1 rfl) ?_ | refine gT rfl rfl rfl rfl ?_ | refine gF rfl rfl rfl rfl ?_ | refine condT rfl rfl ?_ | refine condF rfl rfl ?_); refine go T_ok 200 rfl ?_)
  rw [hA1]
  refine idx T_ok rfl rfl rfl rfl rfl j rfl hlt ?_
  refine go T_ok 200 rfl ?_
  refine ldA T_ok rfl rfl rfl rfl rfl hc1 ?_
  refine go T_ok 200 rfl ?_
  rw [← hA1]
  have yB1 := B1.lt
  have yq := q.size
  refine nw rfl rfl (z := .agg #[I 0, I 0, I 0, I 0]) (by kernel_rfl) (cs := [I 0, I 0, I 0, I 0]) rfl ?_
  intro g4 w hg4 hs4 qk B4
  have B1 := B1.no qk
  have q := q.trans qk
  refine go T_ok 200 rfl ?_
  refine stA T_ok rfl rfl rfl rfl (vs := siL s) rfl rfl rfl B4 rfl ?_
  intro w qk B4 hz4
  have B4 : Bk w g4 77 (siL s) := B4
  have B1 := Bk.keep B1 qk (by omega)
  have q := q.step qk (fun k hk e => by omega)
  refine go T_ok 200 rfl ?_
  repeat ((first | refine ldA T_ok rfl rfl rfl rfl rfl (Bk.all B1) ?_ | refine ldA T_ok rfl rfl rfl rfl rfl (Bk.all B4) ?_ | refine ld T_ok rfl rfl rfl rfl (Bk.get B1 rfl) ?_ | refine ld T_ok rfl rfl rfl rfl (Bk.get B4 rfl) ?_ | refine gT rfl rfl rfl rfl ?_ | refine gF rfl rfl rfl rfl ?_ | refine condT rfl rfl ?_ | refine condF rfl rfl ?_); refine go T_ok 200 rfl ?_)
  refine call rfl rfl rfl (ok _ (by decide) rfl) (rIn_any s.cost 0 1000000 _) ?_
  rintro x w ⟨rfl, rfl⟩
  by_cases k1 : 0 ≤ s.cost ∧ s.cost ≤ 1000000
  case neg =>
   rw [decide_eq_false k1]
   refine go T_ok 200 rfl ?_
   repeat ((first | refine ldA T_ok rfl rfl rfl rfl rfl (Bk.all B1) ?_ | refine ldA T_ok rfl rfl rfl rfl rfl (Bk.all B4) ?_ | refine ld T_ok rfl rfl rfl rfl (Bk.get B1 rfl) ?_ | refine ld T_ok rfl rfl rfl rfl (Bk.get B4 rfl) ?_ | refine gT rfl rfl rfl rfl ?_ | refine gF rfl rfl rfl rfl ?_ | refine condT rfl rfl ?_ | refine condF rfl rfl ?_); refine go T_ok 200 rfl ?_)
   exact ret (ret1 (v := .bool false) Try.results22 rfl ⟨⟨false, rfl, by simp; exact fun h => k1 (let t := h.s s hsm; ⟨t.c0, t.c1⟩)⟩, q⟩)
  rw [decide_eq_true k1]
  refine go T_ok 200 rfl ?_
  repeat ((first | refine ldA T_ok rfl rfl rfl rfl rfl (Bk.all B1) ?_ | refine ldA T_ok rfl rfl rfl rfl rfl (Bk.all B4) ?_ | refine ld T_ok rfl rfl rfl rfl (Bk.get B1 rfl) ?_ | refine ld T_ok rfl rfl rfl rfl (Bk.get B4 rfl) ?_ | refine gT rfl rfl rfl rfl ?_ | refine gF rfl rfl rfl rfl ?_ | refine condT rfl rfl ?_ | refine condF rfl rfl ?_); refine go T_ok 200 rfl ?_)
  by_cases k2 : s.lo < 0
  case pos =>
   rw [decide_eq_true k2]
   refine go T_ok 200 rfl ?_
   repeat ((first | refine ldA T_ok rfl rfl rfl rfl rfl (Bk.all B1) ?_ | refine ldA T_ok rfl rfl rfl rfl rfl (Bk.all B4) ?_ | refine ld T_ok rfl rfl rfl rfl (Bk.get B1 rfl) ?_ | refine ld T_ok rfl rfl rfl rfl (Bk.get B4 rfl) ?_ | refine gT rfl rfl rfl rfl ?_ | refine gF rfl rfl rfl rfl ?_ | refine condT rfl rfl ?_ | refine condF rfl rfl ?_); refine go T_ok 200 rfl ?_)
   exact ret (ret1 (v := .bool false) Try.results22 rfl ⟨⟨false, rfl, by simp; exact fun h => absurd (h.s s hsm).l0 (by omega)⟩, q⟩)
  rw [decide_eq_false k2]
  refine go T_ok 200 rfl ?_
  repeat ((first | refine ldA T_ok rfl rfl rfl rfl rfl (Bk.all B1) ?_ | refine ldA T_ok rfl rfl rfl rfl rfl (Bk.all B4) ?_ | refine ld T_ok rfl rfl rfl rfl (Bk.get B1 rfl) ?_ | refine ld T_ok rfl rfl rfl rfl (Bk.get B4 rfl) ?_ | refine gT rfl rfl rfl rfl ?_ | refine gF rfl rfl rfl rfl ?_ | refine condT rfl rfl ?_ | refine condF rfl rfl ?_); refine go T_ok 200 rfl ?_)
  by_cases k3 : s.hi ≤ s.lo
  case pos =>
   rw [decide_eq_true k3]
   refine go T_ok 200 rfl ?_
   repeat ((first | refine ldA T_ok rfl rfl rfl rfl rfl (Bk.all B1) ?_ | refine ldA T_ok rfl rfl rfl rfl rfl (Bk.all B4) ?_ | refine ld T_ok rfl rfl rfl rfl (Bk.get B1 rfl) ?_ | refine ld T_ok rfl rfl rfl rfl (Bk.get B4 rfl) ?_ | refine gT rfl rfl rfl rfl ?_ | refine gF rfl rfl rfl rfl ?_ | refine condT rfl rfl ?_ | refine condF rfl rfl ?_); refine go T_ok 200 rfl ?_)
   exact ret (ret1 (v := .bool false) Try.results22 rfl ⟨⟨false, rfl, by simp; exact fun h => absurd (h.s s hsm).lh (by omega)⟩, q⟩)
  rw [decide_eq_false k3]
  refine go T_ok 200 rfl ?_
  repeat ((first | refine ldA T_ok rfl rfl rfl rfl rfl (Bk.all B1) ?_ | refine ldA T_ok rfl rfl rfl rfl rfl (Bk.all B4) ?_ | refine ld T_ok rfl rfl rfl rfl (Bk.get B1 rfl) ?_ | refine ld T_ok rfl rfl rfl rfl (Bk.get B4 rfl) ?_ | refine gT rfl rfl rfl rfl ?_ | refine gF rfl rfl rfl rfl ?_ | refine condT rfl rfl ?_ | refine condF rfl rfl ?_); refine go T_ok 200 rfl ?_)
  by_cases k4 : m.c.parts < s.hi
  case pos =>
   rw [decide_eq_true k4]
   refine go T_ok 200 rfl ?_
   repeat ((first | refine ldA T_ok rfl rfl rfl rfl rfl (Bk.all B1) ?_ | refine ldA T_ok rfl rfl rfl rfl rfl (Bk.all B4) ?_ | refine ld T_ok rfl rfl rfl rfl (Bk.get B1 rfl) ?_ | refine ld T_ok rfl rfl rfl rfl (Bk.get B4 rfl) ?_ | refine gT rfl rfl rfl rfl ?_ | refine gF rfl rfl rfl rfl ?_ | refine condT rfl rfl ?_ | refine condF rfl rfl ?_); refine go T_ok 200 rfl ?_)
   exact ret (ret1 (v := .bool false) Try.results22 rfl ⟨⟨false, rfl, by simp; exact fun h => absurd (h.s s hsm).h1 (by omega)⟩, q⟩)
  rw [decide_eq_false k4]
  refine go T_ok 200 rfl ?_
  repeat ((first | refine ldA T_ok rfl rfl rfl rfl rfl (Bk.all B1) ?_ | refine ldA T_ok rfl rfl rfl rfl rfl (Bk.all B4) ?_ | refine ld T_ok rfl rfl rfl rfl (Bk.get B1 rfl) ?_ | refine ld T_ok rfl rfl rfl rfl (Bk.get B4 rfl) ?_ | refine gT rfl rfl rfl rfl ?_ | refine gF rfl rfl rfl rfl ?_ | refine condT rfl rfl ?_ | refine condF rfl rfl ?_); refine go T_ok 200 rfl ?_)
  refine call rfl rfl rfl (ok _ (by decide) rfl) (rIn_any s.tru 0 m.c.parts _) ?_
  rintro x w ⟨rfl, rfl⟩
  by_cases k5 : 0 ≤ s.tru ∧ s.tru ≤ m.c.parts
  case neg =>
   rw [decide_eq_false k5]
   refine go T_ok 200 rfl ?_
   repeat ((first | refine ldA T_ok rfl rfl rfl rfl rfl (Bk.all B1) ?_ | refine ldA T_ok rfl rfl rfl rfl rfl (Bk.all B4) ?_ | refine ld T_ok rfl rfl rfl rfl (Bk.get B1 rfl) ?_ | refine ld T_ok rfl rfl rfl rfl (Bk.get B4 rfl) ?_ | refine gT rfl rfl rfl rfl ?_ | refine gF rfl rfl rfl rfl ?_ | refine condT rfl rfl ?_ | refine condF rfl rfl ?_); refine go T_ok 200 rfl ?_)
   exact ret (ret1 (v := .bool false) Try.results22 rfl ⟨⟨false, rfl, by simp; exact fun h => k5 (let t := h.s s hsm; ⟨t.t0, t.t1⟩)⟩, q⟩)
  rw [decide_eq_true k5]
  refine go T_ok 200 rfl ?_
  repeat ((first | refine ldA T_ok rfl rfl rfl rfl rfl (Bk.all B1) ?_ | refine ldA T_ok rfl rfl rfl rfl rfl (Bk.all B4) ?_ | refine ld T_ok rfl rfl rfl rfl (Bk.get B1 rfl) ?_ | refine ld T_ok rfl rfl rfl rfl (Bk.get B4 rfl) ?_ | refine gT rfl rfl rfl rfl ?_ | refine gF rfl rfl rfl rfl ?_ | refine condT rfl rfl ?_ | refine condF rfl rfl ?_); refine go T_ok 200 rfl ?_)
  rw [e3]
  refine round ⟨j + 1, rfl, ⟨by omega, q, B1, fun k s' hk hs' => ?_⟩, by omega⟩
  rcases Nat.lt_or_ge k j with h' | h'
  ·exact hm k s' h' hs'
  ·obtain rfl : k = j := by omega
   rw [hs] at hs'; cases hs'
   exact ⟨k1.1, k1.2, by omega, by omega, by omega, k5.1, k5.2⟩
 obtain rfl : j = m.c.sites.length := by omega
 refine go T_ok 200 rfl ?_
 repeat ((first | refine ldA T_ok rfl rfl rfl rfl rfl (Bk.all B1) ?_ | refine ldA T_ok rfl rfl rfl rfl rfl (Bk.all B4) ?_ | refine ld T_ok rfl rfl rfl rfl (Bk.get B1 rfl) ?_ | refine ld T_ok rfl rfl rfl rfl (Bk.get B4 rfl) ?_ | refine gT rfl rfl rfl rfl ?_ | refine gF rfl rfl rfl rfl ?_ | refine condT rfl rfl ?_ | refine condF rfl rfl ?_); refine go T_ok 200 rfl ?_)
 exact ret (ret1 (v := .bool true) Try.results22 rfl ⟨⟨true, rfl, by simp; exact ⟨h1.1, h1.2, h2.1, h2.2, h3.1, h3.2, by omega, by omega, fun s hs => by obtain ⟨k, hk⟩ := List.getElem?_of_mem hs; exact hm k s (List.getElem?_eq_some_iff.1 hk).1 hk⟩⟩, q⟩)
set_option maxHeartbeats 4000000 in
theorem rCost_any (m : Cm) (l : List Int) (A : Option Addr) (c B : Nat) (w0 : World) (H : CpM w0 m) (hc : CpOk m.c) (Sl0 : Sl w0 B 1 A l.length (iL l)) (hl : Sites m.c l) (hl3 : l.length ≤ 1000) :
  Ret Try.prog 67 [.agg (cpL m).toArray, .slice A l.length c] w0 fun x w' => x = I (costP m.c l) ∧ Chg No w0 w' := by
 refine enter Try.func67 rfl Try.ntmps67 rfl ?_
 refine go T_ok 200 rfl ?_
 refine bx rfl rfl rfl (cs := cpL m) rfl ?_
 intro g2 u2 hg2 hs2 q2 B2
 have q := q2
 refine go T_ok 200 rfl ?_
 repeat ((first | refine ldA T_ok rfl rfl rfl rfl rfl (Bk.all B2) ?_ | refine ld T_ok rfl rfl rfl rfl (Bk.get B2 rfl) ?_ | refine gT rfl rfl rfl rfl ?_ | refine gF rfl rfl rfl rfl ?_ | refine condT rfl rfl ?_ | refine condF rfl rfl ?_); refine go T_ok 200 rfl ?_)
 refine loop [1, 2, 5, 6] (fun j : Nat => [.slice A l.length c, .pointer (some ⟨g2, 0, none⟩), I (costP m.c (l.take j)), .int .i64 (j : Int)])
  (fun j w' => j ≤ l.length ∧ Chg No w0 w' ∧ Bk w' g2 63 (cpL m)) (fun j => l.length - j) 0 (fun _ => rfl) rfl ⟨Nat.zero_le _, q, B2⟩ ?_
 rintro j τ w ⟨hj, q, B2⟩
 have H1 := H.no q
 refine go T_ok 200 rfl ?_
 repeat ((first | refine ldA T_ok rfl rfl rfl rfl rfl (Bk.all B2) ?_ | refine ld T_ok rfl rfl rfl rfl (Bk.get B2 rfl) ?_ | refine gT rfl rfl rfl rfl ?_ | refine gF rfl rfl rfl rfl ?_ | refine condT rfl rfl ?_ | refine condF rfl rfl ?_); refine go T_ok 200 rfl ?_)
 refine condD rfl (fun hlt => ?_) (fun hlt => ?_)
 ·have hlt : j < l.length := by omega
  obtain ⟨i, hi⟩ := getA_of hlt
  obtain ⟨b1, o1, hA1, hb1, hc1⟩ := (Sl0.no q).elI hi
  have hz := (Sl0.no q).2.1
  have e3 : w64 ((j : Int) + 1) = ((j + 1 : Nat) : Int) := w64_id (by omega) (by omega)
  obtain ⟨i0, i1⟩ := hl i (List.mem_of_getElem? hi)
  obtain ⟨es, hso⟩ := siteAt_ok hc i0 i1
  obtain ⟨b3, o3, hA3, hb3, hc3⟩ := Sl.el H1 siL_len es
  have etake : costP m.c (l.take (j + 1)) = costP m.c (l.take j) + (siteAt m.c i).cost := by
   rw [← costP_snoc]; congr 1
   rw [List.take_add_one, hi]; rfl
  have hbd := costP_bd hc (l := l.take (j + 1)) (fun x hx => hl x (List.mem_of_mem_take hx))
  rw [List.length_take] at hbd
  refine go T_ok 200 rfl ?_
  refine draw mixed (fun w' => Chg No w w') ([0,1,2,3,4,5,6,7,8,9,10,11].map (fun i => (i, true))) rfl (by kernel_rfl) (Chg.drew _) ?_
  refine goH T_ok 200 rfl ?_
  refine quietH rfl (fun w' hS => r_load T_ok rfl rfl rfl (Bk.get (B2.no hS) rfl)) ?_
  refine goH T_ok 200 rfl ?_
  rw [hA1]
  refine quietH rfl (fun w' hS => r_idx T_ok rfl rfl rfl rfl j rfl hlt) ?_
  refine goH T_ok 200 rfl ?_
  refine quietH rfl (fun w' hS => r_load T_ok rfl rfl rfl ((hS.cell (a := ⟨b1, o1 + j * 1, none⟩) (by show b1 < _; omega) (fun h => h)).trans hc1)) ?_
  rw [← hA1]
  refine goH T_ok 200 rfl ?_
  rw [hA3]
  refine quietH rfl (fun w' hS => r_idx T_ok rfl rfl rfl rfl i.toNat (by omega) (by omega)) ?_
  refine goH T_ok 200 rfl ?_
  refine quietH rfl (fun w' hS => r_load T_ok rfl rfl rfl ((hS.cell (a := ⟨b3, o3 + i.toNat * 4 + 0, none⟩) hb3 (fun h => h)).trans (hc3.get (i := 0) rfl))) ?_
  rw [← hA3]
  refine goH T_ok 200 rfl ?_
  rw [w64_id (x := costP m.c (l.take j) + (siteAt m.c i).cost) (by omega) (by omega), ← etake]
  refine endH ?_
  have B2 := B2.no (Chg.drew w)
  have q := q.trans (Chg.drew w)
  refine go T_ok 200 rfl ?_
  rw [e3]
  exact round ⟨j + 1, rfl, ⟨by omega, q, B2⟩, by omega⟩
 ·obtain rfl : j = l.length := by omega
  rw [List.take_length]
  refine go T_ok 200 rfl ?_
  exact ret (ret1 (v := I _) Try.results67 rfl ⟨rfl, q⟩)
set_option maxRecDepth 20000 in
set_option maxHeartbeats 8000000 in
theorem rChoice_any (m : Cm) (l : List Int) (A : Option Addr) (c B : Nat) (w0 : World) (H : CpM w0 m) (hc : CpOk m.c) (Sl0 : Sl w0 B 1 A l.length (iL l)) (hl3 : l.length ≤ 1000) :
  Ret Try.prog 25 [.agg (cpL m).toArray, .slice A l.length c] w0 fun v w' => (∃ b, v = .bool b ∧ (b = true ↔ ChOk m.c l)) ∧ Chg No w0 w' := by
 have n1 := hc.n1
 refine enter Try.func25 rfl Try.ntmps25 rfl ?_
 refine go T_ok 200 rfl ?_
 refine bx rfl rfl rfl (cs := cpL m) rfl ?_
 intro g2 u2 hg2 hs2 q2 B2
 have q := q2
 refine go T_ok 200 rfl ?_
 repeat ((first | refine ldA T_ok rfl rfl rfl rfl rfl (Bk.all B2) ?_ | refine ld T_ok rfl rfl rfl rfl (Bk.get B2 rfl) ?_ | refine gT rfl rfl rfl rfl ?_ | refine gF rfl rfl rfl rfl ?_ | refine condT rfl rfl ?_ | refine condF rfl rfl ?_); refine go T_ok 200 rfl ?_)
 refine call rfl rfl rfl (ok _ (by decide) rfl) (rIn_any (l.length : Int) 1 3 _) ?_
 rintro x w ⟨rfl, rfl⟩
 by_cases h1 : 1 ≤ (l.length : Int) ∧ (l.length : Int) ≤ 3
 case neg =>
  rw [decide_eq_false h1]
  refine go T_ok 200 rfl ?_
  repeat ((first | refine ldA T_ok rfl rfl rfl rfl rfl (Bk.all B2) ?_ | refine ld T_ok rfl rfl rfl rfl (Bk.get B2 rfl) ?_ | refine gT rfl rfl rfl rfl ?_ | refine gF rfl rfl rfl rfl ?_ | refine condT rfl rfl ?_ | refine condF rfl rfl ?_); refine go T_ok 200 rfl ?_)
  exact ret (ret1 (v := .bool false) Try.results25 rfl ⟨⟨false, rfl, by simp; exact fun h => h1 ⟨by have := h.n0; omega, by have := h.n1; omega⟩⟩, q⟩)
 rw [decide_eq_true h1]
 refine go T_ok 200 rfl ?_
 repeat ((first | refine ldA T_ok rfl rfl rfl rfl rfl (Bk.all B2) ?_ | refine ld T_ok rfl rfl rfl rfl (Bk.get B2 rfl) ?_ | refine gT rfl rfl rfl rfl ?_ | refine gF rfl rfl rfl rfl ?_ | refine condT rfl rfl ?_ | refine condF rfl rfl ?_); refine go T_ok 200 rfl ?_)
 refine loop [1, 2, 5] (fun j : Nat => [.slice A l.length c, .pointer (some ⟨g2, 0, none⟩), .int .i64 (j : Int)])
  (fun j w' => j ≤ l.length ∧ Chg No w0 w' ∧ Bk w' g2 63 (cpL m) ∧ (∀ (k : Nat) x, k < j → l[k]? = some x → 0 ≤ x ∧ x < (m.c.sites.length : Int)) ∧ ∀ (k : Nat), k + 1 < j → ∀ a ∈ l[k]?, ∀ b ∈ l[k + 1]?, a < b) (fun j => l.length - j) 0 (fun _ => rfl) rfl ⟨Nat.zero_le _, q, B2, fun k s h => absurd h (Nat.not_lt_zero _), fun k h => absurd h (Nat.not_lt_zero _)⟩ ?_
 rintro j τ w ⟨hj, q, B2, hm, hu⟩
 have H1 := H.no q
 refine go T_ok 200 rfl ?_
 repeat ((first | refine ldA T_ok rfl rfl rfl rfl rfl (Bk.all B2) ?_ | refine ld T_ok rfl rfl rfl rfl (Bk.get B2 rfl) ?_ | refine gT rfl rfl rfl rfl ?_ | refine gF rfl rfl rfl rfl ?_ | refine condT rfl rfl ?_ | refine condF rfl rfl ?_); refine go T_ok 200 rfl ?_)
 refine condD rfl (fun hlt => ?_) (fun hlt => ?_)
 ·have hlt : j < l.length := by omega
  obtain ⟨i, hi⟩ := getA_of hlt
  obtain ⟨b1, o1, hA1, hb1, hc1⟩ := (Sl0.no q).elI hi
  have hz := (Sl0.no q).2.1
  have e3 : w64 ((j : Int) + 1) = ((j + 1 : Nat) : Int) := w64_id (by omega) (by omega)
  refine go T_ok 200 rfl ?_
  refine draw mixed (fun w' => Chg No w w') ([0,1,2,3,4,5,6,7].map (fun i => (i, true)) ++ [(8, false)] ++ [9,10,11,12,13,14,15,16,17,18,19,20,21,22,23,24,25].map (fun i => (i, true))) rfl (by kernel_rfl) (Chg.drew _) ?_
  refine goH T_ok 200 rfl ?_
  rw [hA1]
  refine quietH rfl (fun w' hS => r_idx T_ok rfl rfl rfl rfl j rfl hlt) ?_
  refine goH T_ok 200 rfl ?_
  refine quietH rfl (fun w' hS => r_load T_ok rfl rfl rfl ((hS.cell (a := ⟨b1, o1 + j * 1, none⟩) (by show b1 < _; omega) (fun h => h)).trans hc1)) ?_
  rw [← hA1]
  refine goH T_ok 200 rfl ?_
  refine quietH rfl (fun w' hS => r_load T_ok rfl rfl rfl (Bk.get (B2.no hS) rfl)) ?_
  refine goH T_ok 200 rfl ?_
  rw [w64_id (x := (m.c.sites.length : Int) - 1) (by omega) (by omega)]
  have qd := Chg.drew w
  refine callE rfl rfl rfl (ok _ (by decide) rfl) (rIn_any i 0 ((m.c.sites.length : Int) - 1) _) ?_
  rintro x w1 ⟨rfl, rfl⟩
  refine ⟨qd, ?_⟩
  by_cases g1 : 0 ≤ i ∧ i ≤ (m.c.sites.length : Int) - 1
  case neg =>
   rw [decide_eq_false g1]
   refine goH T_ok 200 rfl ?_
   repeat (first | (refine gTH rfl rfl rfl rfl ?_; refine goH T_ok 200 rfl ?_) | (refine gFH rfl rfl rfl rfl ?_; refine goH T_ok 200 rfl ?_))
   refine endH ?_
   have B2 := B2.no qd
   have q := q.trans qd
   refine go T_ok 200 rfl ?_
   repeat ((first | refine ldA T_ok rfl rfl rfl rfl rfl (Bk.all B2) ?_ | refine ld T_ok rfl rfl rfl rfl (Bk.get B2 rfl) ?_ | refine gT rfl rfl rfl rfl ?_ | refine gF rfl rfl rfl rfl ?_ | refine condT rfl rfl ?_ | refine condF rfl rfl ?_); refine go T_ok 200 rfl ?_)
   exact ret (ret1 (v := .bool false) Try.results25 rfl ⟨⟨false, rfl, by simp; exact fun h => g1 (by have := h.s i (List.mem_of_getElem? hi); omega)⟩, q⟩)
  rw [decide_eq_true g1]
  refine goH T_ok 200 rfl ?_
  repeat (first | (refine gTH rfl rfl rfl rfl ?_; refine goH T_ok 200 rfl ?_) | (refine gFH rfl rfl rfl rfl ?_; refine goH T_ok 200 rfl ?_))
  by_cases g2 : 0 < (j : Int)
  case neg =>
   rw [decide_eq_false g2]
   refine goH T_ok 200 rfl ?_
   repeat (first | (refine gTH rfl rfl rfl rfl ?_; refine goH T_ok 200 rfl ?_) | (refine gFH rfl rfl rfl rfl ?_; refine goH T_ok 200 rfl ?_))
   refine endH ?_
   have B2 := B2.no qd
   have q := q.trans qd
   refine go T_ok 200 rfl ?_
   repeat ((first | refine ldA T_ok rfl rfl rfl rfl rfl (Bk.all B2) ?_ | refine ld T_ok rfl rfl rfl rfl (Bk.get B2 rfl) ?_ | refine gT rfl rfl rfl rfl ?_ | refine gF rfl rfl rfl rfl ?_ | refine condT rfl rfl ?_ | refine condF rfl rfl ?_); refine go T_ok 200 rfl ?_)
   rw [e3]
   refine round ⟨j + 1, rfl, ⟨by omega, q, B2, fun k x hk hx => ?_, fun k hk => absurd hk (by omega)⟩, by omega⟩
   obtain rfl : k = j := by omega
   rw [hi] at hx; cases hx
   omega
  rw [decide_eq_true g2]
  refine goH T_ok 200 rfl ?_
  repeat (first | (refine gTH rfl rfl rfl rfl ?_; refine goH T_ok 200 rfl ?_) | (refine gFH rfl rfl rfl rfl ?_; refine goH T_ok 200 rfl ?_))
  obtain ⟨p, rfl⟩ : ∃ p, j = p + 1 := ⟨j - 1, by omega⟩
  obtain ⟨i', hi'⟩ := getA_of (l := l) (i := p) (by omega)
  obtain ⟨b3, o3, hA3, hb3, hc3⟩ := (Sl0.no q).elI hi'
  rw [hA1]
  refine quietH rfl (fun w' hS => r_idx T_ok rfl rfl rfl rfl (p + 1) rfl hlt) ?_
  refine goH T_ok 200 rfl ?_
  repeat (first | (refine gTH rfl rfl rfl rfl ?_; refine goH T_ok 200 rfl ?_) | (refine gFH rfl rfl rfl rfl ?_; refine goH T_ok 200 rfl ?_))
  refine quietH rfl (fun w' hS => r_load T_ok rfl rfl rfl ((hS.cell (a := ⟨b1, o1 + (p + 1) * 1, none⟩) (by show b1 < _; omega) (fun h => h)).trans hc1)) ?_
  rw [← hA1]
  refine goH T_ok 200 rfl ?_
  repeat (first | (refine gTH rfl rfl rfl rfl ?_; refine goH T_ok 200 rfl ?_) | (refine gFH rfl rfl rfl rfl ?_; refine goH T_ok 200 rfl ?_))
  rw [w64_id (x := ((p + 1 : Nat) : Int) - 1) (by omega) (by omega), hA3]
  refine quietH rfl (fun w' hS => r_idx T_ok rfl rfl rfl rfl p (by omega) (by omega)) ?_
  refine goH T_ok 200 rfl ?_
  repeat (first | (refine gTH rfl rfl rfl rfl ?_; refine goH T_ok 200 rfl ?_) | (refine gFH rfl rfl rfl rfl ?_; refine goH T_ok 200 rfl ?_))
  refine quietH rfl (fun w' hS => r_load T_ok rfl rfl rfl ((hS.cell (a := ⟨b3, o3 + p * 1, none⟩) (by show b3 < _; omega) (fun h => h)).trans hc3)) ?_
  rw [← hA3]
  refine goH T_ok 200 rfl ?_
  repeat (first | (refine gTH rfl rfl rfl rfl ?_; refine goH T_ok 200 rfl ?_) | (refine gFH rfl rfl rfl rfl ?_; refine goH T_ok 200 rfl ?_))
  by_cases g3 : i ≤ i'
  case pos =>
   rw [decide_eq_true g3]
   refine goH T_ok 200 rfl ?_
   repeat (first | (refine gTH rfl rfl rfl rfl ?_; refine goH T_ok 200 rfl ?_) | (refine gFH rfl rfl rfl rfl ?_; refine goH T_ok 200 rfl ?_))
   refine endH ?_
   have B2 := B2.no qd
   have q := q.trans qd
   refine go T_ok 200 rfl ?_
   repeat ((first | refine ldA T_ok rfl rfl rfl rfl rfl (Bk.all B2) ?_ | refine ld T_ok rfl rfl rfl rfl (Bk.get B2 rfl) ?_ | refine gT rfl rfl rfl rfl ?_ | refine gF rfl rfl rfl rfl ?_ | refine condT rfl rfl ?_ | refine condF rfl rfl ?_); refine go T_ok 200 rfl ?_)
   exact ret (ret1 (v := .bool false) Try.results25 rfl ⟨⟨false, rfl, by simp; exact fun h => absurd (h.up p i' hi' i hi) (by omega)⟩, q⟩)
  rw [decide_eq_false g3]
  refine goH T_ok 200 rfl ?_
  repeat (first | (refine gTH rfl rfl rfl rfl ?_; refine goH T_ok 200 rfl ?_) | (refine gFH rfl rfl rfl rfl ?_; refine goH T_ok 200 rfl ?_))
  refine endH ?_
  have B2 := B2.no qd
  have q := q.trans qd
  refine go T_ok 200 rfl ?_
  repeat ((first | refine ldA T_ok rfl rfl rfl rfl rfl (Bk.all B2) ?_ | refine ld T_ok rfl rfl rfl rfl (Bk.get B2 rfl) ?_ | refine gT rfl rfl rfl rfl ?_ | refine gF rfl rfl rfl rfl ?_ | refine condT rfl rfl ?_ | refine condF rfl rfl ?_); refine go T_ok 200 rfl ?_)
  rw [e3]
  refine round ⟨p + 1 + 1, rfl, ⟨by omega, q, B2, fun k x hk hx => ?_, fun k hk a ha b hb => ?_⟩, by omega⟩
  ·rcases Nat.lt_or_ge k (p + 1) with h' | h'
   ·exact hm k x h' hx
   ·obtain rfl : k = p + 1 := by omega
    rw [hi] at hx; cases hx
    omega
  ·rcases Nat.lt_or_ge (k + 1) (p + 1) with h' | h'
   ·exact hu k h' a ha b hb
   ·obtain rfl : k = p := by omega
    rw [hi] at hb; cases hb
    rw [hi'] at ha; cases ha
    omega
 obtain rfl : j = l.length := by omega
 have hs : Sites m.c l := fun x hx => by obtain ⟨k, hk⟩ := List.getElem?_of_mem hx; exact hm k x (List.getElem?_eq_some_iff.1 hk).1 hk
 refine go T_ok 200 rfl ?_
 refine draw mixed (fun w' => Chg No w w') ([0,1,3,4].map (fun i => (i, true)) ++ [(2, false)] ++ [5,6].map (fun i => (i, true))) rfl (by kernel_rfl) (Chg.drew _) ?_
 refine goH T_ok 200 rfl ?_
 refine quietH rfl (fun w' hS => r_loadA T_ok rfl rfl rfl rfl (B2.no hS).all) ?_
 refine goH T_ok 200 rfl ?_
 refine quietH rfl (fun w' hS => r_load T_ok rfl rfl rfl (Bk.get (B2.no hS) rfl)) ?_
 refine goH T_ok 200 rfl ?_
 have qd := Chg.drew w
 refine callE rfl rfl rfl (ok _ (by decide) rfl) (rCost_any m l A c B _ (H.no (q.trans qd)) hc (Sl0.no (q.trans qd)) hs (by omega)) ?_
 rintro x w1 ⟨rfl, qk⟩
 refine ⟨qd.trans qk, ?_⟩
 refine goH T_ok 200 rfl ?_
 refine endH ?_
 have q := (q.trans qd).trans qk
 refine go T_ok 200 rfl ?_
 by_cases g4 : costP m.c l ≤ m.c.budget
 ·rw [decide_eq_true g4]
  exact ret (ret1 (v := .bool true) Try.results25 rfl ⟨⟨true, rfl, by simp; exact ⟨hs, fun k a ha b hb => hu k (by have := (List.getElem?_eq_some_iff.1 hb).1; omega) a ha b hb, by omega, by omega, g4⟩⟩, q⟩)
 ·rw [decide_eq_false g4]
  exact ret (ret1 (v := .bool false) Try.results25 rfl ⟨⟨false, rfl, by simp; exact fun h => g4 h.b⟩, q⟩)
end Go.Proofs.Ytolhfimknimliaa.K
namespace Go.Proofs.Ytolhfimknimliaa.K
open Go.Ev Go.Proofs
open Go.Camp (Cp CpOk ChOk Site SiteOk Sites costP siteAt SlOk)
attribute [local irreducible] At AtH
set_option maxHeartbeats 4000000 in
theorem rLong_any (m : Cm) (s : Nat) (w0 : World) (hc : CpOk m.c) (hs : s ≤ 1000) : Ret Try.prog 23 [.agg (cpL m).toArray, I (s : Int)] w0 fun v w' => (∃ b, v = .bool b ∧ (b = false ↔ SlOk m.c s)) ∧ Chg No w0 w' := by
 have hp := hc.p0; have hp1 := hc.p1
 refine enter Try.func23 rfl Try.ntmps23 rfl ?_
 refine go T_ok 200 rfl ?_
 refine bx rfl rfl rfl (cs := cpL m) rfl ?_
 intro g2 u2 hg2 hs2 q2 B2
 have q := q2
 refine go T_ok 200 rfl ?_
 repeat ((first | refine ldA T_ok rfl rfl rfl rfl rfl (Bk.all B2) ?_ | refine ld T_ok rfl rfl rfl rfl (Bk.get B2 rfl) ?_ | refine gT rfl rfl rfl rfl ?_ | refine gF rfl rfl rfl rfl ?_ | refine condT rfl rfl ?_ | refine condF rfl rfl ?_); refine go T_ok 200 rfl ?_)
 by_cases h1 : 12 < (s : Int)
 ·rw [decide_eq_true h1]
  refine go T_ok 200 rfl ?_
  repeat ((first | refine ldA T_ok rfl rfl rfl rfl rfl (Bk.all B2) ?_ | refine ld T_ok rfl rfl rfl rfl (Bk.get B2 rfl) ?_ | refine gT rfl rfl rfl rfl ?_ | refine gF rfl rfl rfl rfl ?_ | refine condT rfl rfl ?_ | refine condF rfl rfl ?_); refine go T_ok 200 rfl ?_)
  exact ret (ret1 (v := .bool true) Try.results23 rfl ⟨⟨true, rfl, by simp; exact fun h => by have := h.n; omega⟩, q⟩)
 rw [decide_eq_false h1]
 refine go T_ok 200 rfl ?_
 repeat ((first | refine ldA T_ok rfl rfl rfl rfl rfl (Bk.all B2) ?_ | refine ld T_ok rfl rfl rfl rfl (Bk.get B2 rfl) ?_ | refine gT rfl rfl rfl rfl ?_ | refine gF rfl rfl rfl rfl ?_ | refine condT rfl rfl ?_ | refine condF rfl rfl ?_); refine go T_ok 200 rfl ?_)
 refine loop [1, 2, 5, 6] (fun i : Nat => [I (s : Int), .pointer (some ⟨g2, 0, none⟩), I (m.c.parts ^ i), .int .i64 (i : Int)]) (fun i w' => Chg No w0 w' ∧ Bk w' g2 63 (cpL m) ∧ i ≤ 3 * s ∧ m.c.parts ^ i ≤ 1152921504606846976) (fun i => 3 * s - i) 0 (fun _ => rfl) (by rw [Int.pow_zero]; rfl) ⟨q, B2, by omega, by rw [Int.pow_zero]; decide⟩ ?_
 rintro i τ w ⟨q, B2, hi, hb⟩
 refine go T_ok 200 rfl ?_
 repeat ((first | refine ldA T_ok rfl rfl rfl rfl rfl (Bk.all B2) ?_ | refine ld T_ok rfl rfl rfl rfl (Bk.get B2 rfl) ?_ | refine gT rfl rfl rfl rfl ?_ | refine gF rfl rfl rfl rfl ?_ | refine condT rfl rfl ?_ | refine condF rfl rfl ?_); refine go T_ok 200 rfl ?_)
 rw [w64_id (x := 3 * (s : Int)) (by omega) (by omega)]
 refine condD rfl (fun hlt => ?_) (fun hlt => ?_)
 ·have h2 := pow_pos' (D := m.c.parts) (by omega) i
  have h3 : m.c.parts ^ i * m.c.parts = m.c.parts ^ (i + 1) := (Int.pow_succ _ _).symm
  have h4 : m.c.parts ^ i ≤ 1152921504606846976 / m.c.parts ↔ m.c.parts ^ (i + 1) ≤ 1152921504606846976 := by
   rw [Int.le_ediv_iff_mul_le (by omega), h3]
  have h5 := pow_pos' (D := m.c.parts) (by omega) (i + 1)
  refine go T_ok 200 rfl ?_
  repeat ((first | refine ldA T_ok rfl rfl rfl rfl rfl (Bk.all B2) ?_ | refine ld T_ok rfl rfl rfl rfl (Bk.get B2 rfl) ?_ | refine gT rfl rfl rfl rfl ?_ | refine gF rfl rfl rfl rfl ?_ | refine condT rfl rfl ?_ | refine condF rfl rfl ?_); refine go T_ok 200 rfl ?_)
  refine quoN rfl rfl rfl rfl (by decide) (by decide) (by omega) ?_
  refine go T_ok 200 rfl ?_
  repeat ((first | refine ldA T_ok rfl rfl rfl rfl rfl (Bk.all B2) ?_ | refine ld T_ok rfl rfl rfl rfl (Bk.get B2 rfl) ?_ | refine gT rfl rfl rfl rfl ?_ | refine gF rfl rfl rfl rfl ?_ | refine condT rfl rfl ?_ | refine condF rfl rfl ?_); refine go T_ok 200 rfl ?_)
  by_cases h6 : 1152921504606846976 / m.c.parts < m.c.parts ^ i
  ·rw [decide_eq_true h6]
   refine go T_ok 200 rfl ?_
   repeat ((first | refine ldA T_ok rfl rfl rfl rfl rfl (Bk.all B2) ?_ | refine ld T_ok rfl rfl rfl rfl (Bk.get B2 rfl) ?_ | refine gT rfl rfl rfl rfl ?_ | refine gF rfl rfl rfl rfl ?_ | refine condT rfl rfl ?_ | refine condF rfl rfl ?_); refine go T_ok 200 rfl ?_)
   have hno : ¬ SlOk m.c s := fun h => by
    have := pow_mono' (D := m.c.parts) (by omega) (show i + 1 ≤ 3 * s by omega)
    have := h.w
    omega
   exact ret (ret1 (v := .bool true) Try.results23 rfl ⟨⟨true, rfl, by simp; exact hno⟩, q⟩)
  rw [decide_eq_false h6]
  refine go T_ok 200 rfl ?_
  repeat ((first | refine ldA T_ok rfl rfl rfl rfl rfl (Bk.all B2) ?_ | refine ld T_ok rfl rfl rfl rfl (Bk.get B2 rfl) ?_ | refine gT rfl rfl rfl rfl ?_ | refine gF rfl rfl rfl rfl ?_ | refine condT rfl rfl ?_ | refine condF rfl rfl ?_); refine go T_ok 200 rfl ?_)
  rw [h3, w64_id (x := m.c.parts ^ (i + 1)) (by omega) (by omega), w64_id (x := (i : Int) + 1) (by omega) (by omega)]
  exact round ⟨i + 1, rfl, ⟨q, B2, by omega, by omega⟩, by omega⟩
 ·obtain rfl : i = 3 * s := by omega
  refine go T_ok 200 rfl ?_
  repeat ((first | refine ldA T_ok rfl rfl rfl rfl rfl (Bk.all B2) ?_ | refine ld T_ok rfl rfl rfl rfl (Bk.get B2 rfl) ?_ | refine gT rfl rfl rfl rfl ?_ | refine gF rfl rfl rfl rfl ?_ | refine condT rfl rfl ?_ | refine condF rfl rfl ?_); refine go T_ok 200 rfl ?_)
  exact ret (ret1 (v := .bool false) Try.results23 rfl ⟨⟨false, rfl, by simp; exact ⟨by omega, hb⟩⟩, q⟩)
/-- odds that are less than other ones -/
def lessP (a b : Int × Int) : Bool := if a.2 < b.2 then decide (a.1 * (b.2 / a.2) < b.1) else decide (a.1 < b.1 * (a.2 / b.2))
structure OdOk (a : Int × Int) : Prop where
 w0 : 0 ≤ a.1
 w1 : a.1 ≤ a.2
 a0 : 1 ≤ a.2
 a1 : a.2 ≤ 1152921504606846976
theorem od_mul {a b : Int × Int} (ha : OdOk a) (hb : OdOk b) : 0 ≤ a.1 * (b.2 / a.2) ∧ a.1 * (b.2 / a.2) ≤ b.2 := by
 have h1 := ha.w0; have h2 := ha.w1; have h3 := ha.a0; have h4 := hb.a0
 have hd : 0 ≤ b.2 / a.2 := Int.ediv_nonneg (by omega) (by omega)
 have h5 := Int.mul_le_mul_of_nonneg_right h2 hd
 have h6 := Int.mul_ediv_self_le (x := b.2) (k := a.2) (by omega)
 exact ⟨Int.mul_nonneg h1 hd, by omega⟩
def odL (a : Int × Int) : List Value := [I a.1, I a.2]
set_option maxHeartbeats 4000000 in
theorem rLess_any (a b : Int × Int) (w0 : World) (ha : OdOk a) (hb : OdOk b) : Ret Try.prog 27 [.agg (odL a).toArray, .agg (odL b).toArray] w0 fun v w' => v = .bool (lessP a b) ∧ Chg No w0 w' := by
 have h1 := od_mul ha hb; have h2 := od_mul hb ha
 have a1 := ha.a0; have a2 := ha.a1; have b1 := hb.a0; have b2 := hb.a1
 refine enter Try.func27 rfl Try.ntmps27 rfl ?_
 refine go T_ok 200 rfl ?_
 refine bx rfl rfl rfl (cs := odL a) rfl ?_
 intro g2 u2 hg2 hs2 q2 B2
 have q := q2
 refine go T_ok 200 rfl ?_
 refine bx rfl rfl rfl (cs := odL b) rfl ?_
 intro g3 w hg3 hs3 qk B3
 have B2 := B2.no qk
 have q := q.trans qk
 refine go T_ok 200 rfl ?_
 repeat ((first | refine ldA T_ok rfl rfl rfl rfl rfl (Bk.all B2) ?_ | refine ldA T_ok rfl rfl rfl rfl rfl (Bk.all B3) ?_ | refine ld T_ok rfl rfl rfl rfl (Bk.get B2 rfl) ?_ | refine ld T_ok rfl rfl rfl rfl (Bk.get B3 rfl) ?_ | refine gT rfl rfl rfl rfl ?_ | refine gF rfl rfl rfl rfl ?_ | refine condT rfl rfl ?_ | refine condF rfl rfl ?_); refine go T_ok 200 rfl ?_)
 by_cases hl : a.2 < b.2
 ·rw [decide_eq_true hl]
  refine go T_ok 200 rfl ?_
  repeat ((first | refine ldA T_ok rfl rfl rfl rfl rfl (Bk.all B2) ?_ | refine ldA T_ok rfl rfl rfl rfl rfl (Bk.all B3) ?_ | refine ld T_ok rfl rfl rfl rfl (Bk.get B2 rfl) ?_ | refine ld T_ok rfl rfl rfl rfl (Bk.get B3 rfl) ?_ | refine gT rfl rfl rfl rfl ?_ | refine gF rfl rfl rfl rfl ?_ | refine condT rfl rfl ?_ | refine condF rfl rfl ?_); refine go T_ok 200 rfl ?_)
  refine draw mixed (fun w' => Chg No w w') ([0,1,2,3,4,5,6,7,8,9,10,11].map (fun i => (i, true))) rfl (by kernel_rfl) (Chg.drew _) ?_
  refine goH T_ok 200 rfl ?_
  repeat (first | (refine quietH rfl (fun w' hS => r_load T_ok rfl rfl rfl (Bk.get (B2.no hS) rfl)) ?_; refine goH T_ok 200 rfl ?_) | (refine quietH rfl (fun w' hS => r_load T_ok rfl rfl rfl (Bk.get (B3.no hS) rfl)) ?_; refine goH T_ok 200 rfl ?_))
  refine quietH rfl (fun w' hS => r_quoN rfl rfl rfl (by omega) (by omega) (by omega)) ?_
  refine goH T_ok 200 rfl ?_
  repeat (first | (refine quietH rfl (fun w' hS => r_load T_ok rfl rfl rfl (Bk.get (B2.no hS) rfl)) ?_; refine goH T_ok 200 rfl ?_) | (refine quietH rfl (fun w' hS => r_load T_ok rfl rfl rfl (Bk.get (B3.no hS) rfl)) ?_; refine goH T_ok 200 rfl ?_))
  rw [w64_id (x := a.1 * (b.2 / a.2)) (by omega) (by omega)]
  refine endH ?_
  have q := q.trans (Chg.drew w)
  refine go T_ok 200 rfl ?_
  exact ret (ret1 (v := .bool _) Try.results27 rfl ⟨by unfold lessP; rw [if_pos hl], q⟩)
 ·rw [decide_eq_false hl]
  refine go T_ok 200 rfl ?_
  repeat ((first | refine ldA T_ok rfl rfl rfl rfl rfl (Bk.all B2) ?_ | refine ldA T_ok rfl rfl rfl rfl rfl (Bk.all B3) ?_ | refine ld T_ok rfl rfl rfl rfl (Bk.get B2 rfl) ?_ | refine ld T_ok rfl rfl rfl rfl (Bk.get B3 rfl) ?_ | refine gT rfl rfl rfl rfl ?_ | refine gF rfl rfl rfl rfl ?_ | refine condT rfl rfl ?_ | refine condF rfl rfl ?_); refine go T_ok 200 rfl ?_)
  refine draw mixed (fun w' => Chg No w w') ([0,1,2,3,4,5,6,7,8,9,10,11].map (fun i => (i, true))) rfl (by kernel_rfl) (Chg.drew _) ?_
  refine goH T_ok 200 rfl ?_
  repeat (first | (refine quietH rfl (fun w' hS => r_load T_ok rfl rfl rfl (Bk.get (B2.no hS) rfl)) ?_; refine goH T_ok 200 rfl ?_) | (refine quietH rfl (fun w' hS => r_load T_ok rfl rfl rfl (Bk.get (B3.no hS) rfl)) ?_; refine goH T_ok 200 rfl ?_))
  refine quietH rfl (fun w' hS => r_quoN rfl rfl rfl (by omega) (by omega) (by omega)) ?_
  refine goH T_ok 200 rfl ?_
  repeat (first | (refine quietH rfl (fun w' hS => r_load T_ok rfl rfl rfl (Bk.get (B2.no hS) rfl)) ?_; refine goH T_ok 200 rfl ?_) | (refine quietH rfl (fun w' hS => r_load T_ok rfl rfl rfl (Bk.get (B3.no hS) rfl)) ?_; refine goH T_ok 200 rfl ?_))
  rw [w64_id (x := b.1 * (a.2 / b.2)) (by omega) (by omega)]
  refine endH ?_
  have q := q.trans (Chg.drew w)
  refine go T_ok 200 rfl ?_
  exact ret (ret1 (v := .bool _) Try.results27 rfl ⟨by unfold lessP; rw [if_neg hl], q⟩)
end Go.Proofs.Ytolhfimknimliaa.K
namespace Go.Proofs.Ytolhfimknimliaa.K
open Go.Camp (Cp CpOk ChOk Site SiteOk Sites costP siteAt SlOk)
theorem mem_upTo {f : Nat → List (List Int)} {a : Nat} {x : List Int} : ∀ k, x ∈ upTo f a k ↔ ∃ j, j < k ∧ x ∈ f (a + j) := by
 intro k
 induction k with
 | zero => simp [upTo]
 | succ k ih =>
  simp only [upTo, List.mem_append, ih]
  constructor
  ·rintro (⟨j, hj, h⟩ | h)
   ·exact ⟨j, by omega, h⟩
   ·exact ⟨k, by omega, h⟩
  ·rintro ⟨j, hj, h⟩
   rcases Nat.lt_or_ge j k with h' | h'
   ·exact .inl ⟨j, h', h⟩
   ·obtain rfl : j = k := by omega
    exact .inr h
/-- numbers that go up, from a on and less than n -/
def Asc (n : Nat) : Nat → List Int → Prop
 | _, [] => True
 | a, i :: t => ∃ k : Nat, i = (k : Int) ∧ a ≤ k ∧ k < n ∧ Asc n (k + 1) t
theorem mem_moreL (c : Cp) : ∀ (f a : Nat) (now l : List Int), l ∈ moreL c f a now ↔ ∃ t, l = now ++ t ∧ 1 ≤ t.length ∧ t.length ≤ f ∧ Asc c.sites.length a t ∧ costP c l ≤ c.budget := by
 intro f
 induction f with
 | zero =>
  intro a now l
  simp only [moreL, List.not_mem_nil, false_iff]
  rintro ⟨t, _, h1, h2, _⟩
  omega
 | succ f ih =>
  intro a now l
  simp only [moreL, mem_upTo, itemP, List.mem_append, ih]
  constructor
  ·rintro ⟨j, hj, h | ⟨t, rfl, h1, h2, h3, h4⟩⟩
   ·split at h
    ·rename_i hb
     simp only [List.mem_singleton] at h
     subst h
     exact ⟨[((a + j : Nat) : Int)], rfl, by simp, by simp, ⟨a + j, rfl, by omega, by omega, trivial⟩, hb⟩
    ·simp at h
   ·exact ⟨((a + j : Nat) : Int) :: t, by simp, by simp, by simp; omega, ⟨a + j, rfl, by omega, by omega, h3⟩, h4⟩
  ·rintro ⟨t, rfl, h1, h2, h3, h4⟩
   cases t with
   | nil => simp at h1
   | cons i t =>
    obtain ⟨k, rfl, k1, k2, k3⟩ := h3
    refine ⟨k - a, by omega, ?_⟩
    rw [show a + (k - a) = k by omega]
    cases t with
    | nil => rw [if_pos h4]; exact .inl (by simp)
    | cons i' t => exact .inr ⟨i' :: t, by simp, by simp, by simp at h2 ⊢; omega, k3, h4⟩
theorem asc_iff (n : Nat) : ∀ (l : List Int) (a : Nat), Asc n a l ↔ (∀ i ∈ l, (a : Int) ≤ i ∧ i < n) ∧ ∀ i : Nat, ∀ x ∈ l[i]?, ∀ y ∈ l[i + 1]?, x < y := by
 intro l
 induction l with
 | nil => intro a; simp [Asc]
 | cons i t ih =>
  intro a
  simp only [Asc, ih]
  constructor
  ·rintro ⟨k, rfl, h1, h2, h3, h4⟩
   refine ⟨fun x hx => ?_, fun j => ?_⟩
   ·rcases List.mem_cons.1 hx with rfl | hx
    ·omega
    ·have := h3 x hx; omega
   ·cases j with
    | zero =>
     intro x hx y hy
     simp at hx hy
     subst hx
     have := h3 y (List.mem_of_getElem? hy)
     omega
    | succ j => simpa using h4 j
  ·rintro ⟨h1, h2⟩
   obtain ⟨b1, b2⟩ := h1 i (by simp)
   refine ⟨i.toNat, by omega, by omega, by omega, fun x hx => ?_, fun j => by simpa using h2 (j + 1)⟩
   refine ⟨?_, (h1 x (by simp [hx])).2⟩
   have key : ∀ (j : Nat) (x : Int), t[j]? = some x → i < x := by
    intro j
    induction j with
    | zero => intro x hx; exact h2 0 i (by simp) x (by simpa using hx)
    | succ j ihj =>
     intro x hx
     have hj : j < t.length := by have := (List.getElem?_eq_some_iff.1 hx).1; omega
     have e1 := ihj t[j] (List.getElem?_eq_getElem hj)
     have e2 := h2 (j + 1) t[j] (by simp [List.getElem?_eq_getElem hj]) x (by simpa using hx)
     omega
   obtain ⟨j, hj⟩ := List.getElem?_of_mem hx
   have := key j x hj
   omega
/-- the search comes to just the choices -/
theorem mem_all {c : Cp} {l : List Int} : l ∈ moreL c 3 0 [] ↔ ChOk c l := by
 rw [mem_moreL]
 constructor
 ·rintro ⟨t, e, h1, h2, h3, h4⟩
  rw [List.nil_append] at e
  subst e
  obtain ⟨h5, h6⟩ := (asc_iff _ _ _).1 h3
  exact ⟨fun i hi => by have := h5 i hi; omega, h6, h1, h2, h4⟩
 ·intro h
  exact ⟨l, rfl, h.n0, h.n1, (asc_iff _ _ _).2 ⟨fun i hi => by have := h.s i hi; omega, h.up⟩, h.b⟩
theorem bestOf_top (c : Cp) (s : Nat) (L : List (List Int)) : (bestOf c s L = none → L = []) ∧ ∀ b, bestOf c s L = some b → b ∈ L ∧ ∀ x ∈ L, valP c s x ≤ valP c s b ∧ (valP c s x = valP c s b → costP c b ≤ costP c x) := by
 have key : ∀ R : List (List Int), (bestOf c s R.reverse = none → R.reverse = []) ∧ ∀ b, bestOf c s R.reverse = some b → b ∈ R.reverse ∧ ∀ x ∈ R.reverse, valP c s x ≤ valP c s b ∧ (valP c s x = valP c s b → costP c b ≤ costP c x) := by
  intro R
  induction R with
  | nil => exact ⟨fun _ => rfl, fun b h => (by simp [bestOf] at h)⟩
  | cons l R ih =>
   simp only [List.reverse_cons, bestOf_snoc]
   obtain ⟨ih1, ih2⟩ := ih
   generalize bestOf c s R.reverse = B at *
   generalize R.reverse = M at *
   cases B with
   | none =>
    obtain rfl := ih1 rfl
    simp only [stepB]
    exact ⟨fun h => (by cases h), fun b hb => (by cases hb; simp)⟩
   | some d =>
    obtain ⟨h1, h2⟩ := ih2 d rfl
    simp only [stepB]
    split
    ·rename_i hw
     refine ⟨fun h => (by cases h), fun b hb => ?_⟩
     cases hb
     refine ⟨by simp, fun x hx => ?_⟩
     rcases List.mem_append.1 hx with hx | hx
     ·have := h2 x hx; omega
     ·simp at hx; subst hx; omega
    ·rename_i hw
     refine ⟨fun h => (by cases h), fun b hb => ?_⟩
     cases hb
     refine ⟨by simp [h1], fun x hx => ?_⟩
     rcases List.mem_append.1 hx with hx | hx
     ·exact h2 x hx
     ·simp at hx; subst hx; omega
 have := key L.reverse
 rwa [List.reverse_reverse] at this
theorem odds_od {c : Cp} (hc : CpOk c) {s : Nat} (hs : SlOk c s) (e : Bool) {l : List Int} (hl : LsOk c l) : OdOk (oddsP c s e l) := by
 obtain ⟨h1, h2, h3, h4⟩ := odds_bd hc hs e hl
 have := hs.w
 exact ⟨h1, h2, h3, by omega⟩
theorem ediv_pow {P : Int} (hP : 1 ≤ P) {i j : Nat} (h : i ≤ j) : P ^ j / P ^ i = P ^ (j - i) := by
 have e : P ^ j = P ^ (j - i) * P ^ i := by rw [← Int.pow_add]; congr 1; omega
 rw [e]
 exact Int.mul_ediv_cancel _ (by have := pow_pos' hP i; omega)
theorem val_pow {c : Cp} (hc : CpOk c) (s : Nat) {l : List Int} (hl : l.length ≤ 3) : valP c s l = (oddsP c s false l).1 * (c.parts ^ s) ^ (3 - l.length) := by
 have hp := hc.p0
 unfold valP
 congr 1
 show c.parts ^ (3 * s) / (c.parts ^ s) ^ l.length = _
 rw [show c.parts ^ (3 * s) = (c.parts ^ s) ^ 3 by rw [← Int.pow_mul]; congr 1; omega]
 exact ediv_pow (pow_pos' (by omega) s) hl
theorem mul_lt_iff {a b k : Int} (hk : 1 ≤ k) : a * k < b * k ↔ a < b := Int.mul_lt_mul_right (by omega)
/-- odds are held against each other as parts of the same weight -/
theorem less_val {c : Cp} (hc : CpOk c) {s : Nat} {a b : List Int} (ha : LsOk c a) (hb : LsOk c b) : lessP (oddsP c s false a) (oddsP c s false b) = decide (valP c s a < valP c s b) := by
 have hp := hc.p0
 have hP : 1 ≤ c.parts ^ s := pow_pos' (by omega) s
 obtain ⟨_, a1, a2⟩ := ha
 obtain ⟨_, b1, b2⟩ := hb
 rw [val_pow hc s a2, val_pow hc s b2]
 unfold lessP
 show (if (c.parts ^ s) ^ a.length < (c.parts ^ s) ^ b.length then decide ((oddsP c s false a).1 * ((c.parts ^ s) ^ b.length / (c.parts ^ s) ^ a.length) < (oddsP c s false b).1) else decide ((oddsP c s false a).1 < (oddsP c s false b).1 * ((c.parts ^ s) ^ a.length / (c.parts ^ s) ^ b.length))) = _
 generalize (oddsP c s false a).1 = x
 generalize (oddsP c s false b).1 = y
 generalize c.parts ^ s = P at *
 split
 ·rename_i h
  have hab : a.length ≤ b.length := Nat.le_of_not_lt fun h' => by have := pow_mono' hP (Nat.le_of_lt h'); omega
  rw [ediv_pow hP hab]
  congr 1
  rw [← mul_lt_iff (pow_pos' hP (3 - b.length)), Int.mul_assoc, ← Int.pow_add, show b.length - a.length + (3 - b.length) = 3 - a.length by omega]
 ·rename_i h
  rcases Nat.lt_or_ge a.length b.length with h' | h'
  ·have h1 := pow_mono' hP (Nat.le_of_lt h')
   have h2 : P = 1 := by
    have e1 : P ^ b.length = P ^ a.length * P ^ (b.length - a.length) := by rw [← Int.pow_add]; congr 1; omega
    have e2 := pow_mono' hP (show 1 ≤ b.length - a.length by omega)
    have e3 := pow_pos' hP a.length
    rw [Int.pow_one] at e2
    have e4 : P ^ a.length * P ≤ P ^ a.length * P ^ (b.length - a.length) := Int.mul_le_mul_of_nonneg_left e2 (by omega)
    have e5 : P ^ a.length * P ≤ P ^ a.length * 1 := by omega
    have e6 := Int.le_of_mul_le_mul_left e5 (by omega)
    omega
   subst h2
   have e1 : ∀ n : Nat, (1 : Int) ^ n = 1 := fun n => by
    induction n with
    | zero => rfl
    | succ n ih => rw [Int.pow_succ, ih]; rfl
   rw [e1, e1, e1, e1]
   simp
  ·rw [ediv_pow hP h']
   congr 1
   rw [← mul_lt_iff (a := x) (pow_pos' hP (3 - a.length)), Int.mul_assoc, ← Int.pow_add, show a.length - b.length + (3 - a.length) = 3 - b.length by omega]
theorem ls_ch {c : Cp} {l : List Int} (h : ChOk c l) : LsOk c l := ⟨h.s, h.n0, h.n1⟩
/-- the same campaign, with another budget -/
def richC (c : Cp) (b : Int) : Cp := ⟨c.parts, c.level, b, c.sites⟩
theorem rich_ok {c : Cp} (hc : CpOk c) {b : Int} (b0 : 0 ≤ b) (b1 : b ≤ 8000000) : CpOk (richC c b) := ⟨hc.p0, hc.p1, hc.v0, hc.v1, b0, b1, hc.n0, hc.n1, hc.s⟩
theorem rich_ch {c : Cp} {b : Int} (h : c.budget ≤ b) {l : List Int} (hl : ChOk c l) : ChOk (richC c b) l := ⟨hl.s, hl.up, hl.n0, hl.n1, by have e : costP (richC c b) l = costP c l := rfl; have := hl.b; show costP (richC c b) l ≤ b; omega⟩
end Go.Proofs.Ytolhfimknimliaa.K
namespace Go.Proofs.Ytolhfimknimliaa.K
open Go.Camp (Cp CpOk ChOk Site SiteOk Sites costP siteAt siteAt_ok SlOk)
theorem abv_alarm {c : Cp} (hc : CpOk c) (s : Nat) {i : Int} (i0 : 0 ≤ i) (i1 : i < c.sites.length) {lv : Int} (hlv : 0 ≤ lv) (e : Bool) (hr : rateP (siteAt c i) e ≤ (siteAt c i).lo) : lv * abvP c s (i, lv, e) ≤ c.parts ^ s := by
 have hx := (siteAt_ok hc i0 i1).2
 have hrb := rate_bd hx e
 have hp := hc.p0
 have e1 : ((c.parts.toNat : Nat) : Int) = c.parts := by omega
 have e2 : (((rateP (siteAt c i) e).toNat : Nat) : Int) = rateP (siteAt c i) e := by omega
 have hsure := Q.sure (D := (c.parts.toNat : Int)) (lv := lv) (k := ((rateP (siteAt c i) e).toNat : Int)) (by omega) (by omega) s
 rw [e1] at hsure
 refine Int.le_trans (Int.mul_le_mul_of_nonneg_left ?_ hlv) hsure
 show Q.tot s (fun b => Q.wv c.parts.toNat lv (rateP (siteAt c i) e) (siteAt c i).lo.toNat (siteAt c i).hi.toNat 3 b) ≤ _
 refine Q.tot_le fun x _ => ?_
 unfold Q.wv
 rw [e1, e2]
 by_cases hd : (Q.decS (Q.sts c.parts.toNat lv x) c.parts.toNat (siteAt c i).lo.toNat (siteAt c i).hi.toNat).1 = 3
 ·rw [if_pos hd]
  have := Q.dec_above hd (rateP (siteAt c i) e).toNat (by omega)
  have h2 : (Go.Cnt.bst c.parts lv (rateP (siteAt c i) e) x).out = true := by
   rw [← e1, ← e2]
   exact this
  rw [if_pos h2]
  exact Int.le_refl _
 ·rw [if_neg hd]
  split
  ·exact (Q.wtI_bd hrb.1 hrb.2 x).1
  ·exact Int.le_refl _
theorem abv_more {c : Cp} (hc : CpOk c) (s : Nat) {i : Int} (i0 : 0 ≤ i) (i1 : i < c.sites.length) {lv : Int} (hlv : 2 ≤ lv) (e : Bool) : c.parts * abvP c s (i, lv, e) ≤ abvP c (s + 1) (i, lv, e) := by
 have hx := (siteAt_ok hc i0 i1).2
 have hrb := rate_bd hx e
 have hp := hc.p0
 have x3 := hx.l0; have x4 := hx.lh; have x5 := hx.h1
 have e1 : ((c.parts.toNat : Nat) : Int) = c.parts := by omega
 show c.parts * Q.tot s (fun b => Q.wv c.parts.toNat lv (rateP (siteAt c i) e) (siteAt c i).lo.toNat (siteAt c i).hi.toNat 3 b) ≤ Q.tot (s + 1) (fun b => Q.wv c.parts.toNat lv (rateP (siteAt c i) e) (siteAt c i).lo.toNat (siteAt c i).hi.toNat 3 b)
 rw [Q.tot_succ, ← Q.tot_mul]
 refine Q.tot_le fun x _ => ?_
 have hn := fun b : Bool => Q.wv_nonneg (d := c.parts.toNat) (lv := lv) (k := rateP (siteAt c i) e) (lo := (siteAt c i).lo.toNat) (hi := (siteAt c i).hi.toNat) (v := 3) hrb.1 (by omega) (x ++ [b])
 have h0 := hn false
 have h1 := hn true
 by_cases hd : (Q.decS (Q.sts c.parts.toNat lv x) c.parts.toNat (siteAt c i).lo.toNat (siteAt c i).hi.toNat).1 = 3
 ·have st := fun b : Bool => Q.dec_stays hlv x [b] (lo := (siteAt c i).lo.toNat) (hi := (siteAt c i).hi.toNat) (D := c.parts.toNat) (by omega) (by omega) (by omega)
  unfold Q.wv
  rw [st false, st true, if_pos hd, if_pos hd, if_pos hd, Q.wtI_app, Q.wtI_app, e1]
  simp only [Bool.false_eq_true, if_false, if_true]
  rw [← Int.mul_add, Int.sub_add_cancel, Int.mul_comm]
  exact Int.le_refl _
 ·have : Q.wv c.parts.toNat lv (rateP (siteAt c i) e) (siteAt c i).lo.toNat (siteAt c i).hi.toNat 3 x = 0 := by unfold Q.wv; rw [if_neg hd]
  rw [this]
  omega
/-- all are silent: a bound for lists of sites -/
theorem sil_union {P lv : Int} (hP : 0 ≤ P) (a : Int → Int) : ∀ l : List Int, (∀ i ∈ l, 0 ≤ a i ∧ a i ≤ P ∧ lv * a i ≤ P) →
  (0 ≤ l.foldl (fun x i => x * (P - a i)) 1 ∧ l.foldl (fun x i => x * (P - a i)) 1 ≤ P ^ l.length) ∧ lv * (P ^ l.length - l.foldl (fun x i => x * (P - a i)) 1) ≤ l.length * P ^ l.length := by
 have key : ∀ l : List Int, (∀ i ∈ l.reverse, 0 ≤ a i ∧ a i ≤ P ∧ lv * a i ≤ P) →
  (0 ≤ l.reverse.foldl (fun x i => x * (P - a i)) 1 ∧ l.reverse.foldl (fun x i => x * (P - a i)) 1 ≤ P ^ l.reverse.length) ∧ lv * (P ^ l.reverse.length - l.reverse.foldl (fun x i => x * (P - a i)) 1) ≤ l.reverse.length * P ^ l.reverse.length := by
  intro l
  induction l with
  | nil => intro _; simp
  | cons i l ih =>
   intro h
   rw [List.reverse_cons] at h ⊢
   obtain ⟨⟨i1, i2⟩, i3⟩ := ih fun j hj => h j (List.mem_append_left _ hj)
   obtain ⟨a0, a1, a2⟩ := h i (by simp)
   rw [List.foldl_append, List.length_append]
   simp only [List.foldl_cons, List.foldl_nil, List.length_cons, List.length_nil, Nat.zero_add]
   generalize l.reverse.foldl (fun x i => x * (P - a i)) 1 = S at *
   generalize l.reverse.length = j at *
   have hPj : P ^ (j + 1) = P ^ j * P := Int.pow_succ _ _
   have hSP : S * P ≤ P ^ j * P := Int.mul_le_mul_of_nonneg_right i2 hP
   have hSA : S * (P - a i) ≤ S * P := Int.mul_le_mul_of_nonneg_left (by omega) i1
   have hS0 : 0 ≤ S * (P - a i) := Int.mul_nonneg i1 (by omega)
   refine ⟨⟨hS0, by omega⟩, ?_⟩
   have e1 : lv * (P ^ (j + 1) - S * (P - a i)) = lv * (P ^ j - S) * P + S * (lv * a i) := by
    rw [hPj]
    simp only [Int.mul_sub, Int.sub_mul]
    have h1 : lv * (P ^ j * P) = lv * P ^ j * P := (Int.mul_assoc _ _ _).symm
    have h2 : lv * (S * P) = lv * S * P := (Int.mul_assoc _ _ _).symm
    have h3 : lv * (S * a i) = S * (lv * a i) := Int.mul_left_comm _ _ _
    omega
   have e2 : lv * (P ^ j - S) * P ≤ (j : Int) * P ^ j * P := Int.mul_le_mul_of_nonneg_right i3 hP
   have e3 : S * (lv * a i) ≤ S * P := Int.mul_le_mul_of_nonneg_left a2 i1
   have e4 : (((j + 1 : Nat) : Nat) : Int) * P ^ (j + 1) = (j : Int) * P ^ j * P + P ^ j * P := by
    rw [hPj, Int.natCast_add, Int.add_mul, Int.mul_assoc]
    simp
   rw [e1, e4]
   omega
 intro l
 have := key l.reverse
 rw [List.reverse_reverse] at this
 exact this
theorem sil_more {P D : Int} (hD : 0 ≤ D) (a b : Int → Int) : ∀ l : List Int, (∀ i ∈ l, 0 ≤ a i ∧ a i ≤ P ∧ D * a i ≤ b i ∧ b i ≤ D * P) →
  0 ≤ l.foldl (fun x i => x * (P - a i)) 1 ∧ l.foldl (fun x i => x * (D * P - b i)) 1 ≤ D ^ l.length * l.foldl (fun x i => x * (P - a i)) 1 ∧ 0 ≤ l.foldl (fun x i => x * (D * P - b i)) 1 := by
 have key : ∀ l : List Int, (∀ i ∈ l.reverse, 0 ≤ a i ∧ a i ≤ P ∧ D * a i ≤ b i ∧ b i ≤ D * P) →
  0 ≤ l.reverse.foldl (fun x i => x * (P - a i)) 1 ∧ l.reverse.foldl (fun x i => x * (D * P - b i)) 1 ≤ D ^ l.reverse.length * l.reverse.foldl (fun x i => x * (P - a i)) 1 ∧ 0 ≤ l.reverse.foldl (fun x i => x * (D * P - b i)) 1 := by
  intro l
  induction l with
  | nil => intro _; simp
  | cons i l ih =>
   intro h
   rw [List.reverse_cons] at h ⊢
   obtain ⟨i1, i2, i3⟩ := ih fun j hj => h j (List.mem_append_left _ hj)
   obtain ⟨a0, a1, a2, a3⟩ := h i (by simp)
   rw [List.foldl_append, List.foldl_append, List.length_append]
   simp only [List.foldl_cons, List.foldl_nil, List.length_cons, List.length_nil, Nat.zero_add]
   generalize l.reverse.foldl (fun x i => x * (P - a i)) 1 = S at *
   generalize l.reverse.foldl (fun x i => x * (D * P - b i)) 1 = T at *
   generalize l.reverse.length = j at *
   have hDj : D ^ (j + 1) = D ^ j * D := Int.pow_succ _ _
   have h1 : 0 ≤ S * (P - a i) := Int.mul_nonneg i1 (by omega)
   have h2 : 0 ≤ T * (D * P - b i) := Int.mul_nonneg i3 (by omega)
   refine ⟨h1, ?_, h2⟩
   have h3 : D * P - b i ≤ D * (P - a i) := by rw [Int.mul_sub]; omega
   have h4 : 0 ≤ D * (P - a i) := Int.mul_nonneg hD (by omega)
   have h5 : T * (D * P - b i) ≤ T * (D * (P - a i)) := Int.mul_le_mul_of_nonneg_left h3 i3
   have h6 : T * (D * (P - a i)) ≤ D ^ j * S * (D * (P - a i)) := Int.mul_le_mul_of_nonneg_right i2 h4
   have h7 : D ^ (j + 1) * (S * (P - a i)) = D ^ j * S * (D * (P - a i)) := by
    rw [hDj, Int.mul_assoc, Int.mul_assoc]
    congr 1
    rw [Int.mul_left_comm]
   rw [h7]
   omega
 intro l
 have := key l.reverse
 rw [List.reverse_reverse] at this
 exact this
/-- without a chamber, a choice tells one seldom -/
theorem odds_alarm {c : Cp} (hc : CpOk c) (s : Nat) (e : Bool) {l : List Int} (hl : LsOk c l) (hr : ∀ i ∈ l, rateP (siteAt c i) e ≤ (siteAt c i).lo) : (oddsP c s e l).1 ≤ (oddsP c s e l).2 / c.level := by
 obtain ⟨hs, n1, n3⟩ := hl
 have hv := hc.v0
 have hp := hc.p0
 have hP : 0 ≤ c.parts ^ s := by have := pow_pos' (D := c.parts) (by omega) s; omega
 have hlv : 0 ≤ c.level * (l.length : Int) := Int.mul_nonneg (by omega) (by omega)
 obtain ⟨_, h3⟩ := sil_union hP (lv := c.level * (l.length : Int)) (fun i => abvP c s (i, c.level * (l.length : Int), e)) l fun i hi => by
  obtain ⟨i0, i1⟩ := hs i hi
  have hb := abvP_bd hc s i0 i1 (c.level * (l.length : Int)) e
  exact ⟨hb.1, hb.2, abv_alarm hc s i0 i1 hlv e (hr i hi)⟩
 rw [Int.le_ediv_iff_mul_le (by omega)]
 show ((c.parts ^ s) ^ l.length - silP c s (c.level * l.length) e l) * c.level ≤ (c.parts ^ s) ^ l.length
 unfold silP
 generalize l.foldl (fun x i => x * (c.parts ^ s - abvP c s (i, c.level * (l.length : Int), e))) 1 = S at *
 generalize (c.parts ^ s) ^ l.length = A at *
 have h4 : (l.length : Int) * ((A - S) * c.level) ≤ (l.length : Int) * A := by
  have e1 : c.level * (l.length : Int) * (A - S) = (l.length : Int) * ((A - S) * c.level) := by
   rw [Int.mul_comm c.level, Int.mul_assoc, Int.mul_comm c.level]
  omega
 exact Int.le_of_mul_le_mul_left h4 (by omega)
/-- one slot more never makes the power less -/
theorem odds_more {c : Cp} (hc : CpOk c) (s : Nat) (e : Bool) {l : List Int} (hl : LsOk c l) : (oddsP c s e l).1 * c.parts ^ l.length ≤ (oddsP c (s + 1) e l).1 ∧ (oddsP c (s + 1) e l).2 = (oddsP c s e l).2 * c.parts ^ l.length ∧ 1 ≤ (oddsP c s e l).2 := by
 obtain ⟨hs, n1, n3⟩ := hl
 have hv := hc.v0
 have hp := hc.p0
 have hP1 := pow_pos' (D := c.parts) (by omega) s
 have hlv : 2 ≤ c.level * (l.length : Int) := by
  have : c.level * 1 ≤ c.level * (l.length : Int) := Int.mul_le_mul_of_nonneg_left (by omega) (by omega)
  omega
 have hps : c.parts ^ (s + 1) = c.parts * c.parts ^ s := by rw [Int.pow_succ, Int.mul_comm]
 obtain ⟨h1, h2, h3⟩ := sil_more (P := c.parts ^ s) (D := c.parts) (by omega) (fun i => abvP c s (i, c.level * (l.length : Int), e)) (fun i => abvP c (s + 1) (i, c.level * (l.length : Int), e)) l fun i hi => by
  obtain ⟨i0, i1⟩ := hs i hi
  have hb := abvP_bd hc s i0 i1 (c.level * (l.length : Int)) e
  have hb2 := abvP_bd hc (s + 1) i0 i1 (c.level * (l.length : Int)) e
  rw [hps] at hb2
  exact ⟨hb.1, hb.2, abv_more hc s i0 i1 hlv e, hb2.2⟩
 have hall : (c.parts ^ (s + 1)) ^ l.length = (c.parts ^ s) ^ l.length * c.parts ^ l.length := by
  rw [← Int.pow_mul, ← Int.pow_mul, ← Int.pow_add, Nat.succ_mul]
 refine ⟨?_, hall, pow_pos' hP1 _⟩
 show ((c.parts ^ s) ^ l.length - silP c s (c.level * l.length) e l) * c.parts ^ l.length ≤ (c.parts ^ (s + 1)) ^ l.length - silP c (s + 1) (c.level * l.length) e l
 rw [hall]
 unfold silP
 rw [hps]
 generalize l.foldl (fun x i => x * (c.parts ^ s - abvP c s (i, c.level * (l.length : Int), e))) 1 = S at *
 generalize l.foldl (fun x i => x * (c.parts * c.parts ^ s - abvP c (s + 1) (i, c.level * (l.length : Int), e))) 1 = T at *
 rw [Int.sub_mul, Int.mul_comm S]
 omega
end Go.Proofs.Ytolhfimknimliaa.K
