/- The contracts of campaigns and choices in the specification. -/
import Derived.Test.YteenhfnamjbaiaaR2
namespace Go.Proofs.Yteenhfnamjbaiaa
open Go.Ev Go.Proofs
open Go.Camp (Cp CpOk ChOk Site SiteOk Sites costP siteAt siteAt_ok costP_bd costP_snoc SlOk)
attribute [local irreducible] At AtH
set_option maxRecDepth 20000 in
set_option maxHeartbeats 8000000 in
theorem rCampaign_any (m : Cm) (w0 : World) (H : CpM w0 m) (hn : m.c.sites.length ≤ 1000) : Ret Try.prog 18 [.agg (cpL m).toArray] w0 fun v w' => (∃ b, v = .bool b ∧ (b = true ↔ CpOk m.c)) ∧ Chg No w0 w' := by
 refine enter Try.func18 rfl Try.ntmps18 rfl ?_
 refine go T_ok 200 rfl ?_
 refine bx rfl rfl rfl (cs := cpL m) rfl ?_
 intro g1 u1 hg1 hs1 q1 B1
 have q := q1
 refine go T_ok 200 rfl ?_
 repeat ((first | refine ldA T_ok rfl rfl rfl rfl rfl (Bk.all B1) ?_ | refine ld T_ok rfl rfl rfl rfl (Bk.get B1 rfl) ?_ | refine gT rfl rfl rfl rfl ?_ | refine gF rfl rfl rfl rfl ?_ | refine condT rfl rfl ?_ | refine condF rfl rfl ?_); refine go T_ok 200 rfl ?_)
 refine call rfl rfl rfl (ok _ (by decide) rfl) (Q.Parts_any m.c.parts _) ?_
 rintro x w ⟨rfl, rfl⟩
 by_cases h1 : 2 ≤ m.c.parts ∧ m.c.parts ≤ 1000
 case neg =>
  rw [show Go.Cnt.inB m.c.parts 2 1000 = false from (Go.Cnt.inB_false _ _ _).2 h1]
  refine go T_ok 200 rfl ?_
  repeat ((first | refine ldA T_ok rfl rfl rfl rfl rfl (Bk.all B1) ?_ | refine ld T_ok rfl rfl rfl rfl (Bk.get B1 rfl) ?_ | refine gT rfl rfl rfl rfl ?_ | refine gF rfl rfl rfl rfl ?_ | refine condT rfl rfl ?_ | refine condF rfl rfl ?_); refine go T_ok 200 rfl ?_)
  exact ret (ret1 (v := .bool false) Try.results18 rfl ⟨⟨false, rfl, by simp; exact fun h => h1 ⟨h.p0, h.p1⟩⟩, q⟩)
 rw [show Go.Cnt.inB m.c.parts 2 1000 = true from (Go.Cnt.inB_iff _ _ _).2 h1]
 refine go T_ok 200 rfl ?_
 repeat ((first | refine ldA T_ok rfl rfl rfl rfl rfl (Bk.all B1) ?_ | refine ld T_ok rfl rfl rfl rfl (Bk.get B1 rfl) ?_ | refine gT rfl rfl rfl rfl ?_ | refine gF rfl rfl rfl rfl ?_ | refine condT rfl rfl ?_ | refine condF rfl rfl ?_); refine go T_ok 200 rfl ?_)
 refine call rfl rfl rfl (ok _ (by decide) rfl) (rIn_any m.c.level 2 300000 _) ?_
 rintro x w ⟨rfl, rfl⟩
 by_cases h2 : 2 ≤ m.c.level ∧ m.c.level ≤ 300000
 case neg =>
  rw [decide_eq_false h2]
  refine go T_ok 200 rfl ?_
  repeat ((first | refine ldA T_ok rfl rfl rfl rfl rfl (Bk.all B1) ?_ | refine ld T_ok rfl rfl rfl rfl (Bk.get B1 rfl) ?_ | refine gT rfl rfl rfl rfl ?_ | refine gF rfl rfl rfl rfl ?_ | refine condT rfl rfl ?_ | refine condF rfl rfl ?_); refine go T_ok 200 rfl ?_)
  exact ret (ret1 (v := .bool false) Try.results18 rfl ⟨⟨false, rfl, by simp; exact fun h => h2 ⟨h.v0, h.v1⟩⟩, q⟩)
 rw [decide_eq_true h2]
 refine go T_ok 200 rfl ?_
 repeat ((first | refine ldA T_ok rfl rfl rfl rfl rfl (Bk.all B1) ?_ | refine ld T_ok rfl rfl rfl rfl (Bk.get B1 rfl) ?_ | refine gT rfl rfl rfl rfl ?_ | refine gF rfl rfl rfl rfl ?_ | refine condT rfl rfl ?_ | refine condF rfl rfl ?_); refine go T_ok 200 rfl ?_)
 refine call rfl rfl rfl (ok _ (by decide) rfl) (rIn_any m.c.budget 0 8000000 _) ?_
 rintro x w ⟨rfl, rfl⟩
 by_cases h3 : 0 ≤ m.c.budget ∧ m.c.budget ≤ 8000000
 case neg =>
  rw [decide_eq_false h3]
  refine go T_ok 200 rfl ?_
  repeat ((first | refine ldA T_ok rfl rfl rfl rfl rfl (Bk.all B1) ?_ | refine ld T_ok rfl rfl rfl rfl (Bk.get B1 rfl) ?_ | refine gT rfl rfl rfl rfl ?_ | refine gF rfl rfl rfl rfl ?_ | refine condT rfl rfl ?_ | refine condF rfl rfl ?_); refine go T_ok 200 rfl ?_)
  exact ret (ret1 (v := .bool false) Try.results18 rfl ⟨⟨false, rfl, by simp; exact fun h => h3 ⟨h.b0, h.b1⟩⟩, q⟩)
 rw [decide_eq_true h3]
 refine go T_ok 200 rfl ?_
 repeat ((first | refine ldA T_ok rfl rfl rfl rfl rfl (Bk.all B1) ?_ | refine ld T_ok rfl rfl rfl rfl (Bk.get B1 rfl) ?_ | refine gT rfl rfl rfl rfl ?_ | refine gF rfl rfl rfl rfl ?_ | refine condT rfl rfl ?_ | refine condF rfl rfl ?_); refine go T_ok 200 rfl ?_)
 refine call rfl rfl rfl (ok _ (by decide) rfl) (rIn_any (m.c.sites.length : Int) 1 8 _) ?_
 rintro x w ⟨rfl, rfl⟩
 by_cases h4 : 1 ≤ (m.c.sites.length : Int) ∧ (m.c.sites.length : Int) ≤ 8
 case neg =>
  rw [decide_eq_false h4]
  refine go T_ok 200 rfl ?_
  repeat ((first | refine ldA T_ok rfl rfl rfl rfl rfl (Bk.all B1) ?_ | refine ld T_ok rfl rfl rfl rfl (Bk.get B1 rfl) ?_ | refine gT rfl rfl rfl rfl ?_ | refine gF rfl rfl rfl rfl ?_ | refine condT rfl rfl ?_ | refine condF rfl rfl ?_); refine go T_ok 200 rfl ?_)
  exact ret (ret1 (v := .bool false) Try.results18 rfl ⟨⟨false, rfl, by simp; exact fun h => h4 ⟨by have := h.n0; omega, by have := h.n1; omega⟩⟩, q⟩)
 rw [decide_eq_true h4]
 refine go T_ok 200 rfl ?_
 repeat ((first | refine ldA T_ok rfl rfl rfl rfl rfl (Bk.all B1) ?_ | refine ld T_ok rfl rfl rfl rfl (Bk.get B1 rfl) ?_ | refine gT rfl rfl rfl rfl ?_ | refine gF rfl rfl rfl rfl ?_ | refine condT rfl rfl ?_ | refine condF rfl rfl ?_); refine go T_ok 200 rfl ?_)
 refine loop [1, 3] (fun j : Nat => [.pointer (some ⟨g1, 0, none⟩), .int .i64 (j : Int)])
  (fun j w' => j ≤ m.c.sites.length ∧ Chg No w0 w' ∧ Bk w' g1 24 (cpL m) ∧ ∀ (k : Nat) s, k < j → m.c.sites[k]? = some s → SiteOk m.c.parts s) (fun j => m.c.sites.length - j) 0 (fun _ => rfl) rfl ⟨Nat.zero_le _, q, B1, fun k s h => absurd h (Nat.not_lt_zero _)⟩ ?_
 rintro j τ w ⟨hj, q, B1, hm⟩
 have H1 := H.no q
 refine go T_ok 200 rfl ?_
 repeat ((first | refine ldA T_ok rfl rfl rfl rfl rfl (Bk.all B1) ?_ | refine ld T_ok rfl rfl rfl rfl (Bk.get B1 rfl) ?_ | refine gT rfl rfl rfl rfl ?_ | refine gF rfl rfl rfl rfl ?_ | refine condT rfl rfl ?_ | refine condF rfl rfl ?_); refine go T_ok 200 rfl ?_)
 refine condD rfl (fun hlt => ?_) (fun hlt => ?_)
 ·have hlt : j < m.c.sites.length := by omega
  obtain ⟨s, hs⟩ := getA_of hlt
  have hsm := List.mem_of_getElem? hs
  obtain ⟨b1, o1, hA1, hb1, hc1⟩ := Sl.el H1 siL_len hs
  have e3 : w64 ((j : Int) + 1) = ((j + 1 : Nat) : Int) := w64_id (by omega) (by omega)
  refine go T_ok 200 rfl ?_
  repeat ((first | refine ldA T_ok rfl rfl rfl rfl rfl (Bk.all B1) ?_ | refine ld T_ok rfl rfl rfl rfl (Bk.get B1 rfl) ?_ | refine gT rfl rfl rfl rfl ?_ | refine gF rfl rfl rfl rfl ?_ | refine condT rfl rfl ?_ | refine condF rfl rfl ?_); refine go T_ok 200 rfl ?_)
  rw [hA1]
  refine idx T_ok rfl rfl rfl rfl rfl j rfl hlt ?_
  refine go T_ok 200 rfl ?_
  refine ldA T_ok rfl rfl rfl rfl rfl hc1 ?_
  refine go T_ok 200 rfl ?_
  rw [← hA1]
  have yB1 := B1.lt
  have yq := q.size
  refine nw rfl rfl (z := .agg #[I 0, I 0, I 0, I 0]) (by kernel_rfl) (cs := [I 0, I 0, I 0, I 0]) rfl ?_
  intro g4 w hg4 hs4 qk B4
  have B1 := B1.no qk
  have q := q.trans qk
  refine go T_ok 200 rfl ?_
  refine stA T_ok rfl rfl rfl rfl (vs := siL s) rfl rfl rfl B4 rfl ?_
  intro w qk B4 hz4
  have B4 : Bk w g4 65 (siL s) := B4
  have B1 := Bk.keep B1 qk (by omega)
  have q := q.step qk (fun k hk e => by omega)
  refine go T_ok 200 rfl ?_
  repeat ((first | refine ldA T_ok rfl rfl rfl rfl rfl (Bk.all B1) ?_ | refine ldA T_ok rfl rfl rfl rfl rfl (Bk.all B4) ?_ | refine ld T_ok rfl rfl rfl rfl (Bk.get B1 rfl) ?_ | refine ld T_ok rfl rfl rfl rfl (Bk.get B4 rfl) ?_ | refine gT rfl rfl rfl rfl ?_ | refine gF rfl rfl rfl rfl ?_ | refine condT rfl rfl ?_ | refine condF rfl rfl ?_); refine go T_ok 200 rfl ?_)
  refine call rfl rfl rfl (ok _ (by decide) rfl) (rIn_any s.cost 0 1000000 _) ?_
  rintro x w ⟨rfl, rfl⟩
  by_cases k1 : 0 ≤ s.cost ∧ s.cost ≤ 1000000
  case neg =>
   rw [decide_eq_false k1]
   refine go T_ok 200 rfl ?_
   repeat ((first | refine ldA T_ok rfl rfl rfl rfl rfl (Bk.all B1) ?_ | refine ldA T_ok rfl rfl rfl rfl rfl (Bk.all B4) ?_ | refine ld T_ok rfl rfl rfl rfl (Bk.get B1 rfl) ?_ | refine ld T_ok rfl rfl rfl rfl (Bk.get B4 rfl) ?_ | refine gT rfl rfl rfl rfl ?_ | refine gF rfl rfl rfl rfl ?_ | refine condT rfl rfl ?_ | refine condF rfl rfl ?_); refine go T_ok 200 rfl ?_)
   exact ret (ret1 (v := .bool false) Try.results18 rfl ⟨⟨false, rfl, by simp; exact fun h => k1 (let t := h.s s hsm; ⟨t.c0, t.c1⟩)⟩, q⟩)
  rw [decide_eq_true k1]
  refine go T_ok 200 rfl ?_
  repeat ((first | refine ldA T_ok rfl rfl rfl rfl rfl (Bk.all B1) ?_ | refine ldA T_ok rfl rfl rfl rfl rfl (Bk.all B4) ?_ | refine ld T_ok rfl rfl rfl rfl (Bk.get B1 rfl) ?_ | refine ld T_ok rfl rfl rfl rfl (Bk.get B4 rfl) ?_ | refine gT rfl rfl rfl rfl ?_ | refine gF rfl rfl rfl rfl ?_ | refine condT rfl rfl ?_ | refine condF rfl rfl ?_); refine go T_ok 200 rfl ?_)
  by_cases k2 : s.lo < 0
  case pos =>
   rw [decide_eq_true k2]
   refine go T_ok 200 rfl ?_
   repeat ((first | refine ldA T_ok rfl rfl rfl rfl rfl (Bk.all B1) ?_ | refine ldA T_ok rfl rfl rfl rfl rfl (Bk.all B4) ?_ | refine ld T_ok rfl rfl rfl rfl (Bk.get B1 rfl) ?_ | refine ld T_ok rfl rfl rfl rfl (Bk.get B4 rfl) ?_ | refine gT rfl rfl rfl rfl ?_ | refine gF rfl rfl rfl rfl ?_ | refine condT rfl rfl ?_ | refine condF rfl rfl ?_); refine go T_ok 200 rfl ?_)
   exact ret (ret1 (v := .bool false) Try.results18 rfl ⟨⟨false, rfl, by simp; exact fun h => absurd (h.s s hsm).l0 (by omega)⟩, q⟩)
  rw [decide_eq_false k2]
  refine go T_ok 200 rfl ?_
  repeat ((first | refine ldA T_ok rfl rfl rfl rfl rfl (Bk.all B1) ?_ | refine ldA T_ok rfl rfl rfl rfl rfl (Bk.all B4) ?_ | refine ld T_ok rfl rfl rfl rfl (Bk.get B1 rfl) ?_ | refine ld T_ok rfl rfl rfl rfl (Bk.get B4 rfl) ?_ | refine gT rfl rfl rfl rfl ?_ | refine gF rfl rfl rfl rfl ?_ | refine condT rfl rfl ?_ | refine condF rfl rfl ?_); refine go T_ok 200 rfl ?_)
  by_cases k3 : s.hi ≤ s.lo
  case pos =>
   rw [decide_eq_true k3]
   refine go T_ok 200 rfl ?_
   repeat ((first | refine ldA T_ok rfl rfl rfl rfl rfl (Bk.all B1) ?_ | refine ldA T_ok rfl rfl rfl rfl rfl (Bk.all B4) ?_ | refine ld T_ok rfl rfl rfl rfl (Bk.get B1 rfl) ?_ | refine ld T_ok rfl rfl rfl rfl (Bk.get B4 rfl) ?_ | refine gT rfl rfl rfl rfl ?_ | refine gF rfl rfl rfl rfl ?_ | refine condT rfl rfl ?_ | refine condF rfl rfl ?_); refine go T_ok 200 rfl ?_)
   exact ret (ret1 (v := .bool false) Try.results18 rfl ⟨⟨false, rfl, by simp; exact fun h => absurd (h.s s hsm).lh (by omega)⟩, q⟩)
  rw [decide_eq_false k3]
  refine go T_ok 200 rfl ?_
  repeat ((first | refine ldA T_ok rfl rfl rfl rfl rfl (Bk.all B1) ?_ | refine ldA T_ok rfl rfl rfl rfl rfl (Bk.all B4) ?_ | refine ld T_ok rfl rfl rfl rfl (Bk.get B1 rfl) ?_ | refine ld T_ok rfl rfl rfl rfl (Bk.get B4 rfl) ?_ | refine gT rfl rfl rfl rfl ?_ | refine gF rfl rfl rfl rfl ?_ | refine condT rfl rfl ?_ | refine condF rfl rfl ?_); refine go T_ok 200 rfl ?_)
  by_cases k4 : m.c.parts < s.hi
  case pos =>
   rw [decide_eq_true k4]
   refine go T_ok 200 rfl ?_
   repeat ((first | refine ldA T_ok rfl rfl rfl rfl rfl (Bk.all B1) ?_ | refine ldA T_ok rfl rfl rfl rfl rfl (Bk.all B4) ?_ | refine ld T_ok rfl rfl rfl rfl (Bk.get B1 rfl) ?_ | refine ld T_ok rfl rfl rfl rfl (Bk.get B4 rfl) ?_ | refine gT rfl rfl rfl rfl ?_ | refine gF rfl rfl rfl rfl ?_ | refine condT rfl rfl ?_ | refine condF rfl rfl ?_); refine go T_ok 200 rfl ?_)
   exact ret (ret1 (v := .bool false) Try.results18 rfl ⟨⟨false, rfl, by simp; exact fun h => absurd (h.s s hsm).h1 (by omega)⟩, q⟩)
  rw [decide_eq_false k4]
  refine go T_ok 200 rfl ?_
  repeat ((first | refine ldA T_ok rfl rfl rfl rfl rfl (Bk.all B1) ?_ | refine ldA T_ok rfl rfl rfl rfl rfl (Bk.all B4) ?_ | refine ld T_ok rfl rfl rfl rfl (Bk.get B1 rfl) ?_ | refine ld T_ok rfl rfl rfl rfl (Bk.get B4 rfl) ?_ | refine gT rfl rfl rfl rfl ?_ | refine gF rfl rfl rfl rfl ?_ | refine condT rfl rfl ?_ | refine condF rfl rfl ?_); refine go T_ok 200 rfl ?_)
  refine call rfl rfl rfl (ok _ (by decide) rfl) (rIn_any s.tru 0 m.c.parts _) ?_
  rintro x w ⟨rfl, rfl⟩
  by_cases k5 : 0 ≤ s.tru ∧ s.tru ≤ m.c.parts
  case neg =>
   rw [decide_eq_false k5]
   refine go T_ok 200 rfl ?_
   repeat ((first | refine ldA T_ok rfl rfl rfl rfl rfl (Bk.all B1) ?_ | refine ldA T_ok rfl rfl rfl rfl rfl (Bk.all B4) ?_ | refine ld T_ok rfl rfl rfl rfl (Bk.get B1 rfl) ?_ | refine ld T_ok rfl rfl rfl rfl (Bk.get B4 rfl) ?_ | refine gT rfl rfl rfl rfl ?_ | refine gF rfl rfl rfl rfl ?_ | refine condT rfl rfl ?_ | refine condF rfl rfl ?_); refine go T_ok 200 rfl ?_)
   exact ret (ret1 (v := .bool false) Try.results18 rfl ⟨⟨false, rfl, by simp; exact fun h => k5 (let t := h.s s hsm; ⟨t.t0, t.t1⟩)⟩, q⟩)
  rw [decide_eq_true k5]
  refine go T_ok 200 rfl ?_
  repeat ((first | refine ldA T_ok rfl rfl rfl rfl rfl (Bk.all B1) ?_ | refine ldA T_ok rfl rfl rfl rfl rfl (Bk.all B4) ?_ | refine ld T_ok rfl rfl rfl rfl (Bk.get B1 rfl) ?_ | refine ld T_ok rfl rfl rfl rfl (Bk.get B4 rfl) ?_ | refine gT rfl rfl rfl rfl ?_ | refine gF rfl rfl rfl rfl ?_ | refine condT rfl rfl ?_ | refine condF rfl rfl ?_); refine go T_ok 200 rfl ?_)
  rw [e3]
  refine round ⟨j + 1, rfl, ⟨by omega, q, B1, fun k s' hk hs' => ?_⟩, by omega⟩
  rcases Nat.lt_or_ge k j with h' | h'
  ·exact hm k s' h' hs'
  ·obtain rfl : k = j := by omega
   rw [hs] at hs'; cases hs'
   exact ⟨k1.1, k1.2, by omega, by omega, by omega, k5.1, k5.2⟩
 obtain rfl : j = m.c.sites.length := by omega
 refine go T_ok 200 rfl ?_
 repeat ((first | refine ldA T_ok rfl rfl rfl rfl rfl (Bk.all B1) ?_ | refine ldA T_ok rfl rfl rfl rfl rfl (Bk.all B4) ?_ | refine ld T_ok rfl rfl rfl rfl (Bk.get B1 rfl) ?_ | refine ld T_ok rfl rfl rfl rfl (Bk.get B4 rfl) ?_ | refine gT rfl rfl rfl rfl ?_ | refine gF rfl rfl rfl rfl ?_ | refine condT rfl rfl ?_ | refine condF rfl rfl ?_); refine go T_ok 200 rfl ?_)
 exact ret (ret1 (v := .bool true) Try.results18 rfl ⟨⟨true, rfl, by simp; exact ⟨h1.1, h1.2, h2.1, h2.2, h3.1, h3.2, by omega, by omega, fun s hs => by obtain ⟨k, hk⟩ := List.getElem?_of_mem hs; exact hm k s (List.getElem?_eq_some_iff.1 hk).1 hk⟩⟩, q⟩)
set_option maxHeartbeats 4000000 in
theorem rCost_any (m : Cm) (l : List Int) (A : Option Addr) (c B : Nat) (w0 : World) (H : CpM w0 m) (hc : CpOk m.c) (Sl0 : Sl w0 B 1 A l.length (iL l)) (hl : Sites m.c l) (hl3 : l.length ≤ 1000) :
  Ret Try.prog 25 [.agg (cpL m).toArray, .slice A l.length c] w0 fun x w' => x = I (costP m.c l) ∧ Chg No w0 w' := by
 refine enter Try.func25 rfl Try.ntmps25 rfl ?_
 refine go T_ok 200 rfl ?_
 refine bx rfl rfl rfl (cs := cpL m) rfl ?_
 intro g2 u2 hg2 hs2 q2 B2
 have q := q2
 refine go T_ok 200 rfl ?_
 repeat ((first | refine ldA T_ok rfl rfl rfl rfl rfl (Bk.all B2) ?_ | refine ld T_ok rfl rfl rfl rfl (Bk.get B2 rfl) ?_ | refine gT rfl rfl rfl rfl ?_ | refine gF rfl rfl rfl rfl ?_ | refine condT rfl rfl ?_ | refine condF rfl rfl ?_); refine go T_ok 200 rfl ?_)
 refine loop [1, 2, 5, 6] (fun j : Nat => [.slice A l.length c, .pointer (some ⟨g2, 0, none⟩), I (costP m.c (l.take j)), .int .i64 (j : Int)])
  (fun j w' => j ≤ l.length ∧ Chg No w0 w' ∧ Bk w' g2 24 (cpL m)) (fun j => l.length - j) 0 (fun _ => rfl) rfl ⟨Nat.zero_le _, q, B2⟩ ?_
 rintro j τ w ⟨hj, q, B2⟩
 have H1 := H.no q
 refine go T_ok 200 rfl ?_
 repeat ((first | refine ldA T_ok rfl rfl rfl rfl rfl (Bk.all B2) ?_ | refine ld T_ok rfl rfl rfl rfl (Bk.get B2 rfl) ?_ | refine gT rfl rfl rfl rfl ?_ | refine gF rfl rfl rfl rfl ?_ | refine condT rfl rfl ?_ | refine condF rfl rfl ?_); refine go T_ok 200 rfl ?_)
 refine condD rfl (fun hlt => ?_) (fun hlt => ?_)
 ·have hlt : j < l.length := by omega
  obtain ⟨i, hi⟩ := getA_of hlt
  obtain ⟨b1, o1, hA1, hb1, hc1⟩ := (Sl0.no q).elI hi
  have hz := (Sl0.no q).2.1
  have e3 : w64 ((j : Int) + 1) = ((j + 1 : Nat) : Int) := w64_id (by omega) (by omega)
  obtain ⟨i0, i1⟩ := hl i (List.mem_of_getElem? hi)
  obtain ⟨es, hso⟩ := siteAt_ok hc i0 i1
  obtain ⟨b3, o3, hA3, hb3, hc3⟩ := Sl.el H1 siL_len es
  have etake : costP m.c (l.take (j + 1)) = costP m.c (l.take j) + (siteAt m.c i).cost := by
   rw [← costP_snoc]; congr 1
   rw [List.take_add_one, hi]; rfl
  have hbd := costP_bd hc (l := l.take (j + 1)) (fun x hx => hl x (List.mem_of_mem_take hx))
  rw [List.length_take] at hbd
  refine go T_ok 200 rfl ?_
  refine draw mixed (fun w' => Chg No w w') ([0,1,2,3,4,5,6,7,8,9,10,11].map (fun i => (i, true))) rfl (by kernel_rfl) (Chg.drew _) ?_
  refine goH T_ok 200 rfl ?_
  refine quietH rfl (fun w' hS => r_load T_ok rfl rfl rfl (Bk.get (B2.no hS) rfl)) ?_
  refine goH T_ok 200 rfl ?_
  rw [hA1]
  refine quietH rfl (fun w' hS => r_idx T_ok rfl rfl rfl rfl j rfl hlt) ?_
  refine goH T_ok 200 rfl ?_
  refine quietH rfl (fun w' hS => r_load T_ok rfl rfl rfl ((hS.cell (a := ⟨b1, o1 + j * 1, none⟩) (by show b1 < _; omega) (fun h => h)).trans hc1)) ?_
  rw [← hA1]
  refine goH T_ok 200 rfl ?_
  rw [hA3]
  refine quietH rfl (fun w' hS => r_idx T_ok rfl rfl rfl rfl i.toNat (by omega) (by omega)) ?_
  refine goH T_ok 200 rfl ?_
  refine quietH rfl (fun w' hS => r_load T_ok rfl rfl rfl ((hS.cell (a := ⟨b3, o3 + i.toNat * 4 + 0, none⟩) hb3 (fun h => h)).trans (hc3.get (i := 0) rfl))) ?_
  rw [← hA3]
  refine goH T_ok 200 rfl ?_
  rw [w64_id (x := costP m.c (l.take j) + (siteAt m.c i).cost) (by omega) (by omega), ← etake]
  refine endH ?_
  have B2 := B2.no (Chg.drew w)
  have q := q.trans (Chg.drew w)
  refine go T_ok 200 rfl ?_
  rw [e3]
  exact round ⟨j + 1, rfl, ⟨by omega, q, B2⟩, by omega⟩
 ·obtain rfl : j = l.length := by omega
  rw [List.take_length]
  refine go T_ok 200 rfl ?_
  exact ret (ret1 (v := I _) Try.results25 rfl ⟨rfl, q⟩)
set_option maxRecDepth 20000 in
set_option maxHeartbeats 8000000 in
theorem rChoice_any (m : Cm) (l : List Int) (A : Option Addr) (c B : Nat) (w0 : World) (H : CpM w0 m) (hc : CpOk m.c) (Sl0 : Sl w0 B 1 A l.length (iL l)) (hl3 : l.length ≤ 1000) :
  Ret Try.prog 22 [.agg (cpL m).toArray, .slice A l.length c] w0 fun v w' => (∃ b, v = .bool b ∧ (b = true ↔ ChOk m.c l)) ∧ Chg No w0 w' := by
 have n1 := hc.n1
 refine enter Try.func22 rfl Try.ntmps22 rfl ?_
 refine go T_ok 200 rfl ?_
 refine bx rfl rfl rfl (cs := cpL m) rfl ?_
 intro g2 u2 hg2 hs2 q2 B2
 have q := q2
 refine go T_ok 200 rfl ?_
 repeat ((first | refine ldA T_ok rfl rfl rfl rfl rfl (Bk.all B2) ?_ | refine ld T_ok rfl rfl rfl rfl (Bk.get B2 rfl) ?_ | refine gT rfl rfl rfl rfl ?_ | refine gF rfl rfl rfl rfl ?_ | refine condT rfl rfl ?_ | refine condF rfl rfl ?_); refine go T_ok 200 rfl ?_)
 refine call rfl rfl rfl (ok _ (by decide) rfl) (rIn_any (l.length : Int) 1 3 _) ?_
 rintro x w ⟨rfl, rfl⟩
 by_cases h1 : 1 ≤ (l.length : Int) ∧ (l.length : Int) ≤ 3
 case neg =>
  rw [decide_eq_false h1]
  refine go T_ok 200 rfl ?_
  repeat ((first | refine ldA T_ok rfl rfl rfl rfl rfl (Bk.all B2) ?_ | refine ld T_ok rfl rfl rfl rfl (Bk.get B2 rfl) ?_ | refine gT rfl rfl rfl rfl ?_ | refine gF rfl rfl rfl rfl ?_ | refine condT rfl rfl ?_ | refine condF rfl rfl ?_); refine go T_ok 200 rfl ?_)
  exact ret (ret1 (v := .bool false) Try.results22 rfl ⟨⟨false, rfl, by simp; exact fun h => h1 ⟨by have := h.n0; omega, by have := h.n1; omega⟩⟩, q⟩)
 rw [decide_eq_true h1]
 refine go T_ok 200 rfl ?_
 repeat ((first | refine ldA T_ok rfl rfl rfl rfl rfl (Bk.all B2) ?_ | refine ld T_ok rfl rfl rfl rfl (Bk.get B2 rfl) ?_ | refine gT rfl rfl rfl rfl ?_ | refine gF rfl rfl rfl rfl ?_ | refine condT rfl rfl ?_ | refine condF rfl rfl ?_); refine go T_ok 200 rfl ?_)
 refine loop [1, 2, 5] (fun j : Nat => [.slice A l.length c, .pointer (some ⟨g2, 0, none⟩), .int .i64 (j : Int)])
  (fun j w' => j ≤ l.length ∧ Chg No w0 w' ∧ Bk w' g2 24 (cpL m) ∧ (∀ (k : Nat) x, k < j → l[k]? = some x → 0 ≤ x ∧ x < (m.c.sites.length : Int)) ∧ ∀ (k : Nat), k + 1 < j → ∀ a ∈ l[k]?, ∀ b ∈ l[k + 1]?, a < b) (fun j => l.length - j) 0 (fun _ => rfl) rfl ⟨Nat.zero_le _, q, B2, fun k s h => absurd h (Nat.not_lt_zero _), fun k h => absurd h (Nat.not_lt_zero _)⟩ ?_
 rintro j τ w ⟨hj, q, B2, hm, hu⟩
 have H1 := H.no q
 refine go T_ok 200 rfl ?_
 repeat ((first | refine ldA T_ok rfl rfl rfl rfl rfl (Bk.all B2) ?_ | refine ld T_ok rfl rfl rfl rfl (Bk.get B2 rfl) ?_ | refine gT rfl rfl rfl rfl ?_ | refine gF rfl rfl rfl rfl ?_ | refine condT rfl rfl ?_ | refine condF rfl rfl ?_); refine go T_ok 200 rfl ?_)
 refine condD rfl (fun hlt => ?_) (fun hlt => ?_)
 ·have hlt : j < l.length := by omega
  obtain ⟨i, hi⟩ := getA_of hlt
  obtain ⟨b1, o1, hA1, hb1, hc1⟩ := (Sl0.no q).elI hi
  have hz := (Sl0.no q).2.1
  have e3 : w64 ((j : Int) + 1) = ((j + 1 : Nat) : Int) := w64_id (by omega) (by omega)
  refine go T_ok 200 rfl ?_
  refine draw mixed (fun w' => Chg No w w') ([0,1,2,3,4,5,6,7].map (fun i => (i, true)) ++ [(8, false)] ++ [9,10,11,12,13,14,15,16,17,18,19,20,21,22,23,24,25].map (fun i => (i, true))) rfl (by kernel_rfl) (Chg.drew _) ?_
  refine goH T_ok 200 rfl ?_
  rw [hA1]
  refine quietH rfl (fun w' hS => r_idx T_ok rfl rfl rfl rfl j rfl hlt) ?_
  refine goH T_ok 200 rfl ?_
  refine quietH rfl (fun w' hS => r_load T_ok rfl rfl rfl ((hS.cell (a := ⟨b1, o1 + j * 1, none⟩) (by show b1 < _; omega) (fun h => h)).trans hc1)) ?_
  rw [← hA1]
  refine goH T_ok 200 rfl ?_
  refine quietH rfl (fun w' hS => r_load T_ok rfl rfl rfl (Bk.get (B2.no hS) rfl)) ?_
  refine goH T_ok 200 rfl ?_
  rw [w64_id (x := (m.c.sites.length : Int) - 1) (by omega) (by omega)]
  have qd := Chg.drew w
  refine callE rfl rfl rfl (ok _ (by decide) rfl) (rIn_any i 0 ((m.c.sites.length : Int) - 1) _) ?_
  rintro x w1 ⟨rfl, rfl⟩
  refine ⟨qd, ?_⟩
  by_cases g1 : 0 ≤ i ∧ i ≤ (m.c.sites.length : Int) - 1
  case neg =>
   rw [decide_eq_false g1]
   refine goH T_ok 200 rfl ?_
   repeat (first | (refine gTH rfl rfl rfl rfl ?_; refine goH T_ok 200 rfl ?_) | (refine gFH rfl rfl rfl rfl ?_; refine goH T_ok 200 rfl ?_))
   refine endH ?_
   have B2 := B2.no qd
   have q := q.trans qd
   refine go T_ok 200 rfl ?_
   repeat ((first | refine ldA T_ok rfl rfl rfl rfl rfl (Bk.all B2) ?_ | refine ld T_ok rfl rfl rfl rfl (Bk.get B2 rfl) ?_ | refine gT rfl rfl rfl rfl ?_ | refine gF rfl rfl rfl rfl ?_ | refine condT rfl rfl ?_ | refine condF rfl rfl ?_); refine go T_ok 200 rfl ?_)
   exact ret (ret1 (v := .bool false) Try.results22 rfl ⟨⟨false, rfl, by simp; exact fun h => g1 (by have := h.s i (List.mem_of_getElem? hi); omega)⟩, q⟩)
  rw [decide_eq_true g1]
  refine goH T_ok 200 rfl ?_
  repeat (first | (refine gTH rfl rfl rfl rfl ?_; refine goH T_ok 200 rfl ?_) | (refine gFH rfl rfl rfl rfl ?_; refine goH T_ok 200 rfl ?_))
  by_cases g2 : 0 < (j : Int)
  case neg =>
   rw [decide_eq_false g2]
   refine goH T_ok 200 rfl ?_
   repeat (first | (refine gTH rfl rfl rfl rfl ?_; refine goH T_ok 200 rfl ?_) | (refine gFH rfl rfl rfl rfl ?_; refine goH T_ok 200 rfl ?_))
   refine endH ?_
   have B2 := B2.no qd
   have q := q.trans qd
   refine go T_ok 200 rfl ?_
   repeat ((first | refine ldA T_ok rfl rfl rfl rfl rfl (Bk.all B2) ?_ | refine ld T_ok rfl rfl rfl rfl (Bk.get B2 rfl) ?_ | refine gT rfl rfl rfl rfl ?_ | refine gF rfl rfl rfl rfl ?_ | refine condT rfl rfl ?_ | refine condF rfl rfl ?_); refine go T_ok 200 rfl ?_)
   rw [e3]
   refine round ⟨j + 1, rfl, ⟨by omega, q, B2, fun k x hk hx => ?_, fun k hk => absurd hk (by omega)⟩, by omega⟩
   obtain rfl : k = j := by omega
   rw [hi] at hx; cases hx
   omega
  rw [decide_eq_true g2]
  refine goH T_ok 200 rfl ?_
  repeat (first | (refine gTH rfl rfl rfl rfl ?_; refine goH T_ok 200 rfl ?_) | (refine gFH rfl rfl rfl rfl ?_; refine goH T_ok 200 rfl ?_))
  obtain ⟨p, rfl⟩ : ∃ p, j = p + 1 := ⟨j - 1, by omega⟩
  obtain ⟨i', hi'⟩ := getA_of (l := l) (i := p) (by omega)
  obtain ⟨b3, o3, hA3, hb3, hc3⟩ := (Sl0.no q).elI hi'
  rw [hA1]
  refine quietH rfl (fun w' hS => r_idx T_ok rfl rfl rfl rfl (p + 1) rfl hlt) ?_
  refine goH T_ok 200 rfl ?_
  repeat (first | (refine gTH rfl rfl rfl rfl ?_; refine goH T_ok 200 rfl ?_) | (refine gFH rfl rfl rfl rfl ?_; refine goH T_ok 200 rfl ?_))
  refine quietH rfl (fun w' hS => r_load T_ok rfl rfl rfl ((hS.cell (a := ⟨b1, o1 + (p + 1) * 1, none⟩) (by show b1 < _; omega) (fun h => h)).trans hc1)) ?_
  rw [← hA1]
  refine goH T_ok 200 rfl ?_
  repeat (first | (refine gTH rfl rfl rfl rfl ?_; refine goH T_ok 200 rfl ?_) | (refine gFH rfl rfl rfl rfl ?_; refine goH T_ok 200 rfl ?_))
  rw [w64_id (x := ((p + 1 : Nat) : Int) - 1) (by omega) (by omega), hA3]
  refine quietH rfl (fun w' hS => r_idx T_ok rfl rfl rfl rfl p (by omega) (by omega)) ?_
  refine goH T_ok 200 rfl ?_
  repeat (first | (refine gTH rfl rfl rfl rfl ?_; refine goH T_ok 200 rfl ?_) | (refine gFH rfl rfl rfl rfl ?_; refine goH T_ok 200 rfl ?_))
  refine quietH rfl (fun w' hS => r_load T_ok rfl rfl rfl ((hS.cell (a := ⟨b3, o3 + p * 1, none⟩) (by show b3 < _; omega) (fun h => h)).trans hc3)) ?_
  rw [← hA3]
  refine goH T_ok 200 rfl ?_
  repeat (first | (refine gTH rfl rfl rfl rfl ?_; refine goH T_ok 200 rfl ?_) | (refine gFH rfl rfl rfl rfl ?_; refine goH T_ok 200 rfl ?_))
  by_cases g3 : i ≤ i'
  case pos =>
   rw [decide_eq_true g3]
   refine goH T_ok 200 rfl ?_
   repeat (first | (refine gTH rfl rfl rfl rfl ?_; refine goH T_ok 200 rfl ?_) | (refine gFH rfl rfl rfl rfl ?_; refine goH T_ok 200 rfl ?_))
   refine endH ?_
   have B2 := B2.no qd
   have q := q.trans qd
   refine go T_ok 200 rfl ?_
   repeat ((first | refine ldA T_ok rfl rfl rfl rfl rfl (Bk.all B2) ?_ | refine ld T_ok rfl rfl rfl rfl (Bk.get B2 rfl) ?_ | refine gT rfl rfl rfl rfl ?_ | refine gF rfl rfl rfl rfl ?_ | refine condT rfl rfl ?_ | refine condF rfl rfl ?_); refine go T_ok 200 rfl ?_)
   exact ret (ret1 (v := .bool false) Try.results22 rfl ⟨⟨false, rfl, by simp; exact fun h => absurd (h.up p i' hi' i hi) (by omega)⟩, q⟩)
  rw [decide_eq_false g3]
  refine goH T_ok 200 rfl ?_
  repeat (first | (refine gTH rfl rfl rfl rfl ?_; refine goH T_ok 200 rfl ?_) | (refine gFH rfl rfl rfl rfl ?_; refine goH T_ok 200 rfl ?_))
  refine endH ?_
  have B2 := B2.no qd
  have q := q.trans qd
  refine go T_ok 200 rfl ?_
  repeat ((first | refine ldA T_ok rfl rfl rfl rfl rfl (Bk.all B2) ?_ | refine ld T_ok rfl rfl rfl rfl (Bk.get B2 rfl) ?_ | refine gT rfl rfl rfl rfl ?_ | refine gF rfl rfl rfl rfl ?_ | refine condT rfl rfl ?_ | refine condF rfl rfl ?_); refine go T_ok 200 rfl ?_)
  rw [e3]
  refine round ⟨p + 1 + 1, rfl, ⟨by omega, q, B2, fun k x hk hx => ?_, fun k hk a ha b hb => ?_⟩, by omega⟩
  ·rcases Nat.lt_or_ge k (p + 1) with h' | h'
   ·exact hm k x h' hx
   ·obtain rfl : k = p + 1 := by omega
    rw [hi] at hx; cases hx
    omega
  ·rcases Nat.lt_or_ge (k + 1) (p + 1) with h' | h'
   ·exact hu k h' a ha b hb
   ·obtain rfl : k = p := by omega
    rw [hi] at hb; cases hb
    rw [hi'] at ha; cases ha
    omega
 obtain rfl : j = l.length := by omega
 have hs : Sites m.c l := fun x hx => by obtain ⟨k, hk⟩ := List.getElem?_of_mem hx; exact hm k x (List.getElem?_eq_some_iff.1 hk).1 hk
 refine go T_ok 200 rfl ?_
 refine draw mixed (fun w' => Chg No w w') ([0,1,3,4].map (fun i => (i, true)) ++ [(2, false)] ++ [5,6].map (fun i => (i, true))) rfl (by kernel_rfl) (Chg.drew _) ?_
 refine goH T_ok 200 rfl ?_
 refine quietH rfl (fun w' hS => r_loadA T_ok rfl rfl rfl rfl (B2.no hS).all) ?_
 refine goH T_ok 200 rfl ?_
 refine quietH rfl (fun w' hS => r_load T_ok rfl rfl rfl (Bk.get (B2.no hS) rfl)) ?_
 refine goH T_ok 200 rfl ?_
 have qd := Chg.drew w
 refine callE rfl rfl rfl (ok _ (by decide) rfl) (rCost_any m l A c B _ (H.no (q.trans qd)) hc (Sl0.no (q.trans qd)) hs (by omega)) ?_
 rintro x w1 ⟨rfl, qk⟩
 refine ⟨qd.trans qk, ?_⟩
 refine goH T_ok 200 rfl ?_
 refine endH ?_
 have q := (q.trans qd).trans qk
 refine go T_ok 200 rfl ?_
 by_cases g4 : costP m.c l ≤ m.c.budget
 ·rw [decide_eq_true g4]
  exact ret (ret1 (v := .bool true) Try.results22 rfl ⟨⟨true, rfl, by simp; exact ⟨hs, fun k a ha b hb => hu k (by have := (List.getElem?_eq_some_iff.1 hb).1; omega) a ha b hb, by omega, by omega, g4⟩⟩, q⟩)
 ·rw [decide_eq_false g4]
  exact ret (ret1 (v := .bool false) Try.results22 rfl ⟨⟨false, rfl, by simp; exact fun h => g4 h.b⟩, q⟩)
end Go.Proofs.Yteenhfnamjbaiaa
