/- The contracts of the tables of kinks: in the specification; flux.Shares and flux.Bent. -/
import Derived.Test.YtolhfimknimliaaC9
import Derived.Test.YtolhfimknimliaaC6
namespace Go.Proofs.Ytolhfimknimliaa
open Go.Ev Go.Proofs Go.Top
attribute [local irreducible] At AtH
/-- the shares that a table knows behind an opacity -/
def shareP (n : Int) (l : List Rw) (o : Int) : Int × Int :=
 ((if fst (fun r => decide (o < r.k)) l = 0 then 0 else ((l[fst (fun r => decide (o < r.k)) l - 1]?).map (·.lo)).getD 0), ((l[fst (fun r => decide (o ≤ r.k)) l]?).map (·.hi)).getD n)
/-- the opacities that agree with a share -/
def bentP (l : List Rw) (o : Int × Int) : Int × Int :=
 ((if fst (fun r => decide (o.1 ≤ r.hi)) l = 0 then 0 else ((l[fst (fun r => decide (o.1 ≤ r.hi)) l - 1]?).map (fun r => r.k + 1)).getD 0), ((l[fst (fun r => decide (o.2 < r.lo)) l]?).map (fun r => r.k - 1)).getD 1000000)
set_option maxRecDepth 20000 in
set_option maxHeartbeats 4000000 in
theorem rKinks_any (p : Int) (l : List Rw) (A : Option Addr) (c B : Nat) (w : World) (S0 : Sl w B 3 A l.length (l.flatMap rwL)) (hl : l.length ≤ 9223372036854775807) :
  Ret Try.prog 14 [.int .i64 p, .slice A l.length c] w fun x w' => (∃ b, x = .bool b ∧ (b = true ↔ ((2 ≤ p ∧ p ≤ 1000000) ∧ Mono 0 1000000 p true l))) ∧ Chg No w w' := by
 refine enter Try.func14 rfl Try.ntmps14 rfl ?_
 refine go T_ok 200 rfl ?_
 refine loop [0, 1, 5] (fun j : Nat => [.int .i64 p, .slice A l.length c, .int .i64 (j : Int)])
  (fun j w' => j ≤ l.length ∧ Chg No w w' ∧ MoTo 0 1000000 p true l j) (fun j => l.length - j) 0 (fun _ => rfl) rfl ⟨Nat.zero_le _, Chg.refl _ _, fun i h => absurd h (Nat.not_lt_zero _), fun i h => absurd h (by omega)⟩ ?_
 rintro j τ w ⟨hj, q, hm⟩
 have S1 := S0.no q
 refine go T_ok 200 rfl ?_
 refine condD rfl (fun hlt => ?_) (fun hlt => ?_)
 ·have hlt : j < l.length := by omega
  obtain ⟨r, hr⟩ := get_of hlt
  have hmem := List.mem_of_getElem? hr
  obtain ⟨b1, o1, hA1, hb1, hc1⟩ := S1.el rwL_len hr
  have e3 : w64 ((j : Int) + 1) = ((j + 1 : Nat) : Int) := w64_id (by omega) (by omega)
  refine go T_ok 200 rfl ?_
  rw [hA1]
  refine idx T_ok rfl rfl rfl rfl rfl j rfl hlt ?_
  refine go T_ok 200 rfl ?_
  refine ldA T_ok rfl rfl rfl rfl rfl hc1 ?_
  refine go T_ok 200 rfl ?_
  rw [← hA1]
  have yS1 := S1.2.1
  have yq := q.size
  refine nw rfl rfl (z := .agg #[I 0, I 0, I 0]) (by kernel_rfl) (cs := [I 0, I 0, I 0]) rfl ?_
  intro g6 w hg6 hs6 qk B6
  have S1 := S1.no qk
  have q := q.trans qk
  refine go T_ok 200 rfl ?_
  refine stA T_ok rfl rfl rfl rfl (vs := rwL r) rfl rfl rfl B6 rfl ?_
  intro w qk B6 hz6
  have B6 : Bk w g6 110 (rwL r) := B6
  have S1 := Sl.keep S1 qk (fun k hk e => by omega)
  have q := q.step qk (fun k hk e => by omega)
  refine go T_ok 200 rfl ?_
  refine draw mixed (fun w' => Chg No w w') ([0,1].map (fun i => (i, true)) ++ [(2, false)] ++ [3,4,5,6,7].map (fun i => (i, true)) ++ [(8, false)] ++ [9,10,11,12,13,14,15,16,17,18,19,20,21,22,23,24,25,26,27,28,29,30,31,32,33,34,35,36,37,38,39,40,41,42,43,44,45,46,47,48,49,50,51].map (fun i => (i, true))) rfl (by kernel_rfl) (Chg.drew _) ?_
  refine goH T_ok 200 rfl ?_
  repeat (first | (refine quietH rfl (fun w' hS => r_load T_ok rfl rfl rfl (Bk.get (B6.no hS) rfl)) ?_; refine goH T_ok 200 rfl ?_))
  refine callE rfl rfl rfl (ok _ (by decide) rfl) (rin_any r.k 0 1000000 _) ?_
  rintro x' w' ⟨rfl, rfl⟩
  refine ⟨Chg.drew _, ?_⟩
  by_cases hk : 0 ≤ r.k ∧ r.k ≤ 1000000
  case neg =>
   rw [decide_eq_false hk]
   refine goH T_ok 200 rfl ?_
   repeat (first | (refine passE rfl ?_; refine goH T_ok 200 rfl ?_) | (refine guardHA (b := false) rfl rfl rfl rfl (fun h => by cases h) (fun _ => ?_); refine goH T_ok 200 rfl ?_) | (refine guardHA (b := true) rfl rfl rfl rfl (fun _ => ?_) (fun h => by cases h); refine goH T_ok 200 rfl ?_))
   refine endH ?_
   have qk := Chg.drew w
   have S1 := S1.no qk
   have B6 := B6.no qk
   have q := q.trans qk
   refine go T_ok 200 rfl ?_
   repeat (first | (refine gT rfl rfl rfl rfl ?_; refine go T_ok 200 rfl ?_) | (refine gF rfl rfl rfl rfl ?_; refine go T_ok 200 rfl ?_) | (refine condT rfl rfl ?_; refine go T_ok 200 rfl ?_) | (refine condF rfl rfl ?_; refine go T_ok 200 rfl ?_))
   exact ret (ret1 (v := .bool false) Try.results14 rfl ⟨⟨false, rfl, ⟨fun h => (by cases h), fun ⟨_, h⟩ => False.elim (hk (h.1 r hmem).1)⟩⟩, q⟩)
  rw [decide_eq_true hk]
  refine goH T_ok 200 rfl ?_
  repeat (first | (refine gTH rfl rfl rfl rfl ?_; refine goH T_ok 200 rfl ?_) | (refine gFH rfl rfl rfl rfl ?_; refine goH T_ok 200 rfl ?_))
  refine quietH rfl (fun w' hS => r_loadA T_ok rfl rfl rfl rfl (bk_sp (B6.no hS))) ?_
  refine goH T_ok 200 rfl ?_
  refine callE rfl rfl rfl (ok _ (by decide) rfl) (rSpan_any (r.lo, r.hi) 0 p _) ?_
  rintro x w2 ⟨rfl, q2⟩
  have qk := (Chg.drew w).trans q2
  refine ⟨qk, ?_⟩
  by_cases hs : SpOk (r.lo, r.hi) 0 p
  case neg =>
   rw [decide_eq_false hs]
   refine goH T_ok 200 rfl ?_
   repeat (first | (refine passE rfl ?_; refine goH T_ok 200 rfl ?_) | (refine guardHA (b := false) rfl rfl rfl rfl (fun h => by cases h) (fun _ => ?_); refine goH T_ok 200 rfl ?_) | (refine guardHA (b := true) rfl rfl rfl rfl (fun _ => ?_) (fun h => by cases h); refine goH T_ok 200 rfl ?_))
   refine endH ?_
   have S1 := S1.no qk
   have B6 := B6.no qk
   have q := q.trans qk
   refine go T_ok 200 rfl ?_
   repeat (first | (refine gT rfl rfl rfl rfl ?_; refine go T_ok 200 rfl ?_) | (refine gF rfl rfl rfl rfl ?_; refine go T_ok 200 rfl ?_) | (refine condT rfl rfl ?_; refine go T_ok 200 rfl ?_) | (refine condF rfl rfl ?_; refine go T_ok 200 rfl ?_))
   exact ret (ret1 (v := .bool false) Try.results14 rfl ⟨⟨false, rfl, ⟨fun h => (by cases h), fun ⟨_, h⟩ => False.elim (hs (h.1 r hmem).2)⟩⟩, q⟩)
  rw [decide_eq_true hs]
  refine goH T_ok 200 rfl ?_
  repeat (first | (refine gTH rfl rfl rfl rfl ?_; refine goH T_ok 200 rfl ?_) | (refine gFH rfl rfl rfl rfl ?_; refine goH T_ok 200 rfl ?_))
  by_cases hj0 : j = 0
  ·refine guardHA (b := false) rfl rfl rfl (congrArg Value.bool (decide_eq_false (by omega))) (fun h => by cases h) (fun _ => ?_)
   refine goH T_ok 200 rfl ?_
   repeat (first | (refine passE rfl ?_; refine goH T_ok 200 rfl ?_) | (refine guardHA (b := false) rfl rfl rfl rfl (fun h => by cases h) (fun _ => ?_); refine goH T_ok 200 rfl ?_) | (refine guardHA (b := true) rfl rfl rfl rfl (fun _ => ?_) (fun h => by cases h); refine goH T_ok 200 rfl ?_))
   refine endH ?_
   have S1 := S1.no qk
   have B6 := B6.no qk
   have q := q.trans qk
   refine go T_ok 200 rfl ?_
   repeat (first | (refine gT rfl rfl rfl rfl ?_; refine go T_ok 200 rfl ?_) | (refine gF rfl rfl rfl rfl ?_; refine go T_ok 200 rfl ?_) | (refine condT rfl rfl ?_; refine go T_ok 200 rfl ?_) | (refine condF rfl rfl ?_; refine go T_ok 200 rfl ?_))
   rw [e3]
   exact round ⟨j + 1, rfl, ⟨by omega, q, hm.step hr ⟨hk, hs⟩ (fun i a h => by omega)⟩, by omega⟩
  obtain ⟨j', hj'⟩ : ∃ j', j = j' + 1 := ⟨j - 1, by omega⟩
  obtain ⟨a, ha⟩ := get_of (l := l) (i := j') (by omega)
  obtain ⟨b2, o2, hA2, hb2, hc2⟩ := S1.el rwL_len ha
  have l2 : b2 < w.heap.size := Nat.lt_of_lt_of_le hb2 S1.2.1
  have e10 : w64 ((j : Int) - 1) = ((j' : Nat) : Int) := by rw [w64_id (by omega) (by omega)]; omega
  have hnm : ∀ h : Mono 0 1000000 p true l, Nb true a r := fun h => h.2.1 j' a ha r (by rw [← hj']; exact hr)
  have ka : ∀ (i : Nat) (z : Value), nth? (rwL a) i = some z → ∀ w', Chg No w w' → w'.cell? ⟨b2, o2 + j' * 3 + i, none⟩ = some z := fun i z hz w' hS => (hS.cell (a := ⟨b2, o2 + j' * 3 + i, none⟩) l2 (fun h => h)).trans (hc2.get hz)
  refine guardHA (b := true) rfl rfl rfl (congrArg Value.bool (decide_eq_true (by omega))) (fun _ => ?_) (fun h => by cases h)
  refine goH T_ok 200 rfl ?_
  repeat (first | (refine quietH rfl (fun w' hS => r_load T_ok rfl rfl rfl (Bk.get (B6.no hS) rfl)) ?_; refine goH T_ok 200 rfl ?_))
  rw [e10, hA2]
  refine quietH rfl (fun w' hS => r_idx T_ok rfl rfl rfl rfl j' rfl (by omega)) ?_
  refine goH T_ok 200 rfl ?_
  refine quietH rfl (fun w' hS => r_load T_ok rfl rfl rfl (ka 0 _ rfl w' hS)) ?_
  refine goH T_ok 200 rfl ?_
  by_cases hkk : r.k ≤ a.k
  ·refine guardHA (b := true) rfl rfl rfl (congrArg Value.bool (decide_eq_true hkk)) (fun _ => ?_) (fun h => by cases h)
   refine goH T_ok 200 rfl ?_
   repeat (first | (refine passE rfl ?_; refine goH T_ok 200 rfl ?_) | (refine guardHA (b := false) rfl rfl rfl rfl (fun h => by cases h) (fun _ => ?_); refine goH T_ok 200 rfl ?_) | (refine guardHA (b := true) rfl rfl rfl rfl (fun _ => ?_) (fun h => by cases h); refine goH T_ok 200 rfl ?_))
   refine endH ?_
   rw [← hA2]
   have S1 := S1.no qk
   have B6 := B6.no qk
   have q := q.trans qk
   refine go T_ok 200 rfl ?_
   repeat (first | (refine gT rfl rfl rfl rfl ?_; refine go T_ok 200 rfl ?_) | (refine gF rfl rfl rfl rfl ?_; refine go T_ok 200 rfl ?_) | (refine condT rfl rfl ?_; refine go T_ok 200 rfl ?_) | (refine condF rfl rfl ?_; refine go T_ok 200 rfl ?_))
   exact ret (ret1 (v := .bool false) Try.results14 rfl ⟨⟨false, rfl, ⟨fun h => (by cases h), fun ⟨_, h⟩ => False.elim (absurd (hnm h).1 (by omega))⟩⟩, q⟩)
  refine guardHA (b := false) rfl rfl rfl (congrArg Value.bool (decide_eq_false hkk)) (fun h => by cases h) (fun _ => ?_)
  refine goH T_ok 200 rfl ?_
  repeat (first | (refine quietH rfl (fun w' hS => r_load T_ok rfl rfl rfl (Bk.get (B6.no hS) rfl)) ?_; refine goH T_ok 200 rfl ?_))
  rw [e10]
  refine quietH rfl (fun w' hS => r_idx T_ok rfl rfl rfl rfl j' rfl (by omega)) ?_
  refine goH T_ok 200 rfl ?_
  refine quietH rfl (fun w' hS => r_load T_ok rfl rfl rfl (ka 1 _ rfl w' hS)) ?_
  refine goH T_ok 200 rfl ?_
  by_cases hlo : r.lo < a.lo
  ·refine guardHA (b := true) rfl rfl rfl (congrArg Value.bool (decide_eq_true hlo)) (fun _ => ?_) (fun h => by cases h)
   refine goH T_ok 200 rfl ?_
   repeat (first | (refine passE rfl ?_; refine goH T_ok 200 rfl ?_) | (refine guardHA (b := false) rfl rfl rfl rfl (fun h => by cases h) (fun _ => ?_); refine goH T_ok 200 rfl ?_) | (refine guardHA (b := true) rfl rfl rfl rfl (fun _ => ?_) (fun h => by cases h); refine goH T_ok 200 rfl ?_))
   refine endH ?_
   rw [← hA2]
   have S1 := S1.no qk
   have B6 := B6.no qk
   have q := q.trans qk
   refine go T_ok 200 rfl ?_
   repeat (first | (refine gT rfl rfl rfl rfl ?_; refine go T_ok 200 rfl ?_) | (refine gF rfl rfl rfl rfl ?_; refine go T_ok 200 rfl ?_) | (refine condT rfl rfl ?_; refine go T_ok 200 rfl ?_) | (refine condF rfl rfl ?_; refine go T_ok 200 rfl ?_))
   exact ret (ret1 (v := .bool false) Try.results14 rfl ⟨⟨false, rfl, ⟨fun h => (by cases h), fun ⟨_, h⟩ => False.elim (absurd (hnm h).2.1 (by omega))⟩⟩, q⟩)
  refine guardHA (b := false) rfl rfl rfl (congrArg Value.bool (decide_eq_false hlo)) (fun h => by cases h) (fun _ => ?_)
  refine goH T_ok 200 rfl ?_
  repeat (first | (refine quietH rfl (fun w' hS => r_load T_ok rfl rfl rfl (Bk.get (B6.no hS) rfl)) ?_; refine goH T_ok 200 rfl ?_))
  rw [e10]
  refine quietH rfl (fun w' hS => r_idx T_ok rfl rfl rfl rfl j' rfl (by omega)) ?_
  refine goH T_ok 200 rfl ?_
  refine quietH rfl (fun w' hS => r_load T_ok rfl rfl rfl (ka 2 _ rfl w' hS)) ?_
  refine goH T_ok 200 rfl ?_
  refine endH ?_
  rw [← hA2]
  by_cases hhi : r.hi < a.hi
  ·rw [decide_eq_true hhi]
   have S1 := S1.no qk
   have B6 := B6.no qk
   have q := q.trans qk
   refine go T_ok 200 rfl ?_
   repeat (first | (refine gT rfl rfl rfl rfl ?_; refine go T_ok 200 rfl ?_) | (refine gF rfl rfl rfl rfl ?_; refine go T_ok 200 rfl ?_) | (refine condT rfl rfl ?_; refine go T_ok 200 rfl ?_) | (refine condF rfl rfl ?_; refine go T_ok 200 rfl ?_))
   exact ret (ret1 (v := .bool false) Try.results14 rfl ⟨⟨false, rfl, ⟨fun h => (by cases h), fun ⟨_, h⟩ => False.elim (absurd (hnm h).2.2 (by omega))⟩⟩, q⟩)
  rw [decide_eq_false hhi]
  have hnn : ∀ i x, j = i + 1 → l[i]? = some x → Nb true x r := fun i x h hx => by
   obtain rfl : i = j' := by omega
   rw [ha] at hx; cases hx; exact ⟨by omega, by simp; omega⟩
  have S1 := S1.no qk
  have B6 := B6.no qk
  have q := q.trans qk
  refine go T_ok 200 rfl ?_
  repeat (first | (refine gT rfl rfl rfl rfl ?_; refine go T_ok 200 rfl ?_) | (refine gF rfl rfl rfl rfl ?_; refine go T_ok 200 rfl ?_) | (refine condT rfl rfl ?_; refine go T_ok 200 rfl ?_) | (refine condF rfl rfl ?_; refine go T_ok 200 rfl ?_))
  rw [e3]
  exact round ⟨j + 1, rfl, ⟨by omega, q, hm.step hr ⟨hk, hs⟩ hnn⟩, by omega⟩
 ·obtain rfl : j = l.length := by omega
  refine go T_ok 200 rfl ?_
  refine call rfl rfl rfl (ok _ (by decide) rfl) (rin_any p 2 1000000 _) ?_
  rintro x w ⟨rfl, rfl⟩
  refine go T_ok 200 rfl ?_
  refine guardD rfl rfl rfl (fun hn => ?_) (fun hn => ?_)
  ·refine go T_ok 200 rfl ?_
   refine call rfl rfl rfl (ok _ (by decide) rfl) (rin_any (l.length : Int) 1 40 _) ?_
   rintro x w ⟨rfl, rfl⟩
   refine go T_ok 200 rfl ?_
   exact ret (ret1 (v := .bool _) Try.results14 rfl ⟨⟨_, rfl, by rw [decide_eq_true_iff]; exact ⟨fun h => ⟨hn, hm.all.2 h⟩, fun h => hm.all.1 h.2⟩⟩, q⟩)
  ·refine go T_ok 200 rfl ?_
   exact ret (ret1 (v := .bool _) Try.results14 rfl ⟨⟨false, rfl, ⟨fun h => (by cases h), fun h => absurd h.1 hn⟩⟩, q⟩)
set_option maxHeartbeats 4000000 in
theorem kinked_any (n : Int) (l : List Rw) (A : Option Addr) (c B : Nat) (w : World) (S0 : Sl w B 3 A l.length (l.flatMap rwL)) (hl : l.length ≤ 9223372036854775807) :
  Ret Try.prog 54 [.int .i64 n, .slice A l.length c] w fun x w' => (∃ b, x = .bool b ∧ (b = true ↔ ((2 ≤ n ∧ n ≤ 1000000) ∧ Mono 0 1000000 n true l))) ∧ Chg No w w' := by
 refine enter Try.func54 rfl Try.ntmps54 rfl ?_
 refine go T_ok 200 rfl ?_
 refine call rfl rfl rfl (ok _ (by decide) rfl) (within_any n 2 1000000 _) ?_
 rintro x w ⟨rfl, rfl⟩
 refine go T_ok 200 rfl ?_
 refine guardD rfl rfl rfl (fun hn => ?_) (fun hn => ?_)
 ·refine go T_ok 200 rfl ?_
  refine call rfl rfl rfl (ok _ (by decide) rfl) (monoK_any l 0 1000000 n A c B _ S0 hl) ?_
  rintro x w' ⟨⟨b, rfl, hb⟩, qk⟩
  refine go T_ok 200 rfl ?_
  exact ret (ret1 (v := .bool _) Try.results54 rfl ⟨⟨b, rfl, ⟨fun h => ⟨hn, hb.1 h⟩, fun h => hb.2 h.2⟩⟩, qk⟩)
 ·refine go T_ok 200 rfl ?_
  exact ret (ret1 (v := .bool _) Try.results54 rfl ⟨⟨false, rfl, ⟨fun h => (by cases h), fun h => absurd h.1 hn⟩⟩, Chg.refl _ _⟩)
theorem p57_any (r : Rw) (o : Int × Int) (g : Nat) (w : World) (H : Bk w g 3 [I o.1]) : Ret Try.prog 57 [.agg (rwL r).toArray, .pointer (some ⟨g, 0, none⟩)] w fun v w' => v = .bool (decide (o.1 < r.k)) ∧ Chg No w w' := by
 refine enter Try.func57 rfl Try.ntmps57 rfl ?_
 refine go T_ok 200 rfl ?_
 refine bx rfl rfl rfl (cs := rwL r) rfl ?_
 intro g2 u2 hg2 hs2 q2 B2
 have B1 := H.no q2
 have q := q2
 refine go T_ok 200 rfl ?_
 repeat ((first | refine ldA T_ok rfl rfl rfl rfl rfl (Bk.all B1) ?_ | refine ldA T_ok rfl rfl rfl rfl rfl (Bk.all B2) ?_ | refine ld T_ok rfl rfl rfl rfl (Bk.get B1 rfl) ?_ | refine ld T_ok rfl rfl rfl rfl (Bk.get B2 rfl) ?_ | refine gT rfl rfl rfl rfl ?_ | refine gF rfl rfl rfl rfl ?_ | refine condT rfl rfl ?_ | refine condF rfl rfl ?_); refine go T_ok 200 rfl ?_)
 exact ret (ret1 (v := .bool _) Try.results57 rfl ⟨rfl, q⟩)
theorem prd57 {o : Int × Int} {g : Nat} {w : World} (H : Bk w g 3 [I o.1]) : Prd (fun r => decide (o.1 < r.k)) (.func (.func 57) #[] #[.pointer (some ⟨g, 0, none⟩)]) w :=
 ⟨57, _, rfl, ok _ (by decide) rfl, fun r w' q => p57_any r o g w' (H.no q)⟩
theorem p58_any (r : Rw) (o : Int × Int) (g : Nat) (w : World) (H : Bk w g 3 [I o.1]) : Ret Try.prog 58 [.agg (rwL r).toArray, .pointer (some ⟨g, 0, none⟩)] w fun v w' => v = .bool (decide (o.1 ≤ r.k)) ∧ Chg No w w' := by
 refine enter Try.func58 rfl Try.ntmps58 rfl ?_
 refine go T_ok 200 rfl ?_
 refine bx rfl rfl rfl (cs := rwL r) rfl ?_
 intro g2 u2 hg2 hs2 q2 B2
 have B1 := H.no q2
 have q := q2
 refine go T_ok 200 rfl ?_
 repeat ((first | refine ldA T_ok rfl rfl rfl rfl rfl (Bk.all B1) ?_ | refine ldA T_ok rfl rfl rfl rfl rfl (Bk.all B2) ?_ | refine ld T_ok rfl rfl rfl rfl (Bk.get B1 rfl) ?_ | refine ld T_ok rfl rfl rfl rfl (Bk.get B2 rfl) ?_ | refine gT rfl rfl rfl rfl ?_ | refine gF rfl rfl rfl rfl ?_ | refine condT rfl rfl ?_ | refine condF rfl rfl ?_); refine go T_ok 200 rfl ?_)
 exact ret (ret1 (v := .bool _) Try.results58 rfl ⟨rfl, q⟩)
theorem prd58 {o : Int × Int} {g : Nat} {w : World} (H : Bk w g 3 [I o.1]) : Prd (fun r => decide (o.1 ≤ r.k)) (.func (.func 58) #[] #[.pointer (some ⟨g, 0, none⟩)]) w :=
 ⟨58, _, rfl, ok _ (by decide) rfl, fun r w' q => p58_any r o g w' (H.no q)⟩
theorem p60_any (r : Rw) (o : Int × Int) (g : Nat) (w : World) (H : Bk w g 24 (spL o)) : Ret Try.prog 60 [.agg (rwL r).toArray, .pointer (some ⟨g, 0, none⟩)] w fun v w' => v = .bool (decide (o.1 ≤ r.hi)) ∧ Chg No w w' := by
 refine enter Try.func60 rfl Try.ntmps60 rfl ?_
 refine go T_ok 200 rfl ?_
 refine bx rfl rfl rfl (cs := rwL r) rfl ?_
 intro g2 u2 hg2 hs2 q2 B2
 have B1 := H.no q2
 have q := q2
 refine go T_ok 200 rfl ?_
 repeat ((first | refine ldA T_ok rfl rfl rfl rfl rfl (Bk.all B1) ?_ | refine ldA T_ok rfl rfl rfl rfl rfl (Bk.all B2) ?_ | refine ld T_ok rfl rfl rfl rfl (Bk.get B1 rfl) ?_ | refine ld T_ok rfl rfl rfl rfl (Bk.get B2 rfl) ?_ | refine gT rfl rfl rfl rfl ?_ | refine gF rfl rfl rfl rfl ?_ | refine condT rfl rfl ?_ | refine condF rfl rfl ?_); refine go T_ok 200 rfl ?_)
 exact ret (ret1 (v := .bool _) Try.results60 rfl ⟨rfl, q⟩)
theorem prd60 {o : Int × Int} {g : Nat} {w : World} (H : Bk w g 24 (spL o)) : Prd (fun r => decide (o.1 ≤ r.hi)) (.func (.func 60) #[] #[.pointer (some ⟨g, 0, none⟩)]) w :=
 ⟨60, _, rfl, ok _ (by decide) rfl, fun r w' q => p60_any r o g w' (H.no q)⟩
theorem p61_any (r : Rw) (o : Int × Int) (g : Nat) (w : World) (H : Bk w g 24 (spL o)) : Ret Try.prog 61 [.agg (rwL r).toArray, .pointer (some ⟨g, 0, none⟩)] w fun v w' => v = .bool (decide (o.2 < r.lo)) ∧ Chg No w w' := by
 refine enter Try.func61 rfl Try.ntmps61 rfl ?_
 refine go T_ok 200 rfl ?_
 refine bx rfl rfl rfl (cs := rwL r) rfl ?_
 intro g2 u2 hg2 hs2 q2 B2
 have B1 := H.no q2
 have q := q2
 refine go T_ok 200 rfl ?_
 repeat ((first | refine ldA T_ok rfl rfl rfl rfl rfl (Bk.all B1) ?_ | refine ldA T_ok rfl rfl rfl rfl rfl (Bk.all B2) ?_ | refine ld T_ok rfl rfl rfl rfl (Bk.get B1 rfl) ?_ | refine ld T_ok rfl rfl rfl rfl (Bk.get B2 rfl) ?_ | refine gT rfl rfl rfl rfl ?_ | refine gF rfl rfl rfl rfl ?_ | refine condT rfl rfl ?_ | refine condF rfl rfl ?_); refine go T_ok 200 rfl ?_)
 exact ret (ret1 (v := .bool _) Try.results61 rfl ⟨rfl, q⟩)
theorem prd61 {o : Int × Int} {g : Nat} {w : World} (H : Bk w g 24 (spL o)) : Prd (fun r => decide (o.2 < r.lo)) (.func (.func 61) #[] #[.pointer (some ⟨g, 0, none⟩)]) w :=
 ⟨61, _, rfl, ok _ (by decide) rfl, fun r w' q => p61_any r o g w' (H.no q)⟩
set_option maxRecDepth 20000 in
set_option maxHeartbeats 4000000 in
theorem Shares_any (n : Int) (l : List Rw) (o : Int × Int) (A : Option Addr) (c B : Nat) (w : World) (S1 : Sl w B 3 A l.length (l.flatMap rwL)) (hl : l.length ≤ 9223372036854775807) (hn : 2 ≤ n ∧ n ≤ 1000000) (hm : Mono 0 1000000 n true l) (ho : 0 ≤ o.1 ∧ o.1 ≤ 1000000) :
  Ret Try.prog 20 [.int .i64 n, .slice A l.length c, .int .i64 o.1] w fun x w' => x = .tuple #[.agg (spL (shareP n l o.1)).toArray, I 0] ∧ Chg No w w' := by
 have hl4 : l.length ≤ 40 := hm.2.2.2
 have hfl1 := fst_le (fun r => decide (o.1 < r.k)) l
 have hfl2 := fst_le (fun r => decide (o.1 ≤ r.k)) l
 refine enter Try.func20 rfl Try.ntmps20 rfl ?_
 refine go T_ok 200 rfl ?_
 refine bx rfl rfl rfl (cs := [I o.1]) rfl ?_
 intro g5 u5 hg5 hs5 q5 B5
 have q := q5
 have S1 := S1.no q5
 refine go T_ok 200 rfl ?_
 refine nw rfl rfl (z := .agg #[I 0, I 0]) (by kernel_rfl) (cs := [I 0, I 0]) rfl ?_
 intro g6 w hg6 hs6 qk B6
 have B5 := B5.no qk
 have S1 := S1.no qk
 have q := q.trans qk
 have hg5w := q5.size
 refine go T_ok 200 rfl ?_
 refine call rfl rfl rfl (ok _ (by decide) rfl) (kinked_any n l A c _ _ S1 hl) ?_
 rintro x w ⟨⟨b, rfl, hb⟩, qk⟩
 have B5 := B5.no qk
 have S1 := S1.no qk
 have B6 := B6.no qk
 have q := q.trans qk
 obtain rfl : b = true := hb.2 ⟨hn, hm⟩
 refine go T_ok 200 rfl ?_
 repeat ((first | refine ldA T_ok rfl rfl rfl rfl rfl (Bk.all B5) ?_ | refine ldA T_ok rfl rfl rfl rfl rfl (Bk.all B6) ?_ | refine ld T_ok rfl rfl rfl rfl (Bk.get B5 rfl) ?_ | refine ld T_ok rfl rfl rfl rfl (Bk.get B6 rfl) ?_ | refine gT rfl rfl rfl rfl ?_ | refine gF rfl rfl rfl rfl ?_ | refine condT rfl rfl ?_ | refine condF rfl rfl ?_); refine go T_ok 200 rfl ?_)
 refine call rfl rfl rfl (ok _ (by decide) rfl) (within_any o.1 0 1000000 _) ?_
 rintro x w ⟨rfl, rfl⟩
 rw [decide_eq_true ho]
 refine go T_ok 200 rfl ?_
 repeat ((first | refine ldA T_ok rfl rfl rfl rfl rfl (Bk.all B5) ?_ | refine ldA T_ok rfl rfl rfl rfl rfl (Bk.all B6) ?_ | refine ld T_ok rfl rfl rfl rfl (Bk.get B5 rfl) ?_ | refine ld T_ok rfl rfl rfl rfl (Bk.get B6 rfl) ?_ | refine gT rfl rfl rfl rfl ?_ | refine gF rfl rfl rfl rfl ?_ | refine condT rfl rfl ?_ | refine condF rfl rfl ?_); refine go T_ok 200 rfl ?_)
 have yB5 := B5.lt
 have yS1 := S1.2.1
 have yB6 := B6.lt
 have yq := q.size
 refine nw rfl rfl (z := .agg #[I 0, I 0]) (by kernel_rfl) (cs := [I 0, I 0]) rfl ?_
 intro g8 w hg8 hs8 qk B8
 have B5 := B5.no qk
 have S1 := S1.no qk
 have B6 := B6.no qk
 have q := q.trans qk
 refine go T_ok 200 rfl ?_
 refine stA T_ok rfl rfl rfl rfl (vs := spL (0, n)) rfl rfl rfl B8 rfl ?_
 intro w qk B8 hz8
 have B8 : Bk w g8 24 (spL (0, n)) := B8
 have B5 := Bk.keep B5 qk (by omega)
 have S1 := Sl.keep S1 qk (fun k hk e => by omega)
 have B6 := Bk.keep B6 qk (by omega)
 have q := q.step qk (fun k hk e => by omega)
 refine go T_ok 200 rfl ?_
 refine call rfl rfl rfl (ok _ (by decide) rfl) (fstK_any (fun r => decide (o.1 < r.k)) l A c B _ _ S1 (by omega) (prd57 B5)) ?_
 rintro x w ⟨rfl, qk⟩
 have B5 := B5.no qk
 have S1 := S1.no qk
 have B6 := B6.no qk
 have B8 := B8.no qk
 have q := q.trans qk
 obtain ⟨lo, hlo⟩ : ∃ x : Int, x = (if fst (fun r => decide (o.1 < r.k)) l = 0 then 0 else ((l[fst (fun r => decide (o.1 < r.k)) l - 1]?).map (·.lo)).getD 0) := ⟨_, rfl⟩
 obtain ⟨hi, hhi⟩ : ∃ x : Int, x = ((l[fst (fun r => decide (o.1 ≤ r.k)) l]?).map (·.hi)).getD (n) := ⟨_, rfl⟩
 rw [show shareP n l o.1 = (lo, hi) by rw [hlo, hhi]; rfl]
 generalize fst (fun r => decide (o.1 < r.k)) l = i at hfl1 hlo ⊢
 refine go T_ok 200 rfl ?_
 refine condD rfl (fun hi0 => ?_) (fun hi0 => ?_)
 ·obtain ⟨r, hr⟩ := get_of (l := l) (i := i - 1) (by omega)
  obtain ⟨b1, o1, hA1, hb1, hc1⟩ := S1.el rwL_len hr
  have hrm := hm.1 r (List.mem_of_getElem? hr)
  rw [if_neg (by omega), hr] at hlo
  have hlo : lo = r.lo := hlo
  have e1 : w64 ((i : Int) - 1) = ((i - 1 : Nat) : Int) := by rw [w64_id (by omega) (by omega)]; omega
  refine go T_ok 200 rfl ?_
  rw [e1, hA1]
  refine idx T_ok rfl rfl rfl rfl rfl (i - 1) rfl (by omega) ?_
  refine go T_ok 200 rfl ?_
  refine ld T_ok rfl rfl rfl rfl (hc1.get (i := 1) rfl) ?_
  refine go T_ok 200 rfl ?_
  rw [← hA1]
  rw [← hlo]
  refine st T_ok rfl rfl rfl rfl (v := I lo) rfl rfl B8 rfl ?_
  intro w qk B8 hz8
  have B8 : Bk w g8 24 (spL (lo, n)) := B8
  have B5 := Bk.keep B5 qk (by omega)
  have S1 := Sl.keep S1 qk (fun k hk e => by omega)
  have B6 := Bk.keep B6 qk (by omega)
  have q := q.step qk (fun k hk e => by omega)
  refine go T_ok 200 rfl ?_
  refine call rfl rfl rfl (ok _ (by decide) rfl) (fstK_any (fun r => decide (o.1 ≤ r.k)) l A c B _ _ S1 (by omega) (prd58 B5)) ?_
  rintro x w ⟨rfl, qk⟩
  have B5 := B5.no qk
  have S1 := S1.no qk
  have B6 := B6.no qk
  have B8 := B8.no qk
  have q := q.trans qk
  generalize fst (fun r => decide (o.1 ≤ r.k)) l = j at hfl2 hhi ⊢
  refine go T_ok 200 rfl ?_
  refine condD rfl (fun hj => ?_) (fun hj => ?_)
  ·have hj : j < l.length := by omega
   obtain ⟨r, hr⟩ := get_of hj
   obtain ⟨b1, o1, hA1, hb1, hc1⟩ := S1.el rwL_len hr
   have hrm := hm.1 r (List.mem_of_getElem? hr)
   rw [hr] at hhi
   have hhi : hi = r.hi := hhi
   refine go T_ok 200 rfl ?_
   rw [hA1]
   refine idx T_ok rfl rfl rfl rfl rfl j rfl hj ?_
   refine go T_ok 200 rfl ?_
   refine ld T_ok rfl rfl rfl rfl (hc1.get (i := 2) rfl) ?_
   refine go T_ok 200 rfl ?_
   rw [← hA1]
   rw [← hhi]
   refine st T_ok rfl rfl rfl rfl (v := I hi) rfl rfl B8 rfl ?_
   intro w qk B8 hz8
   have B8 : Bk w g8 24 (spL (lo, hi)) := B8
   have B5 := Bk.keep B5 qk (by omega)
   have S1 := Sl.keep S1 qk (fun k hk e => by omega)
   have B6 := Bk.keep B6 qk (by omega)
   have q := q.step qk (fun k hk e => by omega)
   refine go T_ok 200 rfl ?_
   refine ldA T_ok rfl rfl rfl rfl rfl B8.all ?_
   refine go T_ok 200 rfl ?_
   refine stA T_ok rfl rfl rfl rfl (vs := spL (lo, hi)) rfl rfl rfl B6 rfl ?_
   intro w' q4 B4 hs4
   refine go T_ok 200 rfl ?_
   have B4 : Bk w' g6 24 (spL (lo, hi)) := B4
   exact ret (retR2 Try.results20 (resA T_ok rfl rfl rfl B4.all) rfl ⟨rfl, q.step q4 (fun k hk e => by omega)⟩)
  ·rw [List.getElem?_eq_none (by omega)] at hhi
   have hhi : hi = n := hhi
   have B8 : Bk w g8 24 (spL (lo, hi)) := by rw [hhi]; exact B8
   refine go T_ok 200 rfl ?_
   refine ldA T_ok rfl rfl rfl rfl rfl B8.all ?_
   refine go T_ok 200 rfl ?_
   refine stA T_ok rfl rfl rfl rfl (vs := spL (lo, hi)) rfl rfl rfl B6 rfl ?_
   intro w' q4 B4 hs4
   refine go T_ok 200 rfl ?_
   have B4 : Bk w' g6 24 (spL (lo, hi)) := B4
   exact ret (retR2 Try.results20 (resA T_ok rfl rfl rfl B4.all) rfl ⟨rfl, q.step q4 (fun k hk e => by omega)⟩)
 ·rw [if_pos (by omega)] at hlo
  have B8 : Bk w g8 24 (spL (lo, n)) := by rw [hlo]; exact B8
  refine go T_ok 200 rfl ?_
  refine call rfl rfl rfl (ok _ (by decide) rfl) (fstK_any (fun r => decide (o.1 ≤ r.k)) l A c B _ _ S1 (by omega) (prd58 B5)) ?_
  rintro x w ⟨rfl, qk⟩
  have B5 := B5.no qk
  have S1 := S1.no qk
  have B6 := B6.no qk
  have B8 := B8.no qk
  have q := q.trans qk
  generalize fst (fun r => decide (o.1 ≤ r.k)) l = j at hfl2 hhi ⊢
  refine go T_ok 200 rfl ?_
  refine condD rfl (fun hj => ?_) (fun hj => ?_)
  ·have hj : j < l.length := by omega
   obtain ⟨r, hr⟩ := get_of hj
   obtain ⟨b1, o1, hA1, hb1, hc1⟩ := S1.el rwL_len hr
   have hrm := hm.1 r (List.mem_of_getElem? hr)
   rw [hr] at hhi
   have hhi : hi = r.hi := hhi
   refine go T_ok 200 rfl ?_
   rw [hA1]
   refine idx T_ok rfl rfl rfl rfl rfl j rfl hj ?_
   refine go T_ok 200 rfl ?_
   refine ld T_ok rfl rfl rfl rfl (hc1.get (i := 2) rfl) ?_
   refine go T_ok 200 rfl ?_
   rw [← hA1]
   rw [← hhi]
   refine st T_ok rfl rfl rfl rfl (v := I hi) rfl rfl B8 rfl ?_
   intro w qk B8 hz8
   have B8 : Bk w g8 24 (spL (lo, hi)) := B8
   have B5 := Bk.keep B5 qk (by omega)
   have S1 := Sl.keep S1 qk (fun k hk e => by omega)
   have B6 := Bk.keep B6 qk (by omega)
   have q := q.step qk (fun k hk e => by omega)
   refine go T_ok 200 rfl ?_
   refine ldA T_ok rfl rfl rfl rfl rfl B8.all ?_
   refine go T_ok 200 rfl ?_
   refine stA T_ok rfl rfl rfl rfl (vs := spL (lo, hi)) rfl rfl rfl B6 rfl ?_
   intro w' q4 B4 hs4
   refine go T_ok 200 rfl ?_
   have B4 : Bk w' g6 24 (spL (lo, hi)) := B4
   exact ret (retR2 Try.results20 (resA T_ok rfl rfl rfl B4.all) rfl ⟨rfl, q.step q4 (fun k hk e => by omega)⟩)
  ·rw [List.getElem?_eq_none (by omega)] at hhi
   have hhi : hi = n := hhi
   have B8 : Bk w g8 24 (spL (lo, hi)) := by rw [hhi]; exact B8
   refine go T_ok 200 rfl ?_
   refine ldA T_ok rfl rfl rfl rfl rfl B8.all ?_
   refine go T_ok 200 rfl ?_
   refine stA T_ok rfl rfl rfl rfl (vs := spL (lo, hi)) rfl rfl rfl B6 rfl ?_
   intro w' q4 B4 hs4
   refine go T_ok 200 rfl ?_
   have B4 : Bk w' g6 24 (spL (lo, hi)) := B4
   exact ret (retR2 Try.results20 (resA T_ok rfl rfl rfl B4.all) rfl ⟨rfl, q.step q4 (fun k hk e => by omega)⟩)
set_option maxRecDepth 20000 in
set_option maxHeartbeats 4000000 in
theorem Bent_any (n : Int) (l : List Rw) (o : Int × Int) (A : Option Addr) (c B : Nat) (w : World) (S1 : Sl w B 3 A l.length (l.flatMap rwL)) (hl : l.length ≤ 9223372036854775807) (hn : 2 ≤ n ∧ n ≤ 1000000) (hm : Mono 0 1000000 n true l) (ho : 0 ≤ o.1 ∧ o.1 ≤ o.2 ∧ o.2 ≤ n) :
  Ret Try.prog 21 [.int .i64 n, .slice A l.length c, .agg (spL o).toArray] w fun x w' => x = .tuple #[.agg (spL (if (bentP l o).2 < (bentP l o).1 then (0, 0) else bentP l o)).toArray, I (if (bentP l o).2 < (bentP l o).1 then 5 else 0)] ∧ Chg No w w' := by
 have hl4 : l.length ≤ 40 := hm.2.2.2
 have hfl1 := fst_le (fun r => decide (o.1 ≤ r.hi)) l
 have hfl2 := fst_le (fun r => decide (o.2 < r.lo)) l
 refine enter Try.func21 rfl Try.ntmps21 rfl ?_
 refine go T_ok 200 rfl ?_
 refine bx rfl rfl rfl (cs := spL o) rfl ?_
 intro g5 u5 hg5 hs5 q5 B5
 have q := q5
 have S1 := S1.no q5
 refine go T_ok 200 rfl ?_
 refine nw rfl rfl (z := .agg #[I 0, I 0]) (by kernel_rfl) (cs := [I 0, I 0]) rfl ?_
 intro g6 w hg6 hs6 qk B6
 have B5 := B5.no qk
 have S1 := S1.no qk
 have q := q.trans qk
 have hg5w := q5.size
 refine go T_ok 200 rfl ?_
 refine call rfl rfl rfl (ok _ (by decide) rfl) (kinked_any n l A c _ _ S1 hl) ?_
 rintro x w ⟨⟨b, rfl, hb⟩, qk⟩
 have B5 := B5.no qk
 have S1 := S1.no qk
 have B6 := B6.no qk
 have q := q.trans qk
 obtain rfl : b = true := hb.2 ⟨hn, hm⟩
 refine go T_ok 200 rfl ?_
 repeat ((first | refine ldA T_ok rfl rfl rfl rfl rfl (Bk.all B5) ?_ | refine ldA T_ok rfl rfl rfl rfl rfl (Bk.all B6) ?_ | refine ld T_ok rfl rfl rfl rfl (Bk.get B5 rfl) ?_ | refine ld T_ok rfl rfl rfl rfl (Bk.get B6 rfl) ?_ | refine gT rfl rfl rfl rfl ?_ | refine gF rfl rfl rfl rfl ?_ | refine condT rfl rfl ?_ | refine condF rfl rfl ?_); refine go T_ok 200 rfl ?_)
 refine call rfl rfl rfl (ok _ (by decide) rfl) (spanned_any o 0 n _) ?_
 rintro x w ⟨rfl, qk⟩
 have B5 := B5.no qk
 have S1 := S1.no qk
 have B6 := B6.no qk
 have q := q.trans qk
 rw [decide_eq_true (show SpOk o 0 n from ho)]
 refine go T_ok 200 rfl ?_
 repeat ((first | refine ldA T_ok rfl rfl rfl rfl rfl (Bk.all B5) ?_ | refine ldA T_ok rfl rfl rfl rfl rfl (Bk.all B6) ?_ | refine ld T_ok rfl rfl rfl rfl (Bk.get B5 rfl) ?_ | refine ld T_ok rfl rfl rfl rfl (Bk.get B6 rfl) ?_ | refine gT rfl rfl rfl rfl ?_ | refine gF rfl rfl rfl rfl ?_ | refine condT rfl rfl ?_ | refine condF rfl rfl ?_); refine go T_ok 200 rfl ?_)
 have yB5 := B5.lt
 have yS1 := S1.2.1
 have yB6 := B6.lt
 have yq := q.size
 refine nw rfl rfl (z := .agg #[I 0, I 0]) (by kernel_rfl) (cs := [I 0, I 0]) rfl ?_
 intro g8 w hg8 hs8 qk B8
 have B5 := B5.no qk
 have S1 := S1.no qk
 have B6 := B6.no qk
 have q := q.trans qk
 refine go T_ok 200 rfl ?_
 refine stA T_ok rfl rfl rfl rfl (vs := spL (0, 1000000)) rfl rfl rfl B8 rfl ?_
 intro w qk B8 hz8
 have B8 : Bk w g8 24 (spL (0, 1000000)) := B8
 have B5 := Bk.keep B5 qk (by omega)
 have S1 := Sl.keep S1 qk (fun k hk e => by omega)
 have B6 := Bk.keep B6 qk (by omega)
 have q := q.step qk (fun k hk e => by omega)
 refine go T_ok 200 rfl ?_
 refine call rfl rfl rfl (ok _ (by decide) rfl) (fstK_any (fun r => decide (o.1 ≤ r.hi)) l A c B _ _ S1 (by omega) (prd60 B5)) ?_
 rintro x w ⟨rfl, qk⟩
 have B5 := B5.no qk
 have S1 := S1.no qk
 have B6 := B6.no qk
 have B8 := B8.no qk
 have q := q.trans qk
 obtain ⟨lo, hlo⟩ : ∃ x : Int, x = (if fst (fun r => decide (o.1 ≤ r.hi)) l = 0 then 0 else ((l[fst (fun r => decide (o.1 ≤ r.hi)) l - 1]?).map (fun r => r.k + 1)).getD 0) := ⟨_, rfl⟩
 obtain ⟨hi, hhi⟩ : ∃ x : Int, x = ((l[fst (fun r => decide (o.2 < r.lo)) l]?).map (fun r => r.k - 1)).getD (1000000) := ⟨_, rfl⟩
 rw [show bentP l o = (lo, hi) by rw [hlo, hhi]; rfl]
 generalize fst (fun r => decide (o.1 ≤ r.hi)) l = i at hfl1 hlo ⊢
 refine go T_ok 200 rfl ?_
 refine condD rfl (fun hi0 => ?_) (fun hi0 => ?_)
 ·obtain ⟨r, hr⟩ := get_of (l := l) (i := i - 1) (by omega)
  obtain ⟨b1, o1, hA1, hb1, hc1⟩ := S1.el rwL_len hr
  have hrm := hm.1 r (List.mem_of_getElem? hr)
  rw [if_neg (by omega), hr] at hlo
  have hlo : lo = r.k + 1 := hlo
  have e1 : w64 ((i : Int) - 1) = ((i - 1 : Nat) : Int) := by rw [w64_id (by omega) (by omega)]; omega
  refine go T_ok 200 rfl ?_
  rw [e1, hA1]
  refine idx T_ok rfl rfl rfl rfl rfl (i - 1) rfl (by omega) ?_
  refine go T_ok 200 rfl ?_
  refine ld T_ok rfl rfl rfl rfl (hc1.get (i := 0) rfl) ?_
  refine go T_ok 200 rfl ?_
  rw [← hA1]
  rw [w64_id (x := r.k + 1) (by omega) (by omega)]
  rw [← hlo]
  refine st T_ok rfl rfl rfl rfl (v := I lo) rfl rfl B8 rfl ?_
  intro w qk B8 hz8
  have B8 : Bk w g8 24 (spL (lo, 1000000)) := B8
  have B5 := Bk.keep B5 qk (by omega)
  have S1 := Sl.keep S1 qk (fun k hk e => by omega)
  have B6 := Bk.keep B6 qk (by omega)
  have q := q.step qk (fun k hk e => by omega)
  refine go T_ok 200 rfl ?_
  refine call rfl rfl rfl (ok _ (by decide) rfl) (fstK_any (fun r => decide (o.2 < r.lo)) l A c B _ _ S1 (by omega) (prd61 B5)) ?_
  rintro x w ⟨rfl, qk⟩
  have B5 := B5.no qk
  have S1 := S1.no qk
  have B6 := B6.no qk
  have B8 := B8.no qk
  have q := q.trans qk
  generalize fst (fun r => decide (o.2 < r.lo)) l = j at hfl2 hhi ⊢
  refine go T_ok 200 rfl ?_
  refine condD rfl (fun hj => ?_) (fun hj => ?_)
  ·have hj : j < l.length := by omega
   obtain ⟨r, hr⟩ := get_of hj
   obtain ⟨b1, o1, hA1, hb1, hc1⟩ := S1.el rwL_len hr
   have hrm := hm.1 r (List.mem_of_getElem? hr)
   rw [hr] at hhi
   have hhi : hi = r.k - 1 := hhi
   refine go T_ok 200 rfl ?_
   rw [hA1]
   refine idx T_ok rfl rfl rfl rfl rfl j rfl hj ?_
   refine go T_ok 200 rfl ?_
   refine ld T_ok rfl rfl rfl rfl (hc1.get (i := 0) rfl) ?_
   refine go T_ok 200 rfl ?_
   rw [← hA1]
   rw [w64_id (x := r.k - 1) (by omega) (by omega)]
   rw [← hhi]
   refine st T_ok rfl rfl rfl rfl (v := I hi) rfl rfl B8 rfl ?_
   intro w qk B8 hz8
   have B8 : Bk w g8 24 (spL (lo, hi)) := B8
   have B5 := Bk.keep B5 qk (by omega)
   have S1 := Sl.keep S1 qk (fun k hk e => by omega)
   have B6 := Bk.keep B6 qk (by omega)
   have q := q.step qk (fun k hk e => by omega)
   refine go T_ok 200 rfl ?_
   repeat ((first | refine ldA T_ok rfl rfl rfl rfl rfl (Bk.all B5) ?_ | refine ldA T_ok rfl rfl rfl rfl rfl (Bk.all B6) ?_ | refine ldA T_ok rfl rfl rfl rfl rfl (Bk.all B8) ?_ | refine ld T_ok rfl rfl rfl rfl (Bk.get B5 rfl) ?_ | refine ld T_ok rfl rfl rfl rfl (Bk.get B6 rfl) ?_ | refine ld T_ok rfl rfl rfl rfl (Bk.get B8 rfl) ?_ | refine gT rfl rfl rfl rfl ?_ | refine gF rfl rfl rfl rfl ?_ | refine condT rfl rfl ?_ | refine condF rfl rfl ?_); refine go T_ok 200 rfl ?_)
   refine condD rfl (fun hb => ?_) (fun hb => ?_)
   ·refine go T_ok 200 rfl ?_
    refine stA T_ok rfl rfl rfl rfl (vs := spL (0, 0)) rfl rfl rfl B6 rfl ?_
    intro w' q4 B4 hs4
    refine go T_ok 200 rfl ?_
    have B4 : Bk w' g6 24 (spL (0, 0)) := B4
    rw [if_pos hb, if_pos hb]
    exact ret (retR2 Try.results21 (resA T_ok rfl rfl rfl B4.all) rfl ⟨rfl, q.step q4 (fun k hk e => by omega)⟩)
   ·refine go T_ok 200 rfl ?_
    refine ldA T_ok rfl rfl rfl rfl rfl B8.all ?_
    refine go T_ok 200 rfl ?_
    refine stA T_ok rfl rfl rfl rfl (vs := spL (lo, hi)) rfl rfl rfl B6 rfl ?_
    intro w' q4 B4 hs4
    refine go T_ok 200 rfl ?_
    have B4 : Bk w' g6 24 (spL (lo, hi)) := B4
    rw [if_neg hb, if_neg hb]
    exact ret (retR2 Try.results21 (resA T_ok rfl rfl rfl B4.all) rfl ⟨rfl, q.step q4 (fun k hk e => by omega)⟩)
  ·rw [List.getElem?_eq_none (by omega)] at hhi
   have hhi : hi = 1000000 := hhi
   have B8 : Bk w g8 24 (spL (lo, hi)) := by rw [hhi]; exact B8
   refine go T_ok 200 rfl ?_
   repeat ((first | refine ldA T_ok rfl rfl rfl rfl rfl (Bk.all B5) ?_ | refine ldA T_ok rfl rfl rfl rfl rfl (Bk.all B6) ?_ | refine ldA T_ok rfl rfl rfl rfl rfl (Bk.all B8) ?_ | refine ld T_ok rfl rfl rfl rfl (Bk.get B5 rfl) ?_ | refine ld T_ok rfl rfl rfl rfl (Bk.get B6 rfl) ?_ | refine ld T_ok rfl rfl rfl rfl (Bk.get B8 rfl) ?_ | refine gT rfl rfl rfl rfl ?_ | refine gF rfl rfl rfl rfl ?_ | refine condT rfl rfl ?_ | refine condF rfl rfl ?_); refine go T_ok 200 rfl ?_)
   refine condD rfl (fun hb => ?_) (fun hb => ?_)
   ·refine go T_ok 200 rfl ?_
    refine stA T_ok rfl rfl rfl rfl (vs := spL (0, 0)) rfl rfl rfl B6 rfl ?_
    intro w' q4 B4 hs4
    refine go T_ok 200 rfl ?_
    have B4 : Bk w' g6 24 (spL (0, 0)) := B4
    rw [if_pos hb, if_pos hb]
    exact ret (retR2 Try.results21 (resA T_ok rfl rfl rfl B4.all) rfl ⟨rfl, q.step q4 (fun k hk e => by omega)⟩)
   ·refine go T_ok 200 rfl ?_
    refine ldA T_ok rfl rfl rfl rfl rfl B8.all ?_
    refine go T_ok 200 rfl ?_
    refine stA T_ok rfl rfl rfl rfl (vs := spL (lo, hi)) rfl rfl rfl B6 rfl ?_
    intro w' q4 B4 hs4
    refine go T_ok 200 rfl ?_
    have B4 : Bk w' g6 24 (spL (lo, hi)) := B4
    rw [if_neg hb, if_neg hb]
    exact ret (retR2 Try.results21 (resA T_ok rfl rfl rfl B4.all) rfl ⟨rfl, q.step q4 (fun k hk e => by omega)⟩)
 ·rw [if_pos (by omega)] at hlo
  have B8 : Bk w g8 24 (spL (lo, 1000000)) := by rw [hlo]; exact B8
  refine go T_ok 200 rfl ?_
  refine call rfl rfl rfl (ok _ (by decide) rfl) (fstK_any (fun r => decide (o.2 < r.lo)) l A c B _ _ S1 (by omega) (prd61 B5)) ?_
  rintro x w ⟨rfl, qk⟩
  have B5 := B5.no qk
  have S1 := S1.no qk
  have B6 := B6.no qk
  have B8 := B8.no qk
  have q := q.trans qk
  generalize fst (fun r => decide (o.2 < r.lo)) l = j at hfl2 hhi ⊢
  refine go T_ok 200 rfl ?_
  refine condD rfl (fun hj => ?_) (fun hj => ?_)
  ·have hj : j < l.length := by omega
   obtain ⟨r, hr⟩ := get_of hj
   obtain ⟨b1, o1, hA1, hb1, hc1⟩ := S1.el rwL_len hr
   have hrm := hm.1 r (List.mem_of_getElem? hr)
   rw [hr] at hhi
   have hhi : hi = r.k - 1 := hhi
   refine go T_ok 200 rfl ?_
   rw [hA1]
   refine idx T_ok rfl rfl rfl rfl rfl j rfl hj ?_
   refine go T_ok 200 rfl ?_
   refine ld T_ok rfl rfl rfl rfl (hc1.get (i := 0) rfl) ?_
   refine go T_ok 200 rfl ?_
   rw [← hA1]
   rw [w64_id (x := r.k - 1) (by omega) (by omega)]
   rw [← hhi]
   refine st T_ok rfl rfl rfl rfl (v := I hi) rfl rfl B8 rfl ?_
   intro w qk B8 hz8
   have B8 : Bk w g8 24 (spL (lo, hi)) := B8
   have B5 := Bk.keep B5 qk (by omega)
   have S1 := Sl.keep S1 qk (fun k hk e => by omega)
   have B6 := Bk.keep B6 qk (by omega)
   have q := q.step qk (fun k hk e => by omega)
   refine go T_ok 200 rfl ?_
   repeat ((first | refine ldA T_ok rfl rfl rfl rfl rfl (Bk.all B5) ?_ | refine ldA T_ok rfl rfl rfl rfl rfl (Bk.all B6) ?_ | refine ldA T_ok rfl rfl rfl rfl rfl (Bk.all B8) ?_ | refine ld T_ok rfl rfl rfl rfl (Bk.get B5 rfl) ?_ | refine ld T_ok rfl rfl rfl rfl (Bk.get B6 rfl) ?_ | refine ld T_ok rfl rfl rfl rfl (Bk.get B8 rfl) ?_ | refine gT rfl rfl rfl rfl ?_ | refine gF rfl rfl rfl rfl ?_ | refine condT rfl rfl ?_ | refine condF rfl rfl ?_); refine go T_ok 200 rfl ?_)
   refine condD rfl (fun hb => ?_) (fun hb => ?_)
   ·refine go T_ok 200 rfl ?_
    refine stA T_ok rfl rfl rfl rfl (vs := spL (0, 0)) rfl rfl rfl B6 rfl ?_
    intro w' q4 B4 hs4
    refine go T_ok 200 rfl ?_
    have B4 : Bk w' g6 24 (spL (0, 0)) := B4
    rw [if_pos hb, if_pos hb]
    exact ret (retR2 Try.results21 (resA T_ok rfl rfl rfl B4.all) rfl ⟨rfl, q.step q4 (fun k hk e => by omega)⟩)
   ·refine go T_ok 200 rfl ?_
    refine ldA T_ok rfl rfl rfl rfl rfl B8.all ?_
    refine go T_ok 200 rfl ?_
    refine stA T_ok rfl rfl rfl rfl (vs := spL (lo, hi)) rfl rfl rfl B6 rfl ?_
    intro w' q4 B4 hs4
    refine go T_ok 200 rfl ?_
    have B4 : Bk w' g6 24 (spL (lo, hi)) := B4
    rw [if_neg hb, if_neg hb]
    exact ret (retR2 Try.results21 (resA T_ok rfl rfl rfl B4.all) rfl ⟨rfl, q.step q4 (fun k hk e => by omega)⟩)
  ·rw [List.getElem?_eq_none (by omega)] at hhi
   have hhi : hi = 1000000 := hhi
   have B8 : Bk w g8 24 (spL (lo, hi)) := by rw [hhi]; exact B8
   refine go T_ok 200 rfl ?_
   repeat ((first | refine ldA T_ok rfl rfl rfl rfl rfl (Bk.all B5) ?_ | refine ldA T_ok rfl rfl rfl rfl rfl (Bk.all B6) ?_ | refine ldA T_ok rfl rfl rfl rfl rfl (Bk.all B8) ?_ | refine ld T_ok rfl rfl rfl rfl (Bk.get B5 rfl) ?_ | refine ld T_ok rfl rfl rfl rfl (Bk.get B6 rfl) ?_ | refine ld T_ok rfl rfl rfl rfl (Bk.get B8 rfl) ?_ | refine gT rfl rfl rfl rfl ?_ | refine gF rfl rfl rfl rfl ?_ | refine condT rfl rfl ?_ | refine condF rfl rfl ?_); refine go T_ok 200 rfl ?_)
   refine condD rfl (fun hb => ?_) (fun hb => ?_)
   ·refine go T_ok 200 rfl ?_
    refine stA T_ok rfl rfl rfl rfl (vs := spL (0, 0)) rfl rfl rfl B6 rfl ?_
    intro w' q4 B4 hs4
    refine go T_ok 200 rfl ?_
    have B4 : Bk w' g6 24 (spL (0, 0)) := B4
    rw [if_pos hb, if_pos hb]
    exact ret (retR2 Try.results21 (resA T_ok rfl rfl rfl B4.all) rfl ⟨rfl, q.step q4 (fun k hk e => by omega)⟩)
   ·refine go T_ok 200 rfl ?_
    refine ldA T_ok rfl rfl rfl rfl rfl B8.all ?_
    refine go T_ok 200 rfl ?_
    refine stA T_ok rfl rfl rfl rfl (vs := spL (lo, hi)) rfl rfl rfl B6 rfl ?_
    intro w' q4 B4 hs4
    refine go T_ok 200 rfl ?_
    have B4 : Bk w' g6 24 (spL (lo, hi)) := B4
    rw [if_neg hb, if_neg hb]
    exact ret (retR2 Try.results21 (resA T_ok rfl rfl rfl B4.all) rfl ⟨rfl, q.step q4 (fun k hk e => by omega)⟩)
end Go.Proofs.Ytolhfimknimliaa
