/- The contracts of bent lists of gates, of heights, of the kink of a path. -/
import Derived.Test.YtolhfimknimliaaG1
namespace Go.Proofs.Ytolhfimknimliaa.L
open Go.Ev Go.Proofs Go.Bend
attribute [local irreducible] At AtH
theorem take_snoc (l : List Ga) (j : Nat) (g : Ga) (h : l[j]? = some g) : iL ((l.take (j + 1)).map (·.z)) = iL ((l.take j).map (·.z)) ++ [I g.z] := by
 rw [List.take_add_one, h]
 simp [iL]
theorem iL_z (l : List Ga) : (iL (l.map (·.z))).length = l.length := by simp [iL]
theorem be_of {l : List Ga} (h1 : ∀ g ∈ l, GaOk g ∧ g.hi - g.lo ≤ 60) (h2 : ZsOk (l.map (·.z))) : BeOk l := by
 have n0 := h2.n0
 have n1 := h2.n1
 rw [List.length_map] at n0 n1
 refine ⟨h1, fun i a ha b hb => h2.up i a.z ?_ b.z ?_, n0, n1⟩
 ·rw [List.getElem?_map, Option.mem_def.1 ha]; rfl
 ·rw [List.getElem?_map, Option.mem_def.1 hb]; rfl
set_option maxRecDepth 20000 in
set_option maxHeartbeats 4000000 in
theorem Bent_any2 (l : List Ga) (hn : l.length ≤ 1000) (A : Option Addr) (c B : Nat) (w : World) (S0 : SG w B A l) : Ret Try.prog 15 [.slice A l.length c] w fun v w' => (∃ b, v = .bool b ∧ (b = true → BeOk l)) ∧ Chg No w w' := by
 have S0 := S0.more S0.2.1 (Nat.le_refl _)
 refine enter Try.func15 rfl Try.ntmps15 rfl ?_
 refine go T_ok 200 rfl ?_
 refine loop [0, 3, 4] (fun x : Nat × Option Addr × Nat => [.slice A l.length c, .slice x.2.1 x.1 x.2.2, .int .i64 (x.1 : Int)])
  (fun x w' => x.1 ≤ l.length ∧ Chg No w w' ∧ w'.ownsRow w.heap.size 3 1 (.slice x.2.1 x.1 x.2.2) x.1 (iL ((l.take x.1).map (·.z))) ∧ (∀ i, i < x.1 → ∀ g, l[i]? = some g → GaOk g ∧ g.hi - g.lo ≤ 60)) (fun x => l.length - x.1) (0, none, 0) (fun _ => rfl) rfl ⟨Nat.zero_le _, Chg.refl _ _, own_nil, fun i h => absurd h (Nat.not_lt_zero _)⟩ ?_
 rintro ⟨j, A2, c2⟩ τ w2 ⟨hj, q, on, hg⟩
 simp only at hj on hg
 dsimp only
 have S1 := S0.no q
 refine go T_ok 200 rfl ?_
 refine condD rfl (fun hlt => ?_) (fun hlt => ?_)
 ·have hltj : j < l.length := by have : (j : Int) < (l.length : Int) := hlt; omega
  obtain ⟨g, hgg⟩ := get_ga hltj
  obtain ⟨b1, o1, hA1, hb1, hc1⟩ := S1.el gaL_len hgg
  have e3 : w64 ((j : Int) + 1) = ((j + 1 : Nat) : Int) := w64_id (by omega) (by omega)
  have hz1 := q.size
  refine go T_ok 200 rfl ?_
  rw [hA1]
  refine idx T_ok rfl rfl rfl rfl rfl j rfl hltj ?_
  refine go T_ok 200 rfl ?_
  refine ld T_ok rfl rfl rfl rfl (hc1.get (i := 0) rfl) ?_
  refine go T_ok 200 rfl ?_
  refine app1 T_ok rfl rfl rfl rfl rfl rfl (cs := [I g.z]) rfl rfl rfl rfl (fun _ => rfl) (fun _ => rfl) (fun _ => rfl) on (by unfold maxLen; omega) (by omega) (by omega) ?_
  intro gx A3 c3 w3 o1' q1 hs1 hown
  rw [← take_snoc l j g hgg] at o1'
  have q := q.step q1 (fun k hk e => by have := own_ge on e; omega)
  have S1 := S0.no q
  have hc1 := hc1.keep (by omega) q1 (fun e => by have := own_ge on e; omega)
  clear on hown hs1 q1
  have l1 : b1 < w3.heap.size := Nat.lt_of_lt_of_le hb1 (by have := q.size; omega)
  refine go T_ok 200 rfl ?_
  refine draw mixed (fun w' => Chg No w3 w') ([0,1,2,3].map (fun i => (i, true)) ++ [(4, false)] ++ [5,6,7,8,9,10,11,12,13,14,15,16,17,18,19].map (fun i => (i, true))) rfl (by kernel_rfl) (Chg.drew _) ?_
  refine goH T_ok 200 rfl ?_
  refine quietH rfl (fun w' hS => r_idx T_ok rfl rfl rfl rfl j rfl hltj) ?_
  refine goH T_ok 200 rfl ?_
  refine quietH rfl (fun w' hS => r_loadA T_ok rfl rfl rfl rfl (hc1.keep l1 hS (fun h => h))) ?_
  refine goH T_ok 200 rfl ?_
  refine callE rfl rfl rfl (ok _ (by decide) rfl) (Gate_any g _) ?_
  rintro x' w' ⟨⟨b, rfl, hb⟩, q2⟩
  have qk := (Chg.drew w3).trans q2
  refine ⟨qk, ?_⟩
  cases b with
  | false =>
   refine goH T_ok 200 rfl ?_
   repeat (first | (refine passE rfl ?_; refine goH T_ok 200 rfl ?_) | (refine guardHA (b := false) rfl rfl rfl rfl (fun h => by cases h) (fun _ => ?_); refine goH T_ok 200 rfl ?_) | (refine guardHA (b := true) rfl rfl rfl rfl (fun _ => ?_) (fun h => by cases h); refine goH T_ok 200 rfl ?_))
   refine endH ?_
   rw [← hA1]
   have q := q.trans qk
   refine go T_ok 200 rfl ?_
   repeat (first | (refine gT rfl rfl rfl rfl ?_; refine go T_ok 200 rfl ?_) | (refine gF rfl rfl rfl rfl ?_; refine go T_ok 200 rfl ?_) | (refine condT rfl rfl ?_; refine go T_ok 200 rfl ?_) | (refine condF rfl rfl ?_; refine go T_ok 200 rfl ?_))
   exact ret (ret1 (v := .bool false) Try.results15 rfl ⟨⟨false, rfl, fun h => by cases h⟩, q⟩)
  | true =>
  have hgo := hb rfl
  have x1 := hgo.l0; have x2 := hgo.lh; have x3 := hgo.h1
  refine goH T_ok 200 rfl ?_
  repeat (first | (refine gTH rfl rfl rfl rfl ?_; refine goH T_ok 200 rfl ?_) | (refine gFH rfl rfl rfl rfl ?_; refine goH T_ok 200 rfl ?_))
  refine quietH rfl (fun w' hS => r_idx T_ok rfl rfl rfl rfl j rfl hltj) ?_
  refine goH T_ok 200 rfl ?_
  refine quietH rfl (fun w' hS => r_load T_ok rfl rfl rfl ((hc1.keep l1 hS (fun h => h)).get (i := 2) rfl)) ?_
  refine goH T_ok 200 rfl ?_
  refine quietH rfl (fun w' hS => r_idx T_ok rfl rfl rfl rfl j rfl hltj) ?_
  refine goH T_ok 200 rfl ?_
  refine quietH rfl (fun w' hS => r_load T_ok rfl rfl rfl ((hc1.keep l1 hS (fun h => h)).get (i := 1) rfl)) ?_
  refine goH T_ok 200 rfl ?_
  rw [w64_id (x := g.hi - g.lo) (by omega) (by omega)]
  refine goH T_ok 200 rfl ?_
  repeat (first | (refine passE rfl ?_; refine goH T_ok 200 rfl ?_) | (refine guardHA (b := false) rfl rfl rfl rfl (fun h => by cases h) (fun _ => ?_); refine goH T_ok 200 rfl ?_) | (refine guardHA (b := true) rfl rfl rfl rfl (fun _ => ?_) (fun h => by cases h); refine goH T_ok 200 rfl ?_))
  refine endH ?_
  rw [← hA1]
  by_cases h60 : 60 < g.hi - g.lo
  ·rw [decide_eq_true h60]
   have q := q.trans qk
   refine go T_ok 200 rfl ?_
   repeat (first | (refine gT rfl rfl rfl rfl ?_; refine go T_ok 200 rfl ?_) | (refine gF rfl rfl rfl rfl ?_; refine go T_ok 200 rfl ?_) | (refine condT rfl rfl ?_; refine go T_ok 200 rfl ?_) | (refine condF rfl rfl ?_; refine go T_ok 200 rfl ?_))
   exact ret (ret1 (v := .bool false) Try.results15 rfl ⟨⟨false, rfl, fun h => by cases h⟩, q⟩)
  rw [decide_eq_false h60]
  have o1' := own_no o1' qk
  have q := q.trans qk
  refine go T_ok 200 rfl ?_
  repeat (first | (refine gT rfl rfl rfl rfl ?_; refine go T_ok 200 rfl ?_) | (refine gF rfl rfl rfl rfl ?_; refine go T_ok 200 rfl ?_) | (refine condT rfl rfl ?_; refine go T_ok 200 rfl ?_) | (refine condF rfl rfl ?_; refine go T_ok 200 rfl ?_))
  rw [e3]
  refine round ⟨(j + 1, A3, c3), rfl, ⟨by simp only; omega, q, o1', fun i hi y hy => ?_⟩, by simp only; omega⟩
  simp only at hi
  by_cases he : i = j
  ·subst he; rw [hgg] at hy; cases hy; exact ⟨hgo, by omega⟩
  ·exact hg i (by omega) y hy
 obtain rfl : j = l.length := by have : ¬ (j : Int) < (l.length : Int) := hlt; omega
 rw [List.take_length] at on
 have Sz := own_sl on
 have hH := Heights_any (l.map (·.z)) (by simpa using hn) A2 c2 _ _ (by rw [List.length_map]; exact Sz)
 rw [List.length_map] at hH
 refine go T_ok 200 rfl ?_
 refine call rfl rfl rfl (ok _ (by decide) rfl) hH ?_
 rintro x w' ⟨⟨b, rfl, hb⟩, qk⟩
 have q := q.trans qk
 refine go T_ok 200 rfl ?_
 refine ret (ret1 (v := .bool b) Try.results15 rfl ⟨⟨b, rfl, fun h => be_of (fun g hg' => ?_) (hb h)⟩, q⟩)
 obtain ⟨i, hi⟩ := List.getElem?_of_mem hg'
 exact hg i (List.getElem?_eq_some_iff.1 hi).1 g hi
set_option maxRecDepth 20000 in
set_option maxHeartbeats 4000000 in
theorem Zs_any (l : List Ga) (hn : l.length ≤ 1000) (A : Option Addr) (c B : Nat) (w : World) (S0 : SG w B A l) : Ret Try.prog 17 [.slice A l.length c] w fun v w' => ∃ A2 c2, v = .slice A2 l.length c2 ∧ Sl w' w'.heap.size 1 A2 l.length (iL (l.map (·.z))) ∧ Chg No w w' := by
 have S0 := S0.more S0.2.1 (Nat.le_refl _)
 refine enter Try.func17 rfl Try.ntmps17 rfl ?_
 refine go T_ok 200 rfl ?_
 refine loop [0, 3, 4] (fun x : Nat × Option Addr × Nat => [.slice A l.length c, .slice x.2.1 x.1 x.2.2, .int .i64 (x.1 : Int)])
  (fun x w' => x.1 ≤ l.length ∧ Chg No w w' ∧ w'.ownsRow w.heap.size 3 1 (.slice x.2.1 x.1 x.2.2) x.1 (iL ((l.take x.1).map (·.z)))) (fun x => l.length - x.1) (0, none, 0) (fun _ => rfl) rfl ⟨Nat.zero_le _, Chg.refl _ _, own_nil⟩ ?_
 rintro ⟨j, A2, c2⟩ τ w2 ⟨hj, q, on⟩
 simp only at hj on
 dsimp only
 have S1 := S0.no q
 refine go T_ok 200 rfl ?_
 refine condD rfl (fun hlt => ?_) (fun hlt => ?_)
 ·have hltj : j < l.length := by have : (j : Int) < (l.length : Int) := hlt; omega
  obtain ⟨g, hgg⟩ := get_ga hltj
  obtain ⟨b1, o1, hA1, hb1, hc1⟩ := S1.el gaL_len hgg
  have e3 : w64 ((j : Int) + 1) = ((j + 1 : Nat) : Int) := w64_id (by omega) (by omega)
  have hz1 := q.size
  refine go T_ok 200 rfl ?_
  rw [hA1]
  refine idx T_ok rfl rfl rfl rfl rfl j rfl hltj ?_
  refine go T_ok 200 rfl ?_
  refine ld T_ok rfl rfl rfl rfl (hc1.get (i := 0) rfl) ?_
  refine go T_ok 200 rfl ?_
  rw [← hA1]
  refine app1 T_ok rfl rfl rfl rfl rfl rfl (cs := [I g.z]) rfl rfl rfl rfl (fun _ => rfl) (fun _ => rfl) (fun _ => rfl) on (by unfold maxLen; omega) (by omega) (by omega) ?_
  intro gx A3 c3 w3 o1' q1 hs1 hown
  rw [← take_snoc l j g hgg] at o1'
  have q := q.step q1 (fun k hk e => by have := own_ge on e; omega)
  refine go T_ok 200 rfl ?_
  rw [e3]
  exact round ⟨(j + 1, A3, c3), rfl, ⟨by simp only; omega, q, o1'⟩, by simp only; omega⟩
 obtain rfl : j = l.length := by have : ¬ (j : Int) < (l.length : Int) := hlt; omega
 rw [List.take_length] at on
 refine go T_ok 200 rfl ?_
 exact ret (ret1 (v := .slice A2 l.length c2) Try.results17 rfl ⟨A2, c2, rfl, own_sl on, q⟩)
theorem kink_any (z0 z1 z2 x0 x1 x2 : Int) (a0 : 0 ≤ z0) (a1 : z0 < z1) (a2 : z1 < z2) (a3 : z2 ≤ 100000) (b0 : -1000000 ≤ x0 ∧ x0 ≤ 1000000) (b1 : -1000000 ≤ x1 ∧ x1 ≤ 1000000) (b2 : -1000000 ≤ x2 ∧ x2 ≤ 1000000) (w : World) :
  Ret Try.prog 48 [I z0, I z1, I z2, I x0, I x1, I x2] w fun v w' => v = I (turnP z0 z1 z2 x0 x1 x2) ∧ w = w' := by
 obtain ⟨h1, h2, h3⟩ := turn_bd a0 a1 a2 a3 b0 b1 b2
 have e1 : w64 ((x2 - x1) * (z1 - z0)) = (x2 - x1) * (z1 - z0) := w64_id (by omega) (by omega)
 have e2 : w64 ((x1 - x0) * (z2 - z1)) = (x1 - x0) * (z2 - z1) := w64_id (by omega) (by omega)
 have e3 : w64 ((z1 - z0) * (z2 - z1)) = (z1 - z0) * (z2 - z1) := w64_id (by omega) (by omega)
 have e4 : w64 ((x2 - x1) * (z1 - z0) - (x1 - x0) * (z2 - z1)) = turnA z0 z1 z2 x0 x1 x2 := w64_id (by omega) (by omega)
 have hA : -400000000000 ≤ turnA z0 z1 z2 x0 x1 x2 ∧ turnA z0 z1 z2 x0 x1 x2 ≤ 400000000000 := by unfold turnA; omega
 refine enter Try.func48 rfl Try.ntmps48 rfl ?_
 refine go T_ok 200 rfl ?_
 rw [w64_id (x := x2 - x1) (by omega) (by omega), w64_id (x := z1 - z0) (by omega) (by omega), w64_id (x := x1 - x0) (by omega) (by omega), w64_id (x := z2 - z1) (by omega) (by omega), e1, e2, e3, e4]
 unfold turnP
 generalize turnA z0 z1 z2 x0 x1 x2 = a at hA ⊢
 generalize (z1 - z0) * (z2 - z1) = d at h3 ⊢
 rw [show w64 (0 - a) = -a by rw [w64_id (by omega) (by omega)]; omega, w64_id (x := 1000 * max a (-a)) (by omega) (by omega), w64_id (x := 1000 * max a (-a) + d) (by omega) (by omega), w64_id (x := 1000 * max a (-a) + d - 1) (by omega) (by omega)]
 refine quoN rfl rfl rfl rfl (by omega) (by omega) (by omega) ?_
 refine go T_ok 200 rfl ?_
 exact ret (ret1 (v := I _) Try.results48 rfl ⟨rfl, rfl⟩)
theorem turn_any (z0 z1 z2 x0 x1 x2 : Int) (a0 : 0 ≤ z0) (a1 : z0 < z1) (a2 : z1 < z2) (a3 : z2 ≤ 100000) (b0 : -1000000 ≤ x0 ∧ x0 ≤ 1000000) (b1 : -1000000 ≤ x1 ∧ x1 ≤ 1000000) (b2 : -1000000 ≤ x2 ∧ x2 ≤ 1000000) (w : World) :
  Ret Try.prog 53 [I z0, I z1, I z2, I x0, I x1, I x2] w fun v w' => v = I (turnP z0 z1 z2 x0 x1 x2) ∧ w = w' := by
 obtain ⟨h1, h2, h3⟩ := turn_bd a0 a1 a2 a3 b0 b1 b2
 have e1 : w64 ((x2 - x1) * (z1 - z0)) = (x2 - x1) * (z1 - z0) := w64_id (by omega) (by omega)
 have e2 : w64 ((x1 - x0) * (z2 - z1)) = (x1 - x0) * (z2 - z1) := w64_id (by omega) (by omega)
 have e3 : w64 ((z1 - z0) * (z2 - z1)) = (z1 - z0) * (z2 - z1) := w64_id (by omega) (by omega)
 have e4 : w64 ((x2 - x1) * (z1 - z0) - (x1 - x0) * (z2 - z1)) = turnA z0 z1 z2 x0 x1 x2 := w64_id (by omega) (by omega)
 have hA : -400000000000 ≤ turnA z0 z1 z2 x0 x1 x2 ∧ turnA z0 z1 z2 x0 x1 x2 ≤ 400000000000 := by unfold turnA; omega
 refine enter Try.func53 rfl Try.ntmps53 rfl ?_
 refine go T_ok 200 rfl ?_
 rw [w64_id (x := x2 - x1) (by omega) (by omega), w64_id (x := z1 - z0) (by omega) (by omega), w64_id (x := x1 - x0) (by omega) (by omega), w64_id (x := z2 - z1) (by omega) (by omega), e1, e2, e3, e4]
 unfold turnP
 generalize turnA z0 z1 z2 x0 x1 x2 = a at hA ⊢
 generalize (z1 - z0) * (z2 - z1) = d at h3 ⊢
 rw [show w64 (0 - a) = -a by rw [w64_id (by omega) (by omega)]; omega, w64_id (x := 1000 * max a (-a)) (by omega) (by omega), w64_id (x := 1000 * max a (-a) + d) (by omega) (by omega), w64_id (x := 1000 * max a (-a) + d - 1) (by omega) (by omega)]
 refine quoN rfl rfl rfl rfl (by omega) (by omega) (by omega) ?_
 refine go T_ok 200 rfl ?_
 exact ret (ret1 (v := I _) Try.results53 rfl ⟨rfl, rfl⟩)
theorem kink_at {l : List Ga} {xs : List Int} {j : Nat} {g0 g1 g2 : Ga} {a b c : Int} (h0 : l[j]? = some g0) (h1 : l[j + 1]? = some g1) (h2 : l[j + 2]? = some g2) (k0 : xs[j]? = some a) (k1 : xs[j + 1]? = some b) (k2 : xs[j + 2]? = some c) : kinkAt l xs j = turnP g0.z g1.z g2.z a b c := by
 unfold kinkAt
 rw [h0, h1, h2, k0, k1, k2]
theorem kink_no {l : List Ga} {xs : List Int} {j : Nat} (h : l.length ≤ j + 2) : kinkAt l xs j = 0 := by
 unfold kinkAt
 rw [List.getElem?_eq_none h]
 split
 ·rename_i h' _ _ _
  cases h'
 ·rfl
set_option maxRecDepth 20000 in
set_option maxHeartbeats 8000000 in
theorem Kink_any (l : List Ga) (hl : BeOk l) (xs : List Int) (hx : xs.length = l.length) (hin : ∀ (i : Nat) g x, l[i]? = some g → xs[i]? = some x → InG g x) (A : Option Addr) (c B : Nat) (A2 : Option Addr) (c2 B2 : Nat) (w : World) (S0 : Sl w B 1 A l.length (iL (l.map (·.z)))) (S2 : Sl w B2 1 A2 xs.length (iL xs)) :
  Ret Try.prog 16 [.slice A l.length c, .slice A2 xs.length c2] w fun v w' => (∃ k, v = I k ∧ 0 ≤ k ∧ ∀ j, kinkAt l xs j ≤ k) ∧ Chg No w w' := by
 have hn0 := hl.n0
 have hn1 := hl.n1
 have S0 : Sl w B 1 A (l.map (·.z)).length (iL (l.map (·.z))) := by rw [List.length_map]; exact S0
 refine enter Try.func16 rfl Try.ntmps16 rfl ?_
 refine go T_ok 200 rfl ?_
 refine loop [0, 1, 5, 6] (fun x : Nat × Int => [.slice A l.length c, .slice A2 xs.length c2, .int .i64 x.2, .int .i64 ((x.1 + 2 : Nat) : Int)])
  (fun x w' => x.1 + 2 ≤ l.length ∧ Chg No w w' ∧ 0 ≤ x.2 ∧ ∀ j, j < x.1 → kinkAt l xs j ≤ x.2) (fun x => l.length - x.1) (0, 0) (fun _ => rfl) rfl ⟨hn0, Chg.refl _ _, Int.le_refl _, fun j h => absurd h (Nat.not_lt_zero _)⟩ ?_
 rintro ⟨j, k⟩ τ w2 ⟨hj, q, hk0, hk⟩
 simp only at hj hk0 hk
 dsimp only
 have S1 := S0.no q
 have S3 := S2.no q
 refine go T_ok 200 rfl ?_
 refine condD rfl (fun hlt => ?_) (fun hlt => ?_)
 ·have hltj : j + 2 < l.length := by have : ((j + 2 : Nat) : Int) < (l.length : Int) := hlt; omega
  obtain ⟨g0, hg0⟩ := get_ga (l := l) (i := j) (by omega)
  obtain ⟨g1, hg1⟩ := get_ga (l := l) (i := j + 1) (by omega)
  obtain ⟨g2, hg2⟩ := get_ga (l := l) (i := j + 2) (by omega)
  obtain ⟨x0, hx0⟩ := get_i (l := xs) (i := j) (by omega)
  obtain ⟨x1, hx1⟩ := get_i (l := xs) (i := j + 1) (by omega)
  obtain ⟨x2, hx2⟩ := get_i (l := xs) (i := j + 2) (by omega)
  have i0 := hin _ _ _ hg0 hx0
  have i1 := hin _ _ _ hg1 hx1
  have i2 := hin _ _ _ hg2 hx2
  have k0 := (hl.ok g0 (List.mem_of_getElem? hg0)).1
  have k1 := (hl.ok g1 (List.mem_of_getElem? hg1)).1
  have k2 := (hl.ok g2 (List.mem_of_getElem? hg2)).1
  have u1 := hl.up j g0 hg0 g1 hg1
  have u2 := hl.up (j + 1) g1 hg1 g2 hg2
  have y0 := k0.z0; have y1 := k2.z1
  have l0 := k0.l0; have l1 := k1.l0; have l2 := k2.l0
  have m0 := k0.h1; have m1 := k1.h1; have m2 := k2.h1
  unfold InG at i0 i1 i2
  obtain ⟨b0, o0, hA0, hb0, hc0⟩ := S1.elI (x := g0.z) (j := j) (by rw [List.getElem?_map, hg0]; rfl)
  obtain ⟨b1, o1, hA1, hb1, hc1⟩ := S1.elI (x := g1.z) (j := j + 1) (by rw [List.getElem?_map, hg1]; rfl)
  obtain ⟨b2, o2, hA2, hb2, hc2⟩ := S1.elI (x := g2.z) (j := j + 2) (by rw [List.getElem?_map, hg2]; rfl)
  obtain ⟨b3, o3, hA3, hb3, hc3⟩ := S3.elI (x := x0) (j := j) hx0
  obtain ⟨b4, o4, hA4, hb4, hc4⟩ := S3.elI (x := x1) (j := j + 1) hx1
  obtain ⟨b5, o5, hA5, hb5, hc5⟩ := S3.elI (x := x2) (j := j + 2) hx2
  obtain ⟨rfl, rfl⟩ : b1 = b0 ∧ o1 = o0 := by rw [hA0] at hA1; injection hA1 with h; injection h with h1 h2; exact ⟨h1.symm, h2.symm⟩
  obtain ⟨rfl, rfl⟩ : b2 = b1 ∧ o2 = o1 := by rw [hA0] at hA2; injection hA2 with h; injection h with h1 h2; exact ⟨h1.symm, h2.symm⟩
  obtain ⟨rfl, rfl⟩ : b4 = b3 ∧ o4 = o3 := by rw [hA3] at hA4; injection hA4 with h; injection h with h1 h2; exact ⟨h1.symm, h2.symm⟩
  obtain ⟨rfl, rfl⟩ : b5 = b4 ∧ o5 = o4 := by rw [hA3] at hA5; injection hA5 with h; injection h with h1 h2; exact ⟨h1.symm, h2.symm⟩
  have s1 := S1.2.1
  have s3 := S3.2.1
  have e3 : w64 (((j + 2 : Nat) : Int) + 1) = ((j + 1 + 2 : Nat) : Int) := w64_id (by omega) (by omega)
  have e1 : w64 (((j + 2 : Nat) : Int) - 1) = ((j + 1 : Nat) : Int) := by rw [w64_id (by omega) (by omega)]; omega
  have e2 : w64 (((j + 2 : Nat) : Int) - 2) = ((j : Nat) : Int) := by rw [w64_id (by omega) (by omega)]; omega
  refine go T_ok 200 rfl ?_
  refine draw mixed (fun w' => Chg No w2 w') ([0,1,2,3,4,5,6,7,8,9,10,11,12,13,14,15,16,17,18,19,20,21,22,23,24,25,26,27,28].map (fun i => (i, true)) ++ [(29, false)] ++ [30,31].map (fun i => (i, true))) rfl (by kernel_rfl) (Chg.drew _) ?_
  refine goH T_ok 200 rfl ?_
  rw [e2, hA0]
  refine quietH rfl (fun w' hS => r_idx T_ok rfl rfl rfl rfl (j) (by first | rfl | (simp only [Int.natCast_add]; rfl)) (by omega)) ?_
  refine goH T_ok 200 rfl ?_
  refine quietH rfl (fun w' hS => r_load T_ok rfl rfl rfl ((hS.cell (a := ⟨b2, o2 + (j) * 1, none⟩) (by show b2 < _; omega) (fun h => h)).trans hc0)) ?_
  refine goH T_ok 200 rfl ?_
  rw [e1]
  refine quietH rfl (fun w' hS => r_idx T_ok rfl rfl rfl rfl (j + 1) (by first | rfl | (simp only [Int.natCast_add]; rfl)) (by omega)) ?_
  refine goH T_ok 200 rfl ?_
  refine quietH rfl (fun w' hS => r_load T_ok rfl rfl rfl ((hS.cell (a := ⟨b2, o2 + (j + 1) * 1, none⟩) (by show b2 < _; omega) (fun h => h)).trans hc1)) ?_
  refine goH T_ok 200 rfl ?_
  refine quietH rfl (fun w' hS => r_idx T_ok rfl rfl rfl rfl (j + 2) (by first | rfl | (simp only [Int.natCast_add]; rfl)) (by omega)) ?_
  refine goH T_ok 200 rfl ?_
  refine quietH rfl (fun w' hS => r_load T_ok rfl rfl rfl ((hS.cell (a := ⟨b2, o2 + (j + 2) * 1, none⟩) (by show b2 < _; omega) (fun h => h)).trans hc2)) ?_
  refine goH T_ok 200 rfl ?_
  rw [← hA0, e2, hA3]
  refine quietH rfl (fun w' hS => r_idx T_ok rfl rfl rfl rfl (j) (by first | rfl | (simp only [Int.natCast_add]; rfl)) (by omega)) ?_
  refine goH T_ok 200 rfl ?_
  refine quietH rfl (fun w' hS => r_load T_ok rfl rfl rfl ((hS.cell (a := ⟨b5, o5 + (j) * 1, none⟩) (by show b5 < _; omega) (fun h => h)).trans hc3)) ?_
  refine goH T_ok 200 rfl ?_
  rw [e1]
  refine quietH rfl (fun w' hS => r_idx T_ok rfl rfl rfl rfl (j + 1) (by first | rfl | (simp only [Int.natCast_add]; rfl)) (by omega)) ?_
  refine goH T_ok 200 rfl ?_
  refine quietH rfl (fun w' hS => r_load T_ok rfl rfl rfl ((hS.cell (a := ⟨b5, o5 + (j + 1) * 1, none⟩) (by show b5 < _; omega) (fun h => h)).trans hc4)) ?_
  refine goH T_ok 200 rfl ?_
  refine quietH rfl (fun w' hS => r_idx T_ok rfl rfl rfl rfl (j + 2) (by first | rfl | (simp only [Int.natCast_add]; rfl)) (by omega)) ?_
  refine goH T_ok 200 rfl ?_
  refine quietH rfl (fun w' hS => r_load T_ok rfl rfl rfl ((hS.cell (a := ⟨b5, o5 + (j + 2) * 1, none⟩) (by show b5 < _; omega) (fun h => h)).trans hc5)) ?_
  refine goH T_ok 200 rfl ?_
  rw [← hA3]
  have qd := Chg.drew w2
  refine callE rfl rfl rfl (ok _ (by decide) rfl) (kink_any g0.z g1.z g2.z x0 x1 x2 y0 u1 u2 y1 (by omega) (by omega) (by omega) _) ?_
  rintro x w3 ⟨rfl, rfl⟩
  refine ⟨qd, ?_⟩
  refine goH T_ok 200 rfl ?_
  repeat (first | (refine gTH rfl rfl rfl rfl ?_; refine goH T_ok 200 rfl ?_) | (refine gFH rfl rfl rfl rfl ?_; refine goH T_ok 200 rfl ?_))
  refine endH ?_
  have q := q.trans qd
  refine go T_ok 200 rfl ?_
  rw [e3]
  refine round ⟨(j + 1, max k (turnP g0.z g1.z g2.z x0 x1 x2)), rfl, ⟨by simp only; omega, q, by simp only; omega, fun i hi => ?_⟩, by simp only; omega⟩
  simp only at hi ⊢
  by_cases he : i = j
  ·subst he
   rw [kink_at hg0 hg1 hg2 hx0 hx1 hx2]
   omega
  ·have := hk i (by omega)
   omega
 have hje : l.length = j + 2 := by have : ¬ ((j + 2 : Nat) : Int) < (l.length : Int) := hlt; omega
 refine go T_ok 200 rfl ?_
 refine ret (ret1 (v := I k) Try.results16 rfl ⟨⟨k, rfl, hk0, fun i => ?_⟩, q⟩)
 rcases Nat.lt_or_ge i j with h | h
 ·exact hk i h
 ·rw [kink_no (by omega)]
  exact hk0
end Go.Proofs.Ytolhfimknimliaa.L
