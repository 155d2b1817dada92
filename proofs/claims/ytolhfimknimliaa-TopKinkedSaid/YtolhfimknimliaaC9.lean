/- The contract of the specification's bins. -/
import Derived.Test.YtolhfimknimliaaC8
namespace Go.Proofs.Ytolhfimknimliaa
open Go.Ev Go.Proofs Go.Top
attribute [local irreducible] At AtH
/-- a bin of the sky that is as defined -/
def BinOk (p : Int) (l : List Rw) : Prop := Mono 1 1000000 p false l ∧ ∃ a, l[0]? = some a ∧ a.k = 1
set_option maxRecDepth 20000 in
set_option maxHeartbeats 4000000 in
theorem rBin_any (p : Int) (l : List Rw) (A : Option Addr) (c B : Nat) (w : World) (S0 : Sl w B 3 A l.length (l.flatMap rwL)) (hl : l.length ≤ 9223372036854775807) :
    Ret Try.prog 32 [.int .i64 p, .slice A l.length c] w fun x w' => (∃ b, x = .bool b ∧ (b = true ↔ BinOk p l)) ∧ Chg No w w' := by
  refine enter Try.func32 rfl Try.ntmps32 rfl ?_
  refine go T_ok 200 rfl ?_
  refine loop [0, 1, 5] (fun j : Nat => [.int .i64 p, .slice A l.length c, .int .i64 (j : Int)])
    (fun j w' => j ≤ l.length ∧ Chg No w w' ∧ MoTo 1 1000000 p false l j) (fun j => l.length - j) 0 (fun _ => rfl) rfl ⟨Nat.zero_le _, Chg.refl _ _, fun i h => absurd h (Nat.not_lt_zero _), fun i h => absurd h (by omega)⟩ ?_
  rintro j τ w ⟨hj, q, hm⟩
  have S1 := S0.no q
  refine go T_ok 200 rfl ?_
  refine condD rfl (fun hlt => ?_) (fun hlt => ?_)
  · have hlt : j < l.length := by omega
    obtain ⟨r, hr⟩ := get_of hlt
    have hmem := List.mem_of_getElem? hr
    obtain ⟨b1, o1, hA1, hb1, hc1⟩ := S1.el rwL_len hr
    have e3 : w64 ((j : Int) + 1) = ((j + 1 : Nat) : Int) := w64_id (by omega) (by omega)
    refine go T_ok 200 rfl ?_
    rw [hA1]
    refine idx T_ok rfl rfl rfl rfl rfl j rfl hlt ?_
    refine go T_ok 200 rfl ?_
    refine ldA T_ok rfl rfl rfl rfl rfl hc1 ?_
    refine go T_ok 200 rfl ?_
    rw [← hA1]
    have yS1 := S1.2.1
    have yq := q.size
    refine nw rfl rfl (z := .agg #[I 0, I 0, I 0]) (by kernel_rfl) (cs := [I 0, I 0, I 0]) rfl ?_
    intro g3 w hg3 hs3 qk B3
    have S1 := S1.no qk
    have q := q.trans qk
    refine go T_ok 200 rfl ?_
    refine stA T_ok rfl rfl rfl rfl (vs := rwL r) rfl rfl rfl B3 rfl ?_
    intro w qk B3 hz3
    have B3 : Bk w g3 135 (rwL r) := B3
    have S1 := Sl.keep S1 qk (fun k hk e => by omega)
    have q := q.step qk (fun k hk e => by omega)
    refine go T_ok 200 rfl ?_
    refine draw mixed (fun w' => Chg No w w') ([0,1].map (fun i => (i, true)) ++ [(2, false)] ++ [3,4,5,6,7].map (fun i => (i, true)) ++ [(8, false)] ++ [9,10,11,12,13,14,15,16,17,18,19,20,21,22,23,24,25,26,27,28,29,30,31,32,33,34,35,36,37,38,39,40,41,42,43,44,45,46,47,48,49,50,51].map (fun i => (i, true))) rfl (by kernel_rfl) (Chg.drew _) ?_
    refine goH T_ok 200 rfl ?_
    repeat (first | (refine quietH rfl (fun w' hS => r_load T_ok rfl rfl rfl (Bk.get (B3.no hS) rfl)) ?_; refine goH T_ok 200 rfl ?_))
    refine callE rfl rfl rfl (ok _ (by decide) rfl) (rin_any r.k 1 1000000 _) ?_
    rintro x' w' ⟨rfl, rfl⟩
    refine ⟨Chg.drew _, ?_⟩
    by_cases hk : 1 ≤ r.k ∧ r.k ≤ 1000000
    case neg =>
      rw [decide_eq_false hk]
      refine goH T_ok 200 rfl ?_
      repeat (first | (refine passE rfl ?_; refine goH T_ok 200 rfl ?_) | (refine guardHA (b := false) rfl rfl rfl rfl (fun h => by cases h) (fun _ => ?_); refine goH T_ok 200 rfl ?_) | (refine guardHA (b := true) rfl rfl rfl rfl (fun _ => ?_) (fun h => by cases h); refine goH T_ok 200 rfl ?_))
      refine endH ?_
      have qk := Chg.drew w
      have S1 := S1.no qk
      have B3 := B3.no qk
      have q := q.trans qk
      refine go T_ok 200 rfl ?_
      repeat (first | (refine guardA (b := true) rfl rfl rfl rfl (fun _ => ?_) (fun e => by cases e); refine go T_ok 200 rfl ?_) | (refine guardA (b := false) rfl rfl rfl rfl (fun e => by cases e) (fun _ => ?_); refine go T_ok 200 rfl ?_) | (refine condT rfl rfl ?_; refine go T_ok 200 rfl ?_) | (refine condF rfl rfl ?_; refine go T_ok 200 rfl ?_))
      exact ret (ret1 (v := .bool false) Try.results32 rfl ⟨⟨false, rfl, by simp; exact fun ⟨h, _⟩ => hk (h.1 r hmem).1⟩, q⟩)
    rw [decide_eq_true hk]
    refine goH T_ok 200 rfl ?_
    repeat (first | (refine guardHA (b := true) rfl rfl rfl rfl (fun _ => ?_) (fun h => by cases h); refine goH T_ok 200 rfl ?_) | (refine guardHA (b := false) rfl rfl rfl rfl (fun h => by cases h) (fun _ => ?_); refine goH T_ok 200 rfl ?_))
    refine quietH rfl (fun w' hS => r_loadA T_ok rfl rfl rfl rfl (bk_sp (B3.no hS))) ?_
    refine goH T_ok 200 rfl ?_
    refine callE rfl rfl rfl (ok _ (by decide) rfl) (rSpan_any (r.lo, r.hi) 0 p _) ?_
    rintro x w2 ⟨rfl, q2⟩
    have qk := (Chg.drew w).trans q2
    refine ⟨qk, ?_⟩
    by_cases hs : SpOk (r.lo, r.hi) 0 p
    case neg =>
      rw [decide_eq_false hs]
      refine goH T_ok 200 rfl ?_
      repeat (first | (refine passE rfl ?_; refine goH T_ok 200 rfl ?_) | (refine guardHA (b := false) rfl rfl rfl rfl (fun h => by cases h) (fun _ => ?_); refine goH T_ok 200 rfl ?_) | (refine guardHA (b := true) rfl rfl rfl rfl (fun _ => ?_) (fun h => by cases h); refine goH T_ok 200 rfl ?_))
      refine endH ?_
      have S1 := S1.no qk
      have B3 := B3.no qk
      have q := q.trans qk
      refine go T_ok 200 rfl ?_
      repeat (first | (refine guardA (b := true) rfl rfl rfl rfl (fun _ => ?_) (fun e => by cases e); refine go T_ok 200 rfl ?_) | (refine guardA (b := false) rfl rfl rfl rfl (fun e => by cases e) (fun _ => ?_); refine go T_ok 200 rfl ?_) | (refine condT rfl rfl ?_; refine go T_ok 200 rfl ?_) | (refine condF rfl rfl ?_; refine go T_ok 200 rfl ?_))
      exact ret (ret1 (v := .bool false) Try.results32 rfl ⟨⟨false, rfl, by simp; exact fun ⟨h, _⟩ => hs (h.1 r hmem).2⟩, q⟩)
    rw [decide_eq_true hs]
    refine goH T_ok 200 rfl ?_
    repeat (first | (refine guardHA (b := true) rfl rfl rfl rfl (fun _ => ?_) (fun h => by cases h); refine goH T_ok 200 rfl ?_) | (refine guardHA (b := false) rfl rfl rfl rfl (fun h => by cases h) (fun _ => ?_); refine goH T_ok 200 rfl ?_))
    by_cases hj0 : j = 0
    · refine guardHA (b := false) rfl rfl rfl (congrArg Value.bool (decide_eq_false (by omega))) (fun h => by cases h) (fun _ => ?_)
      refine goH T_ok 200 rfl ?_
      repeat (first | (refine passE rfl ?_; refine goH T_ok 200 rfl ?_) | (refine guardHA (b := false) rfl rfl rfl rfl (fun h => by cases h) (fun _ => ?_); refine goH T_ok 200 rfl ?_) | (refine guardHA (b := true) rfl rfl rfl rfl (fun _ => ?_) (fun h => by cases h); refine goH T_ok 200 rfl ?_))
      refine endH ?_
      have S1 := S1.no qk
      have B3 := B3.no qk
      have q := q.trans qk
      refine go T_ok 200 rfl ?_
      repeat (first | (refine guardA (b := true) rfl rfl rfl rfl (fun _ => ?_) (fun e => by cases e); refine go T_ok 200 rfl ?_) | (refine guardA (b := false) rfl rfl rfl rfl (fun e => by cases e) (fun _ => ?_); refine go T_ok 200 rfl ?_) | (refine condT rfl rfl ?_; refine go T_ok 200 rfl ?_) | (refine condF rfl rfl ?_; refine go T_ok 200 rfl ?_))
      rw [e3]
      exact round ⟨j + 1, rfl, ⟨by omega, q, hm.step hr ⟨hk, hs⟩ (fun i a h => by omega)⟩, by omega⟩
    obtain ⟨j', hj'⟩ : ∃ j', j = j' + 1 := ⟨j - 1, by omega⟩
    obtain ⟨a, ha⟩ := get_of (l := l) (i := j') (by omega)
    obtain ⟨b2, o2, hA2, hb2, hc2⟩ := S1.el rwL_len ha
    have l2 : b2 < w.heap.size := Nat.lt_of_lt_of_le hb2 S1.2.1
    have e10 : w64 ((j : Int) - 1) = ((j' : Nat) : Int) := by rw [w64_id (by omega) (by omega)]; omega
    have hnm : ∀ h : Mono 1 1000000 p false l, Nb false a r := fun h => h.2.1 j' a ha r (by rw [← hj']; exact hr)
    have ka : ∀ (i : Nat) (z : Value), nth? (rwL a) i = some z → ∀ w', Chg No w w' → w'.cell? ⟨b2, o2 + j' * 3 + i, none⟩ = some z := fun i z hz w' hS => (hS.cell (a := ⟨b2, o2 + j' * 3 + i, none⟩) l2 (fun h => h)).trans (hc2.get hz)
    refine guardHA (b := true) rfl rfl rfl (congrArg Value.bool (decide_eq_true (by omega))) (fun _ => ?_) (fun h => by cases h)
    refine goH T_ok 200 rfl ?_
    repeat (first | (refine quietH rfl (fun w' hS => r_load T_ok rfl rfl rfl (Bk.get (B3.no hS) rfl)) ?_; refine goH T_ok 200 rfl ?_))
    rw [e10, hA2]
    refine quietH rfl (fun w' hS => r_idx T_ok rfl rfl rfl rfl j' rfl (by omega)) ?_
    refine goH T_ok 200 rfl ?_
    refine quietH rfl (fun w' hS => r_load T_ok rfl rfl rfl (ka 0 _ rfl w' hS)) ?_
    refine goH T_ok 200 rfl ?_
    by_cases hkk : r.k ≤ a.k
    · refine guardHA (b := true) rfl rfl rfl (congrArg Value.bool (decide_eq_true hkk)) (fun _ => ?_) (fun h => by cases h)
      refine goH T_ok 200 rfl ?_
      repeat (first | (refine passE rfl ?_; refine goH T_ok 200 rfl ?_) | (refine guardHA (b := false) rfl rfl rfl rfl (fun h => by cases h) (fun _ => ?_); refine goH T_ok 200 rfl ?_) | (refine guardHA (b := true) rfl rfl rfl rfl (fun _ => ?_) (fun h => by cases h); refine goH T_ok 200 rfl ?_))
      refine endH ?_
      rw [← hA2]
      have S1 := S1.no qk
      have B3 := B3.no qk
      have q := q.trans qk
      refine go T_ok 200 rfl ?_
      repeat (first | (refine guardA (b := true) rfl rfl rfl rfl (fun _ => ?_) (fun e => by cases e); refine go T_ok 200 rfl ?_) | (refine guardA (b := false) rfl rfl rfl rfl (fun e => by cases e) (fun _ => ?_); refine go T_ok 200 rfl ?_) | (refine condT rfl rfl ?_; refine go T_ok 200 rfl ?_) | (refine condF rfl rfl ?_; refine go T_ok 200 rfl ?_))
      exact ret (ret1 (v := .bool false) Try.results32 rfl ⟨⟨false, rfl, by simp; exact fun ⟨h, _⟩ => absurd (hnm h).1 (by omega)⟩, q⟩)
    refine guardHA (b := false) rfl rfl rfl (congrArg Value.bool (decide_eq_false hkk)) (fun h => by cases h) (fun _ => ?_)
    refine goH T_ok 200 rfl ?_
    repeat (first | (refine quietH rfl (fun w' hS => r_load T_ok rfl rfl rfl (Bk.get (B3.no hS) rfl)) ?_; refine goH T_ok 200 rfl ?_))
    rw [e10]
    refine quietH rfl (fun w' hS => r_idx T_ok rfl rfl rfl rfl j' rfl (by omega)) ?_
    refine goH T_ok 200 rfl ?_
    refine quietH rfl (fun w' hS => r_load T_ok rfl rfl rfl (ka 1 _ rfl w' hS)) ?_
    refine goH T_ok 200 rfl ?_
    by_cases hlo : a.lo < r.lo
    · refine guardHA (b := true) rfl rfl rfl (congrArg Value.bool (decide_eq_true hlo)) (fun _ => ?_) (fun h => by cases h)
      refine goH T_ok 200 rfl ?_
      repeat (first | (refine passE rfl ?_; refine goH T_ok 200 rfl ?_) | (refine guardHA (b := false) rfl rfl rfl rfl (fun h => by cases h) (fun _ => ?_); refine goH T_ok 200 rfl ?_) | (refine guardHA (b := true) rfl rfl rfl rfl (fun _ => ?_) (fun h => by cases h); refine goH T_ok 200 rfl ?_))
      refine endH ?_
      rw [← hA2]
      have S1 := S1.no qk
      have B3 := B3.no qk
      have q := q.trans qk
      refine go T_ok 200 rfl ?_
      repeat (first | (refine guardA (b := true) rfl rfl rfl rfl (fun _ => ?_) (fun e => by cases e); refine go T_ok 200 rfl ?_) | (refine guardA (b := false) rfl rfl rfl rfl (fun e => by cases e) (fun _ => ?_); refine go T_ok 200 rfl ?_) | (refine condT rfl rfl ?_; refine go T_ok 200 rfl ?_) | (refine condF rfl rfl ?_; refine go T_ok 200 rfl ?_))
      exact ret (ret1 (v := .bool false) Try.results32 rfl ⟨⟨false, rfl, by simp; exact fun ⟨h, _⟩ => absurd (hnm h).2.1 (by omega)⟩, q⟩)
    refine guardHA (b := false) rfl rfl rfl (congrArg Value.bool (decide_eq_false hlo)) (fun h => by cases h) (fun _ => ?_)
    refine goH T_ok 200 rfl ?_
    repeat (first | (refine quietH rfl (fun w' hS => r_load T_ok rfl rfl rfl (Bk.get (B3.no hS) rfl)) ?_; refine goH T_ok 200 rfl ?_))
    rw [e10]
    refine quietH rfl (fun w' hS => r_idx T_ok rfl rfl rfl rfl j' rfl (by omega)) ?_
    refine goH T_ok 200 rfl ?_
    refine quietH rfl (fun w' hS => r_load T_ok rfl rfl rfl (ka 2 _ rfl w' hS)) ?_
    refine goH T_ok 200 rfl ?_
    refine endH ?_
    rw [← hA2]
    by_cases hhi : a.hi < r.hi
    · rw [decide_eq_true hhi]
      have S1 := S1.no qk
      have B3 := B3.no qk
      have q := q.trans qk
      refine go T_ok 200 rfl ?_
      repeat (first | (refine guardA (b := true) rfl rfl rfl rfl (fun _ => ?_) (fun e => by cases e); refine go T_ok 200 rfl ?_) | (refine guardA (b := false) rfl rfl rfl rfl (fun e => by cases e) (fun _ => ?_); refine go T_ok 200 rfl ?_) | (refine condT rfl rfl ?_; refine go T_ok 200 rfl ?_) | (refine condF rfl rfl ?_; refine go T_ok 200 rfl ?_))
      exact ret (ret1 (v := .bool false) Try.results32 rfl ⟨⟨false, rfl, by simp; exact fun ⟨h, _⟩ => absurd (hnm h).2.2 (by omega)⟩, q⟩)
    rw [decide_eq_false hhi]
    have hnn : ∀ i x, j = i + 1 → l[i]? = some x → Nb false x r := fun i x h hx => by
      obtain rfl : i = j' := by omega
      rw [ha] at hx; cases hx; exact ⟨by omega, by simp; omega⟩
    have S1 := S1.no qk
    have B3 := B3.no qk
    have q := q.trans qk
    refine go T_ok 200 rfl ?_
    repeat (first | (refine guardA (b := true) rfl rfl rfl rfl (fun _ => ?_) (fun e => by cases e); refine go T_ok 200 rfl ?_) | (refine guardA (b := false) rfl rfl rfl rfl (fun e => by cases e) (fun _ => ?_); refine go T_ok 200 rfl ?_) | (refine condT rfl rfl ?_; refine go T_ok 200 rfl ?_) | (refine condF rfl rfl ?_; refine go T_ok 200 rfl ?_))
    rw [e3]
    exact round ⟨j + 1, rfl, ⟨by omega, q, hm.step hr ⟨hk, hs⟩ hnn⟩, by omega⟩
  · obtain rfl : j = l.length := by omega
    refine go T_ok 200 rfl ?_
    refine call rfl rfl rfl (ok _ (by decide) rfl) (rin_any (l.length : Int) 1 40 _) ?_
    rintro x w ⟨rfl, rfl⟩
    refine go T_ok 200 rfl ?_
    refine guardD rfl rfl rfl (fun hn => ?_) (fun hn => ?_)
    · obtain ⟨a, ha⟩ := get_of (l := l) (i := 0) (by omega)
      obtain ⟨b2, o2, hA2, hb2, hc2⟩ := S1.el rwL_len ha
      refine go T_ok 200 rfl ?_
      rw [hA2]
      refine idx T_ok rfl rfl rfl rfl rfl 0 rfl (by omega) ?_
      refine go T_ok 200 rfl ?_
      refine ld T_ok rfl rfl rfl rfl (hc2.get (i := 0) rfl) ?_
      refine go T_ok 200 rfl ?_
      refine ret (ret1 (v := .bool _) Try.results32 rfl ⟨⟨_, rfl, ?_⟩, q⟩)
      rw [beq_iff_eq]
      have hm1 := hm.all.2 hn
      exact ⟨fun e => ⟨hm1, a, ha, e⟩, fun ⟨_, a', ha', e⟩ => by rw [ha] at ha'; cases ha'; exact e⟩
    · refine go T_ok 200 rfl ?_
      exact ret (ret1 (v := .bool _) Try.results32 rfl ⟨⟨false, rfl, by simp; exact fun h => absurd (hm.all.1 h.1) hn⟩, q⟩)
end Go.Proofs.Ytolhfimknimliaa
