/- The contracts of tables that are as defined (monotone). -/
import Derived.Test.YtolhfimknimliaaC1
import Derived.Test.YtolhfimknimliaaE6
namespace Go.Proofs.Ytolhfimknimliaa
open Go.Ev Go.Proofs Go.Top
attribute [local irreducible] At AtH
def Rk (f u m : Int) (r : Rw) : Prop := (f ≤ r.k ∧ r.k ≤ u) ∧ 0 ≤ r.lo ∧ r.lo ≤ r.hi ∧ r.hi ≤ m
def MoTo (f u m : Int) (up : Bool) (l : List Rw) (j : Nat) : Prop := (∀ i, i < j → ∀ r, l[i]? = some r → Rk f u m r) ∧ ∀ i, i + 1 < j → ∀ a, l[i]? = some a → ∀ b, l[i + 1]? = some b → Nb up a b
theorem MoTo.step {f u m : Int} {up : Bool} {l : List Rw} {j : Nat} {r : Rw} (h : MoTo f u m up l j) (hr : l[j]? = some r) (hk : Rk f u m r) (hn : ∀ i a, j = i + 1 → l[i]? = some a → Nb up a r) : MoTo f u m up l (j + 1) := by
  refine ⟨fun i hi x hx => ?_, fun i hi a ha b hb => ?_⟩
  · by_cases he : i = j
    · subst he; rw [hr] at hx; cases hx; exact hk
    · exact h.1 i (by omega) x hx
  · by_cases he : i + 1 = j
    · subst he; rw [hr] at hb; cases hb; exact hn i a rfl ha
    · exact h.2 i (by omega) a ha b hb
theorem MoTo.all {f u m : Int} {up : Bool} {l : List Rw} (h : MoTo f u m up l l.length) : Mono f u m up l ↔ (1 ≤ (l.length : Int) ∧ (l.length : Int) ≤ 40) := by
  refine ⟨fun hm => ⟨by have := hm.2.2.1; omega, by have := hm.2.2.2; omega⟩, fun hl => ⟨fun r hr => ?_, fun i a ha b hb => ?_, by omega, by omega⟩⟩
  · obtain ⟨i, hi⟩ := List.getElem?_of_mem hr
    exact h.1 i (List.getElem?_eq_some_iff.1 hi).1 r hi
  · exact h.2 i (List.getElem?_eq_some_iff.1 hb).1 a ha b hb
set_option maxRecDepth 20000 in
set_option maxHeartbeats 4000000 in
theorem monoR_any (l : List Rw) (f u m : Int) (A : Option Addr) (c B : Nat) (w : World) (S0 : Sl w B 3 A l.length (l.flatMap rwL)) (hl : l.length ≤ 9223372036854775807) :
    Ret Try.prog 104 [.slice A l.length c, .int .i64 f, .int .i64 u, .func (.func 105) #[] #[], .func (.func 106) #[] #[], .int .i64 m, .func (.func 88) #[] #[]] w fun x w' => (∃ b, x = .bool b ∧ (b = true ↔ Mono f u m true l)) ∧ Chg No w w' := by
  refine enter Try.func104 rfl Try.ntmps104 rfl ?_
  refine go T_ok 200 rfl ?_
  refine loop [0, 1, 2, 3, 4, 5, 6, 17, 18, 19] (fun j : Nat => [.slice A l.length c, .int .i64 f, .int .i64 u, .func (.func 105) #[] #[], .func (.func 106) #[] #[], .int .i64 m, .func (.func 88) #[] #[], .slice A l.length c, .int .i64 (l.length : Int), .int .i64 (j : Int)])
    (fun j w' => j ≤ l.length ∧ Chg No w w' ∧ MoTo f u m true l j) (fun j => l.length - j) 0 (fun _ => rfl) rfl ⟨Nat.zero_le _, Chg.refl _ _, fun i h => absurd h (Nat.not_lt_zero _), fun i h => absurd h (by omega)⟩ ?_
  rintro j τ w ⟨hj, q, hm⟩
  have S1 := S0.no q
  refine go T_ok 200 rfl ?_
  refine condD rfl (fun hlt => ?_) (fun hlt => ?_)
  · have hlt : j < l.length := by omega
    obtain ⟨r, hr⟩ := get_of hlt
    have hmem := List.mem_of_getElem? hr
    obtain ⟨b1, o1, hA1, hb1, hc1⟩ := S1.el rwL_len hr
    have e3 : w64 ((j : Int) + 1) = ((j + 1 : Nat) : Int) := w64_id (by omega) (by omega)
    refine go T_ok 200 rfl ?_
    rw [hA1]
    refine idx T_ok rfl rfl rfl rfl rfl j rfl hlt ?_
    refine go T_ok 200 rfl ?_
    refine ldA T_ok rfl rfl rfl rfl rfl hc1 ?_
    refine go T_ok 200 rfl ?_
    rw [← hA1]
    have yS1 := S1.2.1
    have yq := q.size
    refine nw rfl rfl (z := .agg #[I 0, I 0, I 0]) (by kernel_rfl) (cs := [I 0, I 0, I 0]) rfl ?_
    intro g3 w hg3 hs3 qk B3
    have S1 := S1.no qk
    have q := q.trans qk
    refine go T_ok 200 rfl ?_
    refine stA T_ok rfl rfl rfl rfl (vs := rwL r) rfl rfl rfl B3 rfl ?_
    intro w qk B3 hz3
    have B3 : Bk w g3 85 (rwL r) := B3
    have S1 := Sl.keep S1 qk (fun k hk e => by omega)
    have q := q.step qk (fun k hk e => by omega)
    refine go T_ok 200 rfl ?_
    repeat (first | (refine ldA T_ok rfl rfl rfl rfl rfl (Bk.all B3) ?_; refine go T_ok 200 rfl ?_) | (refine ld T_ok rfl rfl rfl rfl (Bk.get B3 rfl) ?_; refine go T_ok 200 rfl ?_) | (refine guardA (b := true) rfl rfl rfl rfl (fun _ => ?_) (fun e => by cases e); refine go T_ok 200 rfl ?_) | (refine guardA (b := false) rfl rfl rfl rfl (fun e => by cases e) (fun _ => ?_); refine go T_ok 200 rfl ?_) | (refine condT rfl rfl ?_; refine go T_ok 200 rfl ?_) | (refine condF rfl rfl ?_; refine go T_ok 200 rfl ?_))
    refine call rfl rfl rfl (ok _ (by decide) rfl) (keyR_any r _) ?_
    rintro x w ⟨rfl, qk⟩
    have S1 := S1.no qk
    have B3 := B3.no qk
    have q := q.trans qk
    refine go T_ok 200 rfl ?_
    refine call rfl rfl rfl (ok _ (by decide) rfl) (within_any r.k f u _) ?_
    rintro x w ⟨rfl, rfl⟩
    by_cases hk : f ≤ r.k ∧ r.k ≤ u
    case neg =>
      rw [decide_eq_false hk]
      refine go T_ok 200 rfl ?_
      repeat (first | (refine guardA (b := true) rfl rfl rfl rfl (fun _ => ?_) (fun e => by cases e); refine go T_ok 200 rfl ?_) | (refine guardA (b := false) rfl rfl rfl rfl (fun e => by cases e) (fun _ => ?_); refine go T_ok 200 rfl ?_) | (refine condT rfl rfl ?_; refine go T_ok 200 rfl ?_) | (refine condF rfl rfl ?_; refine go T_ok 200 rfl ?_))
      exact ret (ret1 (v := .bool false) Try.results104 rfl ⟨⟨false, rfl, by simp; exact fun h => hk (h.1 r hmem).1⟩, q⟩)
    rw [decide_eq_true hk]
    refine go T_ok 200 rfl ?_
    repeat (first | (refine ldA T_ok rfl rfl rfl rfl rfl (Bk.all B3) ?_; refine go T_ok 200 rfl ?_) | (refine ld T_ok rfl rfl rfl rfl (Bk.get B3 rfl) ?_; refine go T_ok 200 rfl ?_) | (refine guardA (b := true) rfl rfl rfl rfl (fun _ => ?_) (fun e => by cases e); refine go T_ok 200 rfl ?_) | (refine guardA (b := false) rfl rfl rfl rfl (fun e => by cases e) (fun _ => ?_); refine go T_ok 200 rfl ?_) | (refine condT rfl rfl ?_; refine go T_ok 200 rfl ?_) | (refine condF rfl rfl ?_; refine go T_ok 200 rfl ?_))
    refine call rfl rfl rfl (ok _ (by decide) rfl) (spanR_any r _) ?_
    rintro x w ⟨rfl, qk⟩
    have S1 := S1.no qk
    have B3 := B3.no qk
    have q := q.trans qk
    refine go T_ok 200 rfl ?_
    repeat (first | (refine ldA T_ok rfl rfl rfl rfl rfl (Bk.all B3) ?_; refine go T_ok 200 rfl ?_) | (refine ld T_ok rfl rfl rfl rfl (Bk.get B3 rfl) ?_; refine go T_ok 200 rfl ?_) | (refine guardA (b := true) rfl rfl rfl rfl (fun _ => ?_) (fun e => by cases e); refine go T_ok 200 rfl ?_) | (refine guardA (b := false) rfl rfl rfl rfl (fun e => by cases e) (fun _ => ?_); refine go T_ok 200 rfl ?_) | (refine condT rfl rfl ?_; refine go T_ok 200 rfl ?_) | (refine condF rfl rfl ?_; refine go T_ok 200 rfl ?_))
    refine call rfl rfl rfl (ok _ (by decide) rfl) (spanned_any (r.lo, r.hi) 0 m _) ?_
    rintro x w ⟨rfl, qk⟩
    have S1 := S1.no qk
    have B3 := B3.no qk
    have q := q.trans qk
    by_cases hs : SpOk (r.lo, r.hi) 0 m
    case neg =>
      rw [decide_eq_false hs]
      refine go T_ok 200 rfl ?_
      repeat (first | (refine guardA (b := true) rfl rfl rfl rfl (fun _ => ?_) (fun e => by cases e); refine go T_ok 200 rfl ?_) | (refine guardA (b := false) rfl rfl rfl rfl (fun e => by cases e) (fun _ => ?_); refine go T_ok 200 rfl ?_) | (refine condT rfl rfl ?_; refine go T_ok 200 rfl ?_) | (refine condF rfl rfl ?_; refine go T_ok 200 rfl ?_))
      exact ret (ret1 (v := .bool false) Try.results104 rfl ⟨⟨false, rfl, by simp; exact fun h => hs (h.1 r hmem).2⟩, q⟩)
    rw [decide_eq_true hs]
    refine go T_ok 200 rfl ?_
    repeat (first | (refine ldA T_ok rfl rfl rfl rfl rfl (Bk.all B3) ?_; refine go T_ok 200 rfl ?_) | (refine ld T_ok rfl rfl rfl rfl (Bk.get B3 rfl) ?_; refine go T_ok 200 rfl ?_) | (refine guardA (b := true) rfl rfl rfl rfl (fun _ => ?_) (fun e => by cases e); refine go T_ok 200 rfl ?_) | (refine guardA (b := false) rfl rfl rfl rfl (fun e => by cases e) (fun _ => ?_); refine go T_ok 200 rfl ?_) | (refine condT rfl rfl ?_; refine go T_ok 200 rfl ?_) | (refine condF rfl rfl ?_; refine go T_ok 200 rfl ?_))
    refine draw mixed (fun w' => Chg No w w') ([0,1,2,3,4,6,7,8,9,10,11].map (fun i => (i, true)) ++ [(5, false)] ++ [(12, false)] ++ [13,14,15,16,17,18,19,20,21,23,24].map (fun i => (i, true)) ++ [(22, false)] ++ [(25, false)] ++ [(26, false)] ++ [27,28,29].map (fun i => (i, true))) rfl (by kernel_rfl) (Chg.drew _) ?_
    refine goH T_ok 200 rfl ?_
    have p0 := Chg.refl No w
    by_cases hj0 : j = 0
    · refine guardHA (b := false) rfl rfl rfl (congrArg Value.bool (decide_eq_false (by omega))) (fun h => by cases h) (fun _ => ?_)
      refine goH T_ok 200 rfl ?_
      repeat (first | (refine passE rfl ?_; refine goH T_ok 200 rfl ?_) | (refine guardHA (b := false) rfl rfl rfl rfl (fun h => by cases h) (fun _ => ?_); refine goH T_ok 200 rfl ?_) | (refine guardHA (b := true) rfl rfl rfl rfl (fun _ => ?_) (fun h => by cases h); refine goH T_ok 200 rfl ?_))
      refine endH ?_
      have qk := Chg.drew w
      have S1 := S1.no qk
      have B3 := B3.no qk
      have q := q.trans qk
      refine go T_ok 200 rfl ?_
      repeat (first | (refine guardA (b := true) rfl rfl rfl rfl (fun _ => ?_) (fun e => by cases e); refine go T_ok 200 rfl ?_) | (refine guardA (b := false) rfl rfl rfl rfl (fun e => by cases e) (fun _ => ?_); refine go T_ok 200 rfl ?_) | (refine condT rfl rfl ?_; refine go T_ok 200 rfl ?_) | (refine condF rfl rfl ?_; refine go T_ok 200 rfl ?_))
      rw [e3]
      exact round ⟨j + 1, rfl, ⟨by omega, q, hm.step hr ⟨hk, hs⟩ (fun i a h => by omega)⟩, by omega⟩
    · obtain ⟨j', hj'⟩ : ∃ j', j = j' + 1 := ⟨j - 1, by omega⟩
      obtain ⟨a, ha⟩ := get_of (l := l) (i := j') (by omega)
      obtain ⟨b2, o2, hA2, hb2, hc2⟩ := S1.el rwL_len ha
      have l2 : b2 < w.heap.size := Nat.lt_of_lt_of_le hb2 S1.2.1
      have e10 : w64 ((j : Int) - 1) = ((j' : Nat) : Int) := by rw [w64_id (by omega) (by omega)]; omega
      have hnm : ∀ h : Mono f u m true l, Nb true a r := fun h => h.2.1 j' a ha r (by rw [← hj']; exact hr)
      refine guardHA (b := true) rfl rfl rfl (congrArg Value.bool (decide_eq_true (by omega))) (fun _ => ?_) (fun h => by cases h)
      refine goH T_ok 200 rfl ?_
      refine quietH rfl (fun w' hS => r_loadA T_ok rfl rfl rfl rfl (B3.no hS).all) ?_
      refine goH T_ok 200 rfl ?_
      rw [e10, hA2]
      refine quietH rfl (fun w' hS => r_idx T_ok rfl rfl rfl rfl j' rfl (by omega)) ?_
      refine goH T_ok 200 rfl ?_
      refine quietH rfl (fun w' hS => r_loadA T_ok rfl rfl rfl (cs := rwL a) rfl (hc2.keep l2 hS (fun h => h))) ?_
      refine goH T_ok 200 rfl ?_
      refine callE rfl rfl rfl (ok _ (by decide) rfl) (keyR_any r _) ?_
      rintro x w2 ⟨rfl, q2⟩
      have qk := (Chg.drew w).trans q2
      refine ⟨qk, ?_⟩
      refine goH T_ok 200 rfl ?_
      refine callE rfl rfl rfl (ok _ (by decide) rfl) (keyR_any a _) ?_
      rintro x w3 ⟨rfl, q3⟩
      have qk := qk.trans q3
      refine ⟨qk, ?_⟩
      refine goH T_ok 200 rfl ?_
      by_cases hkk : r.k ≤ a.k
      · refine guardHA (b := true) rfl rfl rfl (congrArg Value.bool (decide_eq_true hkk)) (fun _ => ?_) (fun h => by cases h)
        refine goH T_ok 200 rfl ?_
        repeat (first | (refine passE rfl ?_; refine goH T_ok 200 rfl ?_) | (refine guardHA (b := false) rfl rfl rfl rfl (fun h => by cases h) (fun _ => ?_); refine goH T_ok 200 rfl ?_) | (refine guardHA (b := true) rfl rfl rfl rfl (fun _ => ?_) (fun h => by cases h); refine goH T_ok 200 rfl ?_))
        refine endH ?_
        have q := q.trans qk
        refine go T_ok 200 rfl ?_
        repeat (first | (refine guardA (b := true) rfl rfl rfl rfl (fun _ => ?_) (fun e => by cases e); refine go T_ok 200 rfl ?_) | (refine guardA (b := false) rfl rfl rfl rfl (fun e => by cases e) (fun _ => ?_); refine go T_ok 200 rfl ?_) | (refine condT rfl rfl ?_; refine go T_ok 200 rfl ?_) | (refine condF rfl rfl ?_; refine go T_ok 200 rfl ?_))
        exact ret (ret1 (v := .bool false) Try.results104 rfl ⟨⟨false, rfl, by simp; exact fun h => absurd (hnm h).1 (by omega)⟩, q⟩)
      · refine guardHA (b := false) rfl rfl rfl (congrArg Value.bool (decide_eq_false hkk)) (fun h => by cases h) (fun _ => ?_)
        refine goH T_ok 200 rfl ?_
        rw [e10]
        refine quietH rfl (fun w' hS => r_idx T_ok rfl rfl rfl rfl j' rfl (by omega)) ?_
        refine goH T_ok 200 rfl ?_
        refine quietH rfl (fun w' hS => r_loadA T_ok rfl rfl rfl (cs := rwL a) rfl (hc2.keep l2 hS (fun h => h))) ?_
        refine goH T_ok 200 rfl ?_
        refine quietH rfl (fun w' hS => r_loadA T_ok rfl rfl rfl rfl (B3.no hS).all) ?_
        refine goH T_ok 200 rfl ?_
        refine callE rfl rfl rfl (ok _ (by decide) rfl) (spanR_any a _) ?_
        rintro x w4 ⟨rfl, q4⟩
        have qk := qk.trans q4
        refine ⟨qk, ?_⟩
        refine goH T_ok 200 rfl ?_
        refine callE rfl rfl rfl (ok _ (by decide) rfl) (spanR_any r _) ?_
        rintro x w5 ⟨rfl, q5⟩
        have qk := qk.trans q5
        refine ⟨qk, ?_⟩
        refine goH T_ok 200 rfl ?_
        refine callE rfl rfl rfl (ok _ (by decide) rfl) (up_any (a.lo, a.hi) (r.lo, r.hi) _) ?_
        rintro x w6 ⟨rfl, q6⟩
        have qk := qk.trans q6
        refine ⟨qk, ?_⟩
        refine goH T_ok 200 rfl ?_
        refine endH ?_
        rw [← hA2]
        have S1 := S1.no qk
        have B3 := B3.no qk
        have q := q.trans qk
        by_cases hnb : Nb true a r
        · have hnb' := hnb.2
          simp only [if_true] at hnb'
          have hnn : ∀ i x, j = i + 1 → l[i]? = some x → Nb true x r := fun i x h hx => by
            obtain rfl : i = j' := by omega
            rw [ha] at hx; cases hx; exact hnb
          rw [decide_eq_true hnb']
          refine go T_ok 200 rfl ?_
          repeat (first | (refine guardA (b := true) rfl rfl rfl rfl (fun _ => ?_) (fun e => by cases e); refine go T_ok 200 rfl ?_) | (refine guardA (b := false) rfl rfl rfl rfl (fun e => by cases e) (fun _ => ?_); refine go T_ok 200 rfl ?_) | (refine condT rfl rfl ?_; refine go T_ok 200 rfl ?_) | (refine condF rfl rfl ?_; refine go T_ok 200 rfl ?_))
          rw [e3]
          exact round ⟨j + 1, rfl, ⟨by omega, q, hm.step hr ⟨hk, hs⟩ (fun i x h hx => hnn i x h hx)⟩, by omega⟩
        · have hnb' : ¬ _ := fun h => hnb ⟨Int.not_le.1 hkk, by simp only [if_true]; exact h⟩
          rw [decide_eq_false hnb']
          refine go T_ok 200 rfl ?_
          repeat (first | (refine guardA (b := true) rfl rfl rfl rfl (fun _ => ?_) (fun e => by cases e); refine go T_ok 200 rfl ?_) | (refine guardA (b := false) rfl rfl rfl rfl (fun e => by cases e) (fun _ => ?_); refine go T_ok 200 rfl ?_) | (refine condT rfl rfl ?_; refine go T_ok 200 rfl ?_) | (refine condF rfl rfl ?_; refine go T_ok 200 rfl ?_))
          exact ret (ret1 (v := .bool false) Try.results104 rfl ⟨⟨false, rfl, by simp; exact fun h => hnb (hnm h)⟩, q⟩)
  · obtain rfl : j = l.length := by omega
    refine go T_ok 200 rfl ?_
    refine call rfl rfl rfl (ok _ (by decide) rfl) (within_any (l.length : Int) 1 40 _) ?_
    rintro x w ⟨rfl, rfl⟩
    refine go T_ok 200 rfl ?_
    exact ret (ret1 (v := .bool _) Try.results104 rfl ⟨⟨_, rfl, by rw [decide_eq_true_iff]; exact hm.all.symm⟩, q⟩)
set_option maxRecDepth 20000 in
set_option maxHeartbeats 4000000 in
theorem monoF_any (l : List Rw) (f u m : Int) (A : Option Addr) (c B : Nat) (w : World) (S0 : Sl w B 3 A l.length (l.flatMap rwL)) (hl : l.length ≤ 9223372036854775807) :
    Ret Try.prog 100 [.slice A l.length c, .int .i64 f, .int .i64 u, .func (.func 101) #[] #[], .func (.func 102) #[] #[], .int .i64 m, .func (.func 103) #[] #[]] w fun x w' => (∃ b, x = .bool b ∧ (b = true ↔ Mono f u m false l)) ∧ Chg No w w' := by
  refine enter Try.func100 rfl Try.ntmps100 rfl ?_
  refine go T_ok 200 rfl ?_
  refine loop [0, 1, 2, 3, 4, 5, 6, 17, 18, 19] (fun j : Nat => [.slice A l.length c, .int .i64 f, .int .i64 u, .func (.func 101) #[] #[], .func (.func 102) #[] #[], .int .i64 m, .func (.func 103) #[] #[], .slice A l.length c, .int .i64 (l.length : Int), .int .i64 (j : Int)])
    (fun j w' => j ≤ l.length ∧ Chg No w w' ∧ MoTo f u m false l j) (fun j => l.length - j) 0 (fun _ => rfl) rfl ⟨Nat.zero_le _, Chg.refl _ _, fun i h => absurd h (Nat.not_lt_zero _), fun i h => absurd h (by omega)⟩ ?_
  rintro j τ w ⟨hj, q, hm⟩
  have S1 := S0.no q
  refine go T_ok 200 rfl ?_
  refine condD rfl (fun hlt => ?_) (fun hlt => ?_)
  · have hlt : j < l.length := by omega
    obtain ⟨r, hr⟩ := get_of hlt
    have hmem := List.mem_of_getElem? hr
    obtain ⟨b1, o1, hA1, hb1, hc1⟩ := S1.el rwL_len hr
    have e3 : w64 ((j : Int) + 1) = ((j + 1 : Nat) : Int) := w64_id (by omega) (by omega)
    refine go T_ok 200 rfl ?_
    rw [hA1]
    refine idx T_ok rfl rfl rfl rfl rfl j rfl hlt ?_
    refine go T_ok 200 rfl ?_
    refine ldA T_ok rfl rfl rfl rfl rfl hc1 ?_
    refine go T_ok 200 rfl ?_
    rw [← hA1]
    have yS1 := S1.2.1
    have yq := q.size
    refine nw rfl rfl (z := .agg #[I 0, I 0, I 0]) (by kernel_rfl) (cs := [I 0, I 0, I 0]) rfl ?_
    intro g3 w hg3 hs3 qk B3
    have S1 := S1.no qk
    have q := q.trans qk
    refine go T_ok 200 rfl ?_
    refine stA T_ok rfl rfl rfl rfl (vs := rwL r) rfl rfl rfl B3 rfl ?_
    intro w qk B3 hz3
    have B3 : Bk w g3 135 (rwL r) := B3
    have S1 := Sl.keep S1 qk (fun k hk e => by omega)
    have q := q.step qk (fun k hk e => by omega)
    refine go T_ok 200 rfl ?_
    repeat (first | (refine ldA T_ok rfl rfl rfl rfl rfl (Bk.all B3) ?_; refine go T_ok 200 rfl ?_) | (refine ld T_ok rfl rfl rfl rfl (Bk.get B3 rfl) ?_; refine go T_ok 200 rfl ?_) | (refine guardA (b := true) rfl rfl rfl rfl (fun _ => ?_) (fun e => by cases e); refine go T_ok 200 rfl ?_) | (refine guardA (b := false) rfl rfl rfl rfl (fun e => by cases e) (fun _ => ?_); refine go T_ok 200 rfl ?_) | (refine condT rfl rfl ?_; refine go T_ok 200 rfl ?_) | (refine condF rfl rfl ?_; refine go T_ok 200 rfl ?_))
    refine call rfl rfl rfl (ok _ (by decide) rfl) (keyF_any r _) ?_
    rintro x w ⟨rfl, qk⟩
    have S1 := S1.no qk
    have B3 := B3.no qk
    have q := q.trans qk
    refine go T_ok 200 rfl ?_
    refine call rfl rfl rfl (ok _ (by decide) rfl) (within_any r.k f u _) ?_
    rintro x w ⟨rfl, rfl⟩
    by_cases hk : f ≤ r.k ∧ r.k ≤ u
    case neg =>
      rw [decide_eq_false hk]
      refine go T_ok 200 rfl ?_
      repeat (first | (refine guardA (b := true) rfl rfl rfl rfl (fun _ => ?_) (fun e => by cases e); refine go T_ok 200 rfl ?_) | (refine guardA (b := false) rfl rfl rfl rfl (fun e => by cases e) (fun _ => ?_); refine go T_ok 200 rfl ?_) | (refine condT rfl rfl ?_; refine go T_ok 200 rfl ?_) | (refine condF rfl rfl ?_; refine go T_ok 200 rfl ?_))
      exact ret (ret1 (v := .bool false) Try.results100 rfl ⟨⟨false, rfl, by simp; exact fun h => hk (h.1 r hmem).1⟩, q⟩)
    rw [decide_eq_true hk]
    refine go T_ok 200 rfl ?_
    repeat (first | (refine ldA T_ok rfl rfl rfl rfl rfl (Bk.all B3) ?_; refine go T_ok 200 rfl ?_) | (refine ld T_ok rfl rfl rfl rfl (Bk.get B3 rfl) ?_; refine go T_ok 200 rfl ?_) | (refine guardA (b := true) rfl rfl rfl rfl (fun _ => ?_) (fun e => by cases e); refine go T_ok 200 rfl ?_) | (refine guardA (b := false) rfl rfl rfl rfl (fun e => by cases e) (fun _ => ?_); refine go T_ok 200 rfl ?_) | (refine condT rfl rfl ?_; refine go T_ok 200 rfl ?_) | (refine condF rfl rfl ?_; refine go T_ok 200 rfl ?_))
    refine call rfl rfl rfl (ok _ (by decide) rfl) (spanF_any r _) ?_
    rintro x w ⟨rfl, qk⟩
    have S1 := S1.no qk
    have B3 := B3.no qk
    have q := q.trans qk
    refine go T_ok 200 rfl ?_
    repeat (first | (refine ldA T_ok rfl rfl rfl rfl rfl (Bk.all B3) ?_; refine go T_ok 200 rfl ?_) | (refine ld T_ok rfl rfl rfl rfl (Bk.get B3 rfl) ?_; refine go T_ok 200 rfl ?_) | (refine guardA (b := true) rfl rfl rfl rfl (fun _ => ?_) (fun e => by cases e); refine go T_ok 200 rfl ?_) | (refine guardA (b := false) rfl rfl rfl rfl (fun e => by cases e) (fun _ => ?_); refine go T_ok 200 rfl ?_) | (refine condT rfl rfl ?_; refine go T_ok 200 rfl ?_) | (refine condF rfl rfl ?_; refine go T_ok 200 rfl ?_))
    refine call rfl rfl rfl (ok _ (by decide) rfl) (spanned_any (r.lo, r.hi) 0 m _) ?_
    rintro x w ⟨rfl, qk⟩
    have S1 := S1.no qk
    have B3 := B3.no qk
    have q := q.trans qk
    by_cases hs : SpOk (r.lo, r.hi) 0 m
    case neg =>
      rw [decide_eq_false hs]
      refine go T_ok 200 rfl ?_
      repeat (first | (refine guardA (b := true) rfl rfl rfl rfl (fun _ => ?_) (fun e => by cases e); refine go T_ok 200 rfl ?_) | (refine guardA (b := false) rfl rfl rfl rfl (fun e => by cases e) (fun _ => ?_); refine go T_ok 200 rfl ?_) | (refine condT rfl rfl ?_; refine go T_ok 200 rfl ?_) | (refine condF rfl rfl ?_; refine go T_ok 200 rfl ?_))
      exact ret (ret1 (v := .bool false) Try.results100 rfl ⟨⟨false, rfl, by simp; exact fun h => hs (h.1 r hmem).2⟩, q⟩)
    rw [decide_eq_true hs]
    refine go T_ok 200 rfl ?_
    repeat (first | (refine ldA T_ok rfl rfl rfl rfl rfl (Bk.all B3) ?_; refine go T_ok 200 rfl ?_) | (refine ld T_ok rfl rfl rfl rfl (Bk.get B3 rfl) ?_; refine go T_ok 200 rfl ?_) | (refine guardA (b := true) rfl rfl rfl rfl (fun _ => ?_) (fun e => by cases e); refine go T_ok 200 rfl ?_) | (refine guardA (b := false) rfl rfl rfl rfl (fun e => by cases e) (fun _ => ?_); refine go T_ok 200 rfl ?_) | (refine condT rfl rfl ?_; refine go T_ok 200 rfl ?_) | (refine condF rfl rfl ?_; refine go T_ok 200 rfl ?_))
    refine draw mixed (fun w' => Chg No w w') ([0,1,2,3,4,6,7,8,9,10,11].map (fun i => (i, true)) ++ [(5, false)] ++ [(12, false)] ++ [13,14,15,16,17,18,19,20,21,23,24].map (fun i => (i, true)) ++ [(22, false)] ++ [(25, false)] ++ [(26, false)] ++ [27,28,29].map (fun i => (i, true))) rfl (by kernel_rfl) (Chg.drew _) ?_
    refine goH T_ok 200 rfl ?_
    have p0 := Chg.refl No w
    by_cases hj0 : j = 0
    · refine guardHA (b := false) rfl rfl rfl (congrArg Value.bool (decide_eq_false (by omega))) (fun h => by cases h) (fun _ => ?_)
      refine goH T_ok 200 rfl ?_
      repeat (first | (refine passE rfl ?_; refine goH T_ok 200 rfl ?_) | (refine guardHA (b := false) rfl rfl rfl rfl (fun h => by cases h) (fun _ => ?_); refine goH T_ok 200 rfl ?_) | (refine guardHA (b := true) rfl rfl rfl rfl (fun _ => ?_) (fun h => by cases h); refine goH T_ok 200 rfl ?_))
      refine endH ?_
      have qk := Chg.drew w
      have S1 := S1.no qk
      have B3 := B3.no qk
      have q := q.trans qk
      refine go T_ok 200 rfl ?_
      repeat (first | (refine guardA (b := true) rfl rfl rfl rfl (fun _ => ?_) (fun e => by cases e); refine go T_ok 200 rfl ?_) | (refine guardA (b := false) rfl rfl rfl rfl (fun e => by cases e) (fun _ => ?_); refine go T_ok 200 rfl ?_) | (refine condT rfl rfl ?_; refine go T_ok 200 rfl ?_) | (refine condF rfl rfl ?_; refine go T_ok 200 rfl ?_))
      rw [e3]
      exact round ⟨j + 1, rfl, ⟨by omega, q, hm.step hr ⟨hk, hs⟩ (fun i a h => by omega)⟩, by omega⟩
    · obtain ⟨j', hj'⟩ : ∃ j', j = j' + 1 := ⟨j - 1, by omega⟩
      obtain ⟨a, ha⟩ := get_of (l := l) (i := j') (by omega)
      obtain ⟨b2, o2, hA2, hb2, hc2⟩ := S1.el rwL_len ha
      have l2 : b2 < w.heap.size := Nat.lt_of_lt_of_le hb2 S1.2.1
      have e10 : w64 ((j : Int) - 1) = ((j' : Nat) : Int) := by rw [w64_id (by omega) (by omega)]; omega
      have hnm : ∀ h : Mono f u m false l, Nb false a r := fun h => h.2.1 j' a ha r (by rw [← hj']; exact hr)
      refine guardHA (b := true) rfl rfl rfl (congrArg Value.bool (decide_eq_true (by omega))) (fun _ => ?_) (fun h => by cases h)
      refine goH T_ok 200 rfl ?_
      refine quietH rfl (fun w' hS => r_loadA T_ok rfl rfl rfl rfl (B3.no hS).all) ?_
      refine goH T_ok 200 rfl ?_
      rw [e10, hA2]
      refine quietH rfl (fun w' hS => r_idx T_ok rfl rfl rfl rfl j' rfl (by omega)) ?_
      refine goH T_ok 200 rfl ?_
      refine quietH rfl (fun w' hS => r_loadA T_ok rfl rfl rfl (cs := rwL a) rfl (hc2.keep l2 hS (fun h => h))) ?_
      refine goH T_ok 200 rfl ?_
      refine callE rfl rfl rfl (ok _ (by decide) rfl) (keyF_any r _) ?_
      rintro x w2 ⟨rfl, q2⟩
      have qk := (Chg.drew w).trans q2
      refine ⟨qk, ?_⟩
      refine goH T_ok 200 rfl ?_
      refine callE rfl rfl rfl (ok _ (by decide) rfl) (keyF_any a _) ?_
      rintro x w3 ⟨rfl, q3⟩
      have qk := qk.trans q3
      refine ⟨qk, ?_⟩
      refine goH T_ok 200 rfl ?_
      by_cases hkk : r.k ≤ a.k
      · refine guardHA (b := true) rfl rfl rfl (congrArg Value.bool (decide_eq_true hkk)) (fun _ => ?_) (fun h => by cases h)
        refine goH T_ok 200 rfl ?_
        repeat (first | (refine passE rfl ?_; refine goH T_ok 200 rfl ?_) | (refine guardHA (b := false) rfl rfl rfl rfl (fun h => by cases h) (fun _ => ?_); refine goH T_ok 200 rfl ?_) | (refine guardHA (b := true) rfl rfl rfl rfl (fun _ => ?_) (fun h => by cases h); refine goH T_ok 200 rfl ?_))
        refine endH ?_
        have q := q.trans qk
        refine go T_ok 200 rfl ?_
        repeat (first | (refine guardA (b := true) rfl rfl rfl rfl (fun _ => ?_) (fun e => by cases e); refine go T_ok 200 rfl ?_) | (refine guardA (b := false) rfl rfl rfl rfl (fun e => by cases e) (fun _ => ?_); refine go T_ok 200 rfl ?_) | (refine condT rfl rfl ?_; refine go T_ok 200 rfl ?_) | (refine condF rfl rfl ?_; refine go T_ok 200 rfl ?_))
        exact ret (ret1 (v := .bool false) Try.results100 rfl ⟨⟨false, rfl, by simp; exact fun h => absurd (hnm h).1 (by omega)⟩, q⟩)
      · refine guardHA (b := false) rfl rfl rfl (congrArg Value.bool (decide_eq_false hkk)) (fun h => by cases h) (fun _ => ?_)
        refine goH T_ok 200 rfl ?_
        rw [e10]
        refine quietH rfl (fun w' hS => r_idx T_ok rfl rfl rfl rfl j' rfl (by omega)) ?_
        refine goH T_ok 200 rfl ?_
        refine quietH rfl (fun w' hS => r_loadA T_ok rfl rfl rfl (cs := rwL a) rfl (hc2.keep l2 hS (fun h => h))) ?_
        refine goH T_ok 200 rfl ?_
        refine quietH rfl (fun w' hS => r_loadA T_ok rfl rfl rfl rfl (B3.no hS).all) ?_
        refine goH T_ok 200 rfl ?_
        refine callE rfl rfl rfl (ok _ (by decide) rfl) (spanF_any a _) ?_
        rintro x w4 ⟨rfl, q4⟩
        have qk := qk.trans q4
        refine ⟨qk, ?_⟩
        refine goH T_ok 200 rfl ?_
        refine callE rfl rfl rfl (ok _ (by decide) rfl) (spanF_any r _) ?_
        rintro x w5 ⟨rfl, q5⟩
        have qk := qk.trans q5
        refine ⟨qk, ?_⟩
        refine goH T_ok 200 rfl ?_
        refine callE rfl rfl rfl (ok _ (by decide) rfl) (down_any (a.lo, a.hi) (r.lo, r.hi) _) ?_
        rintro x w6 ⟨rfl, q6⟩
        have qk := qk.trans q6
        refine ⟨qk, ?_⟩
        refine goH T_ok 200 rfl ?_
        refine endH ?_
        rw [← hA2]
        have S1 := S1.no qk
        have B3 := B3.no qk
        have q := q.trans qk
        by_cases hnb : Nb false a r
        · have hnb' := hnb.2
          simp only [if_false, Bool.false_eq_true] at hnb'
          have hnn : ∀ i x, j = i + 1 → l[i]? = some x → Nb false x r := fun i x h hx => by
            obtain rfl : i = j' := by omega
            rw [ha] at hx; cases hx; exact hnb
          rw [decide_eq_true hnb']
          refine go T_ok 200 rfl ?_
          repeat (first | (refine guardA (b := true) rfl rfl rfl rfl (fun _ => ?_) (fun e => by cases e); refine go T_ok 200 rfl ?_) | (refine guardA (b := false) rfl rfl rfl rfl (fun e => by cases e) (fun _ => ?_); refine go T_ok 200 rfl ?_) | (refine condT rfl rfl ?_; refine go T_ok 200 rfl ?_) | (refine condF rfl rfl ?_; refine go T_ok 200 rfl ?_))
          rw [e3]
          exact round ⟨j + 1, rfl, ⟨by omega, q, hm.step hr ⟨hk, hs⟩ (fun i x h hx => hnn i x h hx)⟩, by omega⟩
        · have hnb' : ¬ _ := fun h => hnb ⟨Int.not_le.1 hkk, by simp only [if_false, Bool.false_eq_true]; exact h⟩
          rw [decide_eq_false hnb']
          refine go T_ok 200 rfl ?_
          repeat (first | (refine guardA (b := true) rfl rfl rfl rfl (fun _ => ?_) (fun e => by cases e); refine go T_ok 200 rfl ?_) | (refine guardA (b := false) rfl rfl rfl rfl (fun e => by cases e) (fun _ => ?_); refine go T_ok 200 rfl ?_) | (refine condT rfl rfl ?_; refine go T_ok 200 rfl ?_) | (refine condF rfl rfl ?_; refine go T_ok 200 rfl ?_))
          exact ret (ret1 (v := .bool false) Try.results100 rfl ⟨⟨false, rfl, by simp; exact fun h => hnb (hnm h)⟩, q⟩)
  · obtain rfl : j = l.length := by omega
    refine go T_ok 200 rfl ?_
    refine call rfl rfl rfl (ok _ (by decide) rfl) (within_any (l.length : Int) 1 40 _) ?_
    rintro x w ⟨rfl, rfl⟩
    refine go T_ok 200 rfl ?_
    exact ret (ret1 (v := .bool _) Try.results100 rfl ⟨⟨_, rfl, by rw [decide_eq_true_iff]; exact hm.all.symm⟩, q⟩)
set_option maxRecDepth 20000 in
set_option maxHeartbeats 4000000 in
theorem monoK_any (l : List Rw) (f u m : Int) (A : Option Addr) (c B : Nat) (w : World) (S0 : Sl w B 3 A l.length (l.flatMap rwL)) (hl : l.length ≤ 9223372036854775807) :
    Ret Try.prog 85 [.slice A l.length c, .int .i64 f, .int .i64 u, .func (.func 86) #[] #[], .func (.func 87) #[] #[], .int .i64 m, .func (.func 88) #[] #[]] w fun x w' => (∃ b, x = .bool b ∧ (b = true ↔ Mono f u m true l)) ∧ Chg No w w' := by
  refine enter Try.func85 rfl Try.ntmps85 rfl ?_
  refine go T_ok 200 rfl ?_
  refine loop [0, 1, 2, 3, 4, 5, 6, 17, 18, 19] (fun j : Nat => [.slice A l.length c, .int .i64 f, .int .i64 u, .func (.func 86) #[] #[], .func (.func 87) #[] #[], .int .i64 m, .func (.func 88) #[] #[], .slice A l.length c, .int .i64 (l.length : Int), .int .i64 (j : Int)])
    (fun j w' => j ≤ l.length ∧ Chg No w w' ∧ MoTo f u m true l j) (fun j => l.length - j) 0 (fun _ => rfl) rfl ⟨Nat.zero_le _, Chg.refl _ _, fun i h => absurd h (Nat.not_lt_zero _), fun i h => absurd h (by omega)⟩ ?_
  rintro j τ w ⟨hj, q, hm⟩
  have S1 := S0.no q
  refine go T_ok 200 rfl ?_
  refine condD rfl (fun hlt => ?_) (fun hlt => ?_)
  · have hlt : j < l.length := by omega
    obtain ⟨r, hr⟩ := get_of hlt
    have hmem := List.mem_of_getElem? hr
    obtain ⟨b1, o1, hA1, hb1, hc1⟩ := S1.el rwL_len hr
    have e3 : w64 ((j : Int) + 1) = ((j + 1 : Nat) : Int) := w64_id (by omega) (by omega)
    refine go T_ok 200 rfl ?_
    rw [hA1]
    refine idx T_ok rfl rfl rfl rfl rfl j rfl hlt ?_
    refine go T_ok 200 rfl ?_
    refine ldA T_ok rfl rfl rfl rfl rfl hc1 ?_
    refine go T_ok 200 rfl ?_
    rw [← hA1]
    have yS1 := S1.2.1
    have yq := q.size
    refine nw rfl rfl (z := .agg #[I 0, I 0, I 0]) (by kernel_rfl) (cs := [I 0, I 0, I 0]) rfl ?_
    intro g3 w hg3 hs3 qk B3
    have S1 := S1.no qk
    have q := q.trans qk
    refine go T_ok 200 rfl ?_
    refine stA T_ok rfl rfl rfl rfl (vs := rwL r) rfl rfl rfl B3 rfl ?_
    intro w qk B3 hz3
    have B3 : Bk w g3 110 (rwL r) := B3
    have S1 := Sl.keep S1 qk (fun k hk e => by omega)
    have q := q.step qk (fun k hk e => by omega)
    refine go T_ok 200 rfl ?_
    repeat (first | (refine ldA T_ok rfl rfl rfl rfl rfl (Bk.all B3) ?_; refine go T_ok 200 rfl ?_) | (refine ld T_ok rfl rfl rfl rfl (Bk.get B3 rfl) ?_; refine go T_ok 200 rfl ?_) | (refine guardA (b := true) rfl rfl rfl rfl (fun _ => ?_) (fun e => by cases e); refine go T_ok 200 rfl ?_) | (refine guardA (b := false) rfl rfl rfl rfl (fun e => by cases e) (fun _ => ?_); refine go T_ok 200 rfl ?_) | (refine condT rfl rfl ?_; refine go T_ok 200 rfl ?_) | (refine condF rfl rfl ?_; refine go T_ok 200 rfl ?_))
    refine call rfl rfl rfl (ok _ (by decide) rfl) (keyK_any r _) ?_
    rintro x w ⟨rfl, qk⟩
    have S1 := S1.no qk
    have B3 := B3.no qk
    have q := q.trans qk
    refine go T_ok 200 rfl ?_
    refine call rfl rfl rfl (ok _ (by decide) rfl) (within_any r.k f u _) ?_
    rintro x w ⟨rfl, rfl⟩
    by_cases hk : f ≤ r.k ∧ r.k ≤ u
    case neg =>
      rw [decide_eq_false hk]
      refine go T_ok 200 rfl ?_
      repeat (first | (refine guardA (b := true) rfl rfl rfl rfl (fun _ => ?_) (fun e => by cases e); refine go T_ok 200 rfl ?_) | (refine guardA (b := false) rfl rfl rfl rfl (fun e => by cases e) (fun _ => ?_); refine go T_ok 200 rfl ?_) | (refine condT rfl rfl ?_; refine go T_ok 200 rfl ?_) | (refine condF rfl rfl ?_; refine go T_ok 200 rfl ?_))
      exact ret (ret1 (v := .bool false) Try.results85 rfl ⟨⟨false, rfl, by simp; exact fun h => hk (h.1 r hmem).1⟩, q⟩)
    rw [decide_eq_true hk]
    refine go T_ok 200 rfl ?_
    repeat (first | (refine ldA T_ok rfl rfl rfl rfl rfl (Bk.all B3) ?_; refine go T_ok 200 rfl ?_) | (refine ld T_ok rfl rfl rfl rfl (Bk.get B3 rfl) ?_; refine go T_ok 200 rfl ?_) | (refine guardA (b := true) rfl rfl rfl rfl (fun _ => ?_) (fun e => by cases e); refine go T_ok 200 rfl ?_) | (refine guardA (b := false) rfl rfl rfl rfl (fun e => by cases e) (fun _ => ?_); refine go T_ok 200 rfl ?_) | (refine condT rfl rfl ?_; refine go T_ok 200 rfl ?_) | (refine condF rfl rfl ?_; refine go T_ok 200 rfl ?_))
    refine call rfl rfl rfl (ok _ (by decide) rfl) (spanK_any r _) ?_
    rintro x w ⟨rfl, qk⟩
    have S1 := S1.no qk
    have B3 := B3.no qk
    have q := q.trans qk
    refine go T_ok 200 rfl ?_
    repeat (first | (refine ldA T_ok rfl rfl rfl rfl rfl (Bk.all B3) ?_; refine go T_ok 200 rfl ?_) | (refine ld T_ok rfl rfl rfl rfl (Bk.get B3 rfl) ?_; refine go T_ok 200 rfl ?_) | (refine guardA (b := true) rfl rfl rfl rfl (fun _ => ?_) (fun e => by cases e); refine go T_ok 200 rfl ?_) | (refine guardA (b := false) rfl rfl rfl rfl (fun e => by cases e) (fun _ => ?_); refine go T_ok 200 rfl ?_) | (refine condT rfl rfl ?_; refine go T_ok 200 rfl ?_) | (refine condF rfl rfl ?_; refine go T_ok 200 rfl ?_))
    refine call rfl rfl rfl (ok _ (by decide) rfl) (spanned_any (r.lo, r.hi) 0 m _) ?_
    rintro x w ⟨rfl, qk⟩
    have S1 := S1.no qk
    have B3 := B3.no qk
    have q := q.trans qk
    by_cases hs : SpOk (r.lo, r.hi) 0 m
    case neg =>
      rw [decide_eq_false hs]
      refine go T_ok 200 rfl ?_
      repeat (first | (refine guardA (b := true) rfl rfl rfl rfl (fun _ => ?_) (fun e => by cases e); refine go T_ok 200 rfl ?_) | (refine guardA (b := false) rfl rfl rfl rfl (fun e => by cases e) (fun _ => ?_); refine go T_ok 200 rfl ?_) | (refine condT rfl rfl ?_; refine go T_ok 200 rfl ?_) | (refine condF rfl rfl ?_; refine go T_ok 200 rfl ?_))
      exact ret (ret1 (v := .bool false) Try.results85 rfl ⟨⟨false, rfl, by simp; exact fun h => hs (h.1 r hmem).2⟩, q⟩)
    rw [decide_eq_true hs]
    refine go T_ok 200 rfl ?_
    repeat (first | (refine ldA T_ok rfl rfl rfl rfl rfl (Bk.all B3) ?_; refine go T_ok 200 rfl ?_) | (refine ld T_ok rfl rfl rfl rfl (Bk.get B3 rfl) ?_; refine go T_ok 200 rfl ?_) | (refine guardA (b := true) rfl rfl rfl rfl (fun _ => ?_) (fun e => by cases e); refine go T_ok 200 rfl ?_) | (refine guardA (b := false) rfl rfl rfl rfl (fun e => by cases e) (fun _ => ?_); refine go T_ok 200 rfl ?_) | (refine condT rfl rfl ?_; refine go T_ok 200 rfl ?_) | (refine condF rfl rfl ?_; refine go T_ok 200 rfl ?_))
    refine draw mixed (fun w' => Chg No w w') ([0,1,2,3,4,6,7,8,9,10,11].map (fun i => (i, true)) ++ [(5, false)] ++ [(12, false)] ++ [13,14,15,16,17,18,19,20,21,23,24].map (fun i => (i, true)) ++ [(22, false)] ++ [(25, false)] ++ [(26, false)] ++ [27,28,29].map (fun i => (i, true))) rfl (by kernel_rfl) (Chg.drew _) ?_
    refine goH T_ok 200 rfl ?_
    have p0 := Chg.refl No w
    by_cases hj0 : j = 0
    · refine guardHA (b := false) rfl rfl rfl (congrArg Value.bool (decide_eq_false (by omega))) (fun h => by cases h) (fun _ => ?_)
      refine goH T_ok 200 rfl ?_
      repeat (first | (refine passE rfl ?_; refine goH T_ok 200 rfl ?_) | (refine guardHA (b := false) rfl rfl rfl rfl (fun h => by cases h) (fun _ => ?_); refine goH T_ok 200 rfl ?_) | (refine guardHA (b := true) rfl rfl rfl rfl (fun _ => ?_) (fun h => by cases h); refine goH T_ok 200 rfl ?_))
      refine endH ?_
      have qk := Chg.drew w
      have S1 := S1.no qk
      have B3 := B3.no qk
      have q := q.trans qk
      refine go T_ok 200 rfl ?_
      repeat (first | (refine guardA (b := true) rfl rfl rfl rfl (fun _ => ?_) (fun e => by cases e); refine go T_ok 200 rfl ?_) | (refine guardA (b := false) rfl rfl rfl rfl (fun e => by cases e) (fun _ => ?_); refine go T_ok 200 rfl ?_) | (refine condT rfl rfl ?_; refine go T_ok 200 rfl ?_) | (refine condF rfl rfl ?_; refine go T_ok 200 rfl ?_))
      rw [e3]
      exact round ⟨j + 1, rfl, ⟨by omega, q, hm.step hr ⟨hk, hs⟩ (fun i a h => by omega)⟩, by omega⟩
    · obtain ⟨j', hj'⟩ : ∃ j', j = j' + 1 := ⟨j - 1, by omega⟩
      obtain ⟨a, ha⟩ := get_of (l := l) (i := j') (by omega)
      obtain ⟨b2, o2, hA2, hb2, hc2⟩ := S1.el rwL_len ha
      have l2 : b2 < w.heap.size := Nat.lt_of_lt_of_le hb2 S1.2.1
      have e10 : w64 ((j : Int) - 1) = ((j' : Nat) : Int) := by rw [w64_id (by omega) (by omega)]; omega
      have hnm : ∀ h : Mono f u m true l, Nb true a r := fun h => h.2.1 j' a ha r (by rw [← hj']; exact hr)
      refine guardHA (b := true) rfl rfl rfl (congrArg Value.bool (decide_eq_true (by omega))) (fun _ => ?_) (fun h => by cases h)
      refine goH T_ok 200 rfl ?_
      refine quietH rfl (fun w' hS => r_loadA T_ok rfl rfl rfl rfl (B3.no hS).all) ?_
      refine goH T_ok 200 rfl ?_
      rw [e10, hA2]
      refine quietH rfl (fun w' hS => r_idx T_ok rfl rfl rfl rfl j' rfl (by omega)) ?_
      refine goH T_ok 200 rfl ?_
      refine quietH rfl (fun w' hS => r_loadA T_ok rfl rfl rfl (cs := rwL a) rfl (hc2.keep l2 hS (fun h => h))) ?_
      refine goH T_ok 200 rfl ?_
      refine callE rfl rfl rfl (ok _ (by decide) rfl) (keyK_any r _) ?_
      rintro x w2 ⟨rfl, q2⟩
      have qk := (Chg.drew w).trans q2
      refine ⟨qk, ?_⟩
      refine goH T_ok 200 rfl ?_
      refine callE rfl rfl rfl (ok _ (by decide) rfl) (keyK_any a _) ?_
      rintro x w3 ⟨rfl, q3⟩
      have qk := qk.trans q3
      refine ⟨qk, ?_⟩
      refine goH T_ok 200 rfl ?_
      by_cases hkk : r.k ≤ a.k
      · refine guardHA (b := true) rfl rfl rfl (congrArg Value.bool (decide_eq_true hkk)) (fun _ => ?_) (fun h => by cases h)
        refine goH T_ok 200 rfl ?_
        repeat (first | (refine passE rfl ?_; refine goH T_ok 200 rfl ?_) | (refine guardHA (b := false) rfl rfl rfl rfl (fun h => by cases h) (fun _ => ?_); refine goH T_ok 200 rfl ?_) | (refine guardHA (b := true) rfl rfl rfl rfl (fun _ => ?_) (fun h => by cases h); refine goH T_ok 200 rfl ?_))
        refine endH ?_
        have q := q.trans qk
        refine go T_ok 200 rfl ?_
        repeat (first | (refine guardA (b := true) rfl rfl rfl rfl (fun _ => ?_) (fun e => by cases e); refine go T_ok 200 rfl ?_) | (refine guardA (b := false) rfl rfl rfl rfl (fun e => by cases e) (fun _ => ?_); refine go T_ok 200 rfl ?_) | (refine condT rfl rfl ?_; refine go T_ok 200 rfl ?_) | (refine condF rfl rfl ?_; refine go T_ok 200 rfl ?_))
        exact ret (ret1 (v := .bool false) Try.results85 rfl ⟨⟨false, rfl, by simp; exact fun h => absurd (hnm h).1 (by omega)⟩, q⟩)
      · refine guardHA (b := false) rfl rfl rfl (congrArg Value.bool (decide_eq_false hkk)) (fun h => by cases h) (fun _ => ?_)
        refine goH T_ok 200 rfl ?_
        rw [e10]
        refine quietH rfl (fun w' hS => r_idx T_ok rfl rfl rfl rfl j' rfl (by omega)) ?_
        refine goH T_ok 200 rfl ?_
        refine quietH rfl (fun w' hS => r_loadA T_ok rfl rfl rfl (cs := rwL a) rfl (hc2.keep l2 hS (fun h => h))) ?_
        refine goH T_ok 200 rfl ?_
        refine quietH rfl (fun w' hS => r_loadA T_ok rfl rfl rfl rfl (B3.no hS).all) ?_
        refine goH T_ok 200 rfl ?_
        refine callE rfl rfl rfl (ok _ (by decide) rfl) (spanK_any a _) ?_
        rintro x w4 ⟨rfl, q4⟩
        have qk := qk.trans q4
        refine ⟨qk, ?_⟩
        refine goH T_ok 200 rfl ?_
        refine callE rfl rfl rfl (ok _ (by decide) rfl) (spanK_any r _) ?_
        rintro x w5 ⟨rfl, q5⟩
        have qk := qk.trans q5
        refine ⟨qk, ?_⟩
        refine goH T_ok 200 rfl ?_
        refine callE rfl rfl rfl (ok _ (by decide) rfl) (up_any (a.lo, a.hi) (r.lo, r.hi) _) ?_
        rintro x w6 ⟨rfl, q6⟩
        have qk := qk.trans q6
        refine ⟨qk, ?_⟩
        refine goH T_ok 200 rfl ?_
        refine endH ?_
        rw [← hA2]
        have S1 := S1.no qk
        have B3 := B3.no qk
        have q := q.trans qk
        by_cases hnb : Nb true a r
        · have hnb' := hnb.2
          simp only [if_true] at hnb'
          have hnn : ∀ i x, j = i + 1 → l[i]? = some x → Nb true x r := fun i x h hx => by
            obtain rfl : i = j' := by omega
            rw [ha] at hx; cases hx; exact hnb
          rw [decide_eq_true hnb']
          refine go T_ok 200 rfl ?_
          repeat (first | (refine guardA (b := true) rfl rfl rfl rfl (fun _ => ?_) (fun e => by cases e); refine go T_ok 200 rfl ?_) | (refine guardA (b := false) rfl rfl rfl rfl (fun e => by cases e) (fun _ => ?_); refine go T_ok 200 rfl ?_) | (refine condT rfl rfl ?_; refine go T_ok 200 rfl ?_) | (refine condF rfl rfl ?_; refine go T_ok 200 rfl ?_))
          rw [e3]
          exact round ⟨j + 1, rfl, ⟨by omega, q, hm.step hr ⟨hk, hs⟩ (fun i x h hx => hnn i x h hx)⟩, by omega⟩
        · have hnb' : ¬ _ := fun h => hnb ⟨Int.not_le.1 hkk, by simp only [if_true]; exact h⟩
          rw [decide_eq_false hnb']
          refine go T_ok 200 rfl ?_
          repeat (first | (refine guardA (b := true) rfl rfl rfl rfl (fun _ => ?_) (fun e => by cases e); refine go T_ok 200 rfl ?_) | (refine guardA (b := false) rfl rfl rfl rfl (fun e => by cases e) (fun _ => ?_); refine go T_ok 200 rfl ?_) | (refine condT rfl rfl ?_; refine go T_ok 200 rfl ?_) | (refine condF rfl rfl ?_; refine go T_ok 200 rfl ?_))
          exact ret (ret1 (v := .bool false) Try.results85 rfl ⟨⟨false, rfl, by simp; exact fun h => hnb (hnm h)⟩, q⟩)
  · obtain rfl : j = l.length := by omega
    refine go T_ok 200 rfl ?_
    refine call rfl rfl rfl (ok _ (by decide) rfl) (within_any (l.length : Int) 1 40 _) ?_
    rintro x w ⟨rfl, rfl⟩
    refine go T_ok 200 rfl ?_
    exact ret (ret1 (v := .bool _) Try.results85 rfl ⟨⟨_, rfl, by rw [decide_eq_true_iff]; exact hm.all.symm⟩, q⟩)
end Go.Proofs.Ytolhfimknimliaa
