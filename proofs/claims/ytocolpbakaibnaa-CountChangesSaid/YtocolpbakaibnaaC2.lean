/- The contracts of the bets against all rates: begin, next, run. -/
import Derived.Test.YtocolpbakaibnaaC1
namespace Go.Proofs.Ytocolpbakaibnaa
open Go.Ev Go.Proofs Go.Cnt

/-! ### The bets in memory: block b is the struct, block g the row of bets -/
/-- the cells of the struct -/
def BC (D : Nat) (lv : Int) (A : Value) (kept : Nat) (S : Nat → BS) (f : Nat → Value) : Prop :=
  f 0 = .int .i64 D ∧ f 1 = .int .i64 lv ∧ f 2 = A ∧ f 1004 = .int .i64 kept ∧
  (∀ j, j ≤ D → f (3 + j) = .bool (S j).out) ∧ ∀ j, j ≤ D → (S j).out = true → f (1005 + j) = .int .i64 (S j).at_
structure Bets (w : World) (b g : Nat) (D : Nat) (lv : Int) (S : Nat → BS) : Prop where
  ne : b ≠ g
  par : ∃ f cap, w.rowIs b 105 2006 f ∧ BC D lv (.slice (some ⟨g, 0, none⟩) (D + 1) cap) (cnt (fun j => !(S j).out) (D + 1)) S f
  row : ∃ m e, w.rowIs g 82 m e ∧ 5 * (D + 1) ≤ m ∧ ∀ j, j ≤ D → (S j).out = false → betAt e (5 * j) D (S j).n (S j).h j (S j).c
theorem Bets.keep {M : Nat → Prop} {w w' : World} {b g D : Nat} {lv : Int} {S : Nat → BS} (h : Bets w b g D lv S) (c : Chg M w w') (hb : ¬ M b) (hg : ¬ M g) : Bets w' b g D lv S := by
  obtain ⟨f, cap, h1, h2⟩ := h.par
  obtain ⟨m, e, h3, h4, h5⟩ := h.row
  exact ⟨h.ne, ⟨f, cap, rowIs_keep h1 c hb, h2⟩, ⟨m, e, rowIs_keep h3 c hg, h4, h5⟩⟩
theorem Bets.no {w w' : World} {b g D : Nat} {lv : Int} {S : Nat → BS} (h : Bets w b g D lv S) (c : Chg No w w') : Bets w' b g D lv S := h.keep c (fun h => h) (fun h => h)
theorem Bets.ltb {w : World} {b g D : Nat} {lv : Int} {S : Nat → BS} (h : Bets w b g D lv S) : b < w.heap.size := by obtain ⟨f, cap, h1, _⟩ := h.par; exact h1.lt
theorem Bets.ltg {w : World} {b g D : Nat} {lv : Int} {S : Nat → BS} (h : Bets w b g D lv S) : g < w.heap.size := by obtain ⟨m, e, h1, _⟩ := h.row; exact h1.lt
/-- the same states -/
theorem Bets.congr {w : World} {b g D : Nat} {lv : Int} {S S' : Nat → BS} (h : Bets w b g D lv S) (e : ∀ j, j ≤ D → S j = S' j) : Bets w b g D lv S' := by
  obtain ⟨f, cap, h1, a0, a1, a2, a3, a4, a5⟩ := h.par
  obtain ⟨m, e', h3, h4, h5⟩ := h.row
  refine ⟨h.ne, ⟨f, cap, h1, a0, a1, a2, ?_, ?_, ?_⟩, ⟨m, e', h3, h4, ?_⟩⟩
  · rw [a3, cnt_congr (p := fun j => !(S j).out) (q := fun j => !(S' j).out)]
    intro j hj
    rw [e j (by omega)]
  · intro j hj; rw [← e j hj]; exact a4 j hj
  · intro j hj; rw [← e j hj]; exact a5 j hj
  · intro j hj; rw [← e j hj]; exact h5 j hj

set_option maxRecDepth 20000 in
/-- one rate's turn: next$1 -/
theorem against_any (hit : Bool) (D : Nat) (lv : Int) (S : Nat → BS) (b g b1 b2 k : Nat) (w : World) (H : Bets w b g D lv S) (B1 : Bk w b1 86 [.pointer (some ⟨b, 0, none⟩)]) (B2 : Bk w b2 4 [.bool hit])
    (hn1 : b1 ≠ b) (hn2 : b1 ≠ g)
    (hD0 : 2 ≤ D) (hD1 : D ≤ 1000) (hl0 : 0 ≤ lv) (hl1 : lv ≤ 900000) (hk : k ≤ D) (hS : BSok 3999 (S k)) (hout : (S k).out = false) :
    Ret Try.prog 82 [.int .i64 k, .pointer (some ⟨b1, 0, none⟩), .pointer (some ⟨b2, 0, none⟩)] w fun v w' => v = .tuple #[] ∧ Chg (fun x => x = b ∨ x = g) w w' ∧
      Bets w' b g D lv (fun j => if j = k then bstep D lv k (S k) hit else S j) := by
  obtain ⟨f, cap, Rb, a0, a1, a2, a3, a4, a5⟩ := H.par
  obtain ⟨m, e, Rg, hm, hbet⟩ := H.row
  have hne := H.ne
  obtain ⟨s1, s2, s3, s4, s5, _, _⟩ := hS
  refine enter Try.func82 rfl Try.ntmps82 rfl ?_
  refine go T_ok 100 rfl ?_
  refine ld T_ok rfl rfl rfl rfl (B1.get rfl) ?_
  refine go T_ok 100 rfl ?_
  refine ld T_ok rfl rfl rfl rfl ((Rb.cell (i := 0 + 2) (by omega)).trans (congrArg some a2)) ?_
  refine go T_ok 100 rfl ?_
  refine idx T_ok rfl rfl rfl rfl rfl k rfl (by omega) ?_
  refine go T_ok 100 rfl ?_
  refine ld T_ok rfl rfl rfl rfl (B2.get rfl) ?_
  refine go T_ok 100 rfl ?_
  have e0 : 0 + k * 5 = 5 * k := by omega
  rw [e0]
  refine call rfl rfl rfl (ok _ (by decide) rfl) (bnext_any hit (S k).c (S k).n (S k).h D k g (5 * k) m 82 e w Rg (hbet k hk hout) (by omega) s1 s2 (by omega) (by omega) s3 s4 (by omega) (by omega) (by omega) (by omega)) ?_
  rintro v w1 ⟨rfl, q1, e', Rg1, hb1, hfar⟩
  have Rb1 := rowIs_keep Rb q1 hne
  have B11 := B1.keep q1 hn2
  refine go T_ok 100 rfl ?_
  obtain ⟨c0, c1, c2, c3, c4⟩ := hb1
  have hcb := nextC_bd (D := D) (k := k) hit s1 s2 (by omega) s3 s4 (by omega) (by omega) (by omega)
  have el : w64 (lv * 1048576) = lv * 1048576 := w64_id (by omega) (by omega)
  have ekn : w64 ((cnt (fun j => !(S j).out) (D + 1) : Int) - 1) = (cnt (fun j => !(S j).out) (D + 1) : Int) - 1 := w64_id (by omega) (by have := cnt_le (fun j => !(S j).out) (D + 1); omega)
  refine draw mixed (fun w' => w' = w1.drew) ((List.range 19).map fun i => (i, true)) rfl (by kernel_rfl) rfl ?_
  refine goH T_ok 100 rfl ?_
  refine quietH rfl (fun w' hS => r_load T_ok rfl rfl rfl (by rw [hS]; exact B11.get rfl)) ?_
  refine goH T_ok 100 rfl ?_
  refine quietH rfl (fun w' hS => r_idxA T_ok rfl rfl rfl rfl k rfl (by omega)) ?_
  refine goH T_ok 100 rfl ?_
  refine quietH rfl (fun w' hS => r_load T_ok rfl rfl rfl (by rw [hS]; exact (Rb1.cell (i := 0 + 3 + k * 1) (by omega)).trans (congrArg some (by rw [show 0 + 3 + k * 1 = 3 + k by omega, a4 k hk, hout])))) ?_
  refine goH T_ok 100 rfl ?_
  refine guardH (b := true) rfl rfl rfl (fun _ => ?_) (fun h => by cases h)
  refine goH T_ok 100 rfl ?_
  refine quietH rfl (fun w' hS => r_load T_ok rfl rfl rfl (by rw [hS]; exact (Rg1.cell (i := 5 * k + 4) (by omega)).trans (congrArg some c4))) ?_
  refine goH T_ok 100 rfl ?_
  refine quietH rfl (fun w' hS => r_load T_ok rfl rfl rfl (by rw [hS]; exact B11.get rfl)) ?_
  refine goH T_ok 100 rfl ?_
  refine quietH rfl (fun w' hS => r_load T_ok rfl rfl rfl (by rw [hS]; exact (Rb1.cell (i := 0 + 1) (by omega)).trans (congrArg some a1))) ?_
  refine goH T_ok 100 rfl ?_
  rw [el]
  refine endH ?_
  refine go T_ok 100 rfl ?_
  refine condD rfl (fun hq => ?_) (fun hq => ?_)
  · refine go T_ok 100 rfl ?_
    have L1 : ∀ {w' : World}, Chg (fun x => x = b) w1 w' → w'.cell? ⟨b1, 0, none⟩ = some (.pointer (some ⟨b, 0, none⟩)) := fun hS => (B11.keep hS hn1).get rfl
    have L2 : ∀ {w' : World}, Chg (fun x => x = b) w1 w' → w'.cell? ⟨g, 5 * k + 1, none⟩ = some (.int .i64 ((S k).n + 1)) := fun hS => ((rowIs_keep Rg1 hS (Ne.symm hne)).cell (i := 5 * k + 1) (by omega)).trans (congrArg some c1)
    refine draw mixed (fun w' => Chg (fun x => x = b) w1 w') ([0,1,2,3,4,5,6,7,8,9,10,11,13,14].map (fun i => (i, true)) ++ [(12, false)] ++ [15].map (fun i => (i, true)) ++ [(16, false)]) rfl (by kernel_rfl) ((Chg.refl _ _).no ((Chg.drew _).trans (Chg.drew _))) ?_
    refine goH T_ok 100 rfl ?_
    refine quietH rfl (fun w' hS => r_load T_ok rfl rfl rfl (L1 hS)) ?_
    refine goH T_ok 100 rfl ?_
    refine quietH rfl (fun w' hS => r_load T_ok rfl rfl rfl (L1 hS)) ?_
    refine goH T_ok 100 rfl ?_
    refine quietH rfl (fun w' hS => r_load T_ok rfl rfl rfl (L2 hS)) ?_
    refine goH T_ok 100 rfl ?_
    refine quietH rfl (fun w' hS => r_idxA T_ok rfl rfl rfl rfl k rfl (by omega)) ?_
    refine goH T_ok 100 rfl ?_
    have Rb2 : w1.drew.drew.rowIs b 105 2006 f := rowIs_no Rb1 ((Chg.drew w1).trans (Chg.drew _))
    refine stRE (v := .bool true) T_ok rfl rfl rfl rfl rfl rfl Rb2 (by omega) ?_
    intro w2 q2 R2 _
    refine ⟨((Chg.refl (fun x => x = b) w1).no ((Chg.drew w1).trans (Chg.drew _))).trans q2, ?_⟩
    refine goH T_ok 100 rfl ?_
    refine quietH rfl (fun w' hS => r_idxA T_ok rfl rfl rfl rfl k rfl (by omega)) ?_
    refine goH T_ok 100 rfl ?_
    refine stRE (v := .int .i64 _) T_ok rfl rfl rfl rfl rfl rfl R2 (by omega) ?_
    intro w3 q3 R3 _
    have q13 : Chg (fun x => x = b) w1 w3 := (((Chg.refl (fun x => x = b) w1).no ((Chg.drew w1).trans (Chg.drew _))).trans q2).trans q3
    refine ⟨q13, ?_⟩
    refine goH T_ok 100 rfl ?_
    refine endH ?_
    refine go T_ok 100 rfl ?_
    refine ld T_ok rfl rfl rfl rfl (L1 q13) ?_
    refine go T_ok 100 rfl ?_
    refine ld T_ok rfl rfl rfl rfl ((R3.cell (i := 0 + 1004) (by omega)).trans (by rw [if_neg (by omega), if_neg (by omega), a3])) ?_
    refine go T_ok 100 rfl ?_
    rw [ekn]
    refine stR (v := .int .i64 _) T_ok rfl rfl rfl rfl rfl rfl R3 (by omega) ?_
    intro w4 q4 R4 _
    refine go T_ok 100 rfl ?_
    refine fin (ret0 Try.results82 ⟨rfl, ?_, ?_⟩)
    · exact (q1.mono fun _ _ h => .inr h).trans ((q13.trans q4).mono fun _ _ h => .inl h)
    · have hs : bstep D lv k (S k) hit = { bnext D k (S k) hit with out := true, at_ := (S k).n + 1 } := by
        have hq : (bnext D k (S k) hit).c ≥ lv * 1048576 := hq
        unfold bstep
        rw [hout, if_neg (by simp), if_pos hq]
      refine ⟨hne, ⟨_, cap, R4, ?_, ?_, ?_, ?_, ?_, ?_⟩, ⟨m, e', rowIs_keep Rg1 (q13.trans q4) (Ne.symm hne), hm, ?_⟩⟩
      · show (if 0 = 0 + 1004 then _ else if 0 = 0 + 1005 + k * 1 then _ else if 0 = 0 + 3 + k * 1 then _ else f 0) = _
        rw [if_neg (by omega), if_neg (by omega), if_neg (by omega)]; exact a0
      · show (if 1 = 0 + 1004 then _ else if 1 = 0 + 1005 + k * 1 then _ else if 1 = 0 + 3 + k * 1 then _ else f 1) = _
        rw [if_neg (by omega), if_neg (by omega), if_neg (by omega)]; exact a1
      · show (if 2 = 0 + 1004 then _ else if 2 = 0 + 1005 + k * 1 then _ else if 2 = 0 + 3 + k * 1 then _ else f 2) = _
        rw [if_neg (by omega), if_neg (by omega), if_neg (by omega)]; exact a2
      · simp only [Nat.zero_add, if_true]
        rw [cnt_off (p := fun j => !(S j).out) (q := fun j => !(if j = k then bstep D lv k (S k) hit else S j).out) (j := k) (by simp [hout]) (by simp [hs]) (by omega) (by intro x _ hx; simp [hx])]
        congr 1
        omega
      · intro j hj
        simp only
        rw [if_neg (by omega), if_neg (by omega)]
        by_cases hjk : j = k
        · subst hjk
          rw [if_pos (by omega), if_pos rfl, hs]
        · rw [if_neg (by omega), if_neg hjk]
          exact a4 j hj
      · intro j hj ho
        simp only
        rw [if_neg (by omega)]
        by_cases hjk : j = k
        · subst hjk
          rw [if_pos (by omega), if_pos rfl, hs]
        · simp only [if_neg hjk] at ho ⊢
          rw [if_neg (by omega), if_neg (by omega)]
          exact a5 j hj ho
      · intro j hj ho
        by_cases hjk : j = k
        · subst hjk
          simp [hs] at ho
        · simp only [if_neg hjk] at ho ⊢
          obtain ⟨d0, d1, d2, d3, d4⟩ := hbet j hj ho
          refine ⟨?_, ?_, ?_, ?_, ?_⟩
          · rw [hfar _ (by omega)]; exact d0
          · rw [hfar _ (by omega)]; exact d1
          · rw [hfar _ (by omega)]; exact d2
          · rw [hfar _ (by omega)]; exact d3
          · rw [hfar _ (by omega)]; exact d4
  · refine go T_ok 100 rfl ?_
    refine fin (ret0 Try.results82 ⟨rfl, ?_, ?_⟩)
    · exact (q1.mono fun _ _ h => .inr h).no (Chg.drew _)
    · have hs : bstep D lv k (S k) hit = bnext D k (S k) hit := by
        have hq : ¬ (bnext D k (S k) hit).c ≥ lv * 1048576 := hq
        unfold bstep
        rw [hout, if_neg (by simp), if_neg hq]
      have ho : (bnext D k (S k) hit).out = false := hout
      refine ⟨hne, ⟨f, cap, rowIs_no Rb1 (Chg.drew w1), a0, a1, a2, ?_, ?_, ?_⟩, ⟨m, e', rowIs_no Rg1 (Chg.drew w1), hm, ?_⟩⟩
      · rw [a3, cnt_congr (p := fun j => !(S j).out) (q := fun j => !(if j = k then bstep D lv k (S k) hit else S j).out)]
        intro j _
        by_cases hjk : j = k
        · subst hjk; simp [hs, ho, hout]
        · simp [hjk]
      · intro j hj
        rw [a4 j hj]
        by_cases hjk : j = k
        · subst hjk; simp [hs, ho, hout]
        · simp [hjk]
      · intro j hj ho'
        by_cases hjk : j = k
        · subst hjk
          simp [hs, ho] at ho'
        · simp only [if_neg hjk] at ho' ⊢
          exact a5 j hj ho'
      · intro j hj ho'
        by_cases hjk : j = k
        · subst hjk
          simp only [if_true, hs]
          exact ⟨c0, c1, c2, c3, c4⟩
        · simp only [if_neg hjk] at ho' ⊢
          obtain ⟨d0, d1, d2, d3, d4⟩ := hbet j hj ho'
          refine ⟨?_, ?_, ?_, ?_, ?_⟩
          · rw [hfar _ (by omega)]; exact d0
          · rw [hfar _ (by omega)]; exact d1
          · rw [hfar _ (by omega)]; exact d2
          · rw [hfar _ (by omega)]; exact d3
          · rw [hfar _ (by omega)]; exact d4
end Go.Proofs.Ytocolpbakaibnaa
