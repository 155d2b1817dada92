/- The contracts of the small functions of layer 6: ticks, grounds. -/
import Derived.Test.YtkkjfjeniaiaiaaC2
namespace Go.Proofs.Ytkkjfjeniaiaiaa
open Go.Ev Go.Proofs Go.Rock
attribute [local irreducible] At AtH

theorem tkF_bd : ∀ (l : List Int) (s : Int), 0 < s → (∀ a ∈ l, -60 ≤ a ∧ a ≤ 60) → 0 < l.foldl tkS s ∧ l.foldl tkS s ≤ s * 60 ^ l.length := by
  intro l
  induction l with
  | nil => intro s h _; simpa using h
  | cons a l ih =>
    intro s h hl
    have ha := hl a (by simp)
    have h1 := tkS_pos (d := a) h
    have h2 := tkS_le h ha.1 ha.2
    obtain ⟨h3, h4⟩ := ih (tkS s a) h1 (fun b hb => hl b (by simp [hb]))
    refine ⟨h3, Int.le_trans h4 ?_⟩
    have h5 : tkS s a * 60 ^ l.length ≤ s * 60 * 60 ^ l.length := Int.mul_le_mul_of_nonneg_right h2 (Int.pow_nonneg (by decide))
    rw [List.length_cons, Int.pow_succ, Int.mul_comm (60 ^ l.length), ← Int.mul_assoc]
    exact h5
theorem tkJ_bd {l : List Int} (hl : ∀ a ∈ l, -60 ≤ a ∧ a ≤ 60) {j : Nat} (hj : j ≤ 3) : 0 < (l.take j).foldl tkS 1 ∧ (l.take j).foldl tkS 1 ≤ 216000 := by
  obtain ⟨h1, h2⟩ := tkF_bd (l.take j) 1 (by decide) (fun a ha => hl a (List.mem_of_mem_take ha))
  refine ⟨h1, Int.le_trans h2 ?_⟩
  have h3 : (l.take j).length ≤ 3 := by rw [List.length_take]; omega
  have h4 : 60 ^ (l.take j).length ≤ 60 ^ 3 := Nat.pow_le_pow_right (by decide) h3
  have h5 : ((60 : Int) ^ (l.take j).length) = ((60 ^ (l.take j).length : Nat) : Int) := by simp
  omega
theorem tkJ_succ {l : List Int} {j : Nat} {a : Int} (h : l[j]? = some a) : (l.take (j + 1)).foldl tkS 1 = tkS ((l.take j).foldl tkS 1) a := by
  rw [take_snoc h, List.foldl_append]; rfl
set_option maxHeartbeats 4000000 in
theorem ticks_any (r : Ra) (w : World) (hr : RaOk r) : Ret Try.prog 79 [.agg (rL r).toArray] w fun x w' => x = .int .i64 (tk r) ∧ Chg No w w' := by
  have hd := ((raOk_iff r).1 hr).2.1
  refine enter Try.func79 rfl Try.ntmps79 rfl ?_
  refine go T_ok 200 rfl ?_
  refine bx rfl rfl rfl (cs := rL r) rfl ?_
  intro g1 u1 hg1 hs1 q1 B1
  refine go T_ok 200 rfl ?_
  repeat (first | (refine ld T_ok rfl rfl rfl rfl (Bk.get B1 rfl) ?_; refine go T_ok 200 rfl ?_) | (refine guardA (b := true) rfl rfl rfl rfl (fun _ => ?_) (fun e => by cases e); refine go T_ok 200 rfl ?_) | (refine guardA (b := false) rfl rfl rfl rfl (fun e => by cases e) (fun _ => ?_); refine go T_ok 200 rfl ?_) | (refine condT rfl rfl ?_; refine go T_ok 200 rfl ?_) | (refine condF rfl rfl ?_; refine go T_ok 200 rfl ?_))
  refine bldA T_ok rfl rfl rfl (z := .agg #[I 0, I 0, I 0]) (by kernel_rfl) (bld3 rfl rfl rfl) ?_
  refine go T_ok 200 rfl ?_
  refine loop [3, 14, 15] (fun j : Nat => [.int .i64 (([r.dx, r.dy, r.dz].take j).foldl tkS 1), .agg ([r.dx, r.dy, r.dz].map (Value.int .i64)).toArray, .int .i64 (j : Int)])
    (fun j w' => j ≤ 3 ∧ Chg No u1 w') (fun j => 3 - j) 0 (fun _ => rfl) rfl ⟨by omega, Chg.refl _ _⟩ ?_
  rintro j τ w1 ⟨hj, q2⟩
  refine go T_ok 200 rfl ?_
  refine condD rfl (fun hlt => ?_) (fun hlt => ?_)
  · have hlt : j < 3 := by omega
    obtain ⟨a, ha, ha'⟩ := get3 r.dx r.dy r.dz hlt
    have hab := hd a (List.mem_of_getElem? ha)
    have hs := tkJ_succ ha
    have hb := tkJ_bd hd (j := j) (by omega)
    refine go T_ok 200 rfl ?_
    refine ix1 T_ok rfl rfl rfl rfl rfl j rfl hlt ha' ?_
    refine go T_ok 200 rfl ?_
    have e1 : w64 (0 - a) = 0 - a := w64_id (by omega) (by omega)
    have e2 : w64 ((j : Int) + 1) = ((j + 1 : Nat) : Int) := w64_id (by omega) (by omega)
    rw [e1, max_abs]
    generalize hL : ([r.dx, r.dy, r.dz].take j).foldl tkS 1 = L at hs hb ⊢
    have hA : 0 ≤ absI a ∧ absI a ≤ 60 := by unfold absI; split <;> omega
    refine condD rfl (fun h => ?_) (fun h => ?_)
    · have ha0 : a ≠ 0 := by rintro rfl; exact absurd h (by decide)
      refine go T_ok 200 rfl ?_
      refine loop [3, 5, 14, 15, 6, 7] (fun x : Int × Int => [.int .i64 L, .int .i64 (absI a), .agg ([r.dx, r.dy, r.dz].map (Value.int .i64)).toArray, .int .i64 (j : Int), .int .i64 x.1, .int .i64 x.2])
        (fun x w' => 0 ≤ x.1 ∧ 0 ≤ x.2 ∧ Int.gcd x.1 x.2 = Int.gcd L (absI a) ∧ Chg No u1 w') (fun x => x.2.toNat) (L, absI a) (fun _ => rfl) rfl ⟨by omega, hA.1, rfl, q2⟩ ?_
      rintro ⟨x, y⟩ τ w2 ⟨hx, hy, hg, q3⟩
      simp only at hx hy hg
      refine go T_ok 200 rfl ?_
      refine condD rfl (fun h => ?_) (fun h => ?_)
      · refine go T_ok 200 rfl ?_
        refine draw mixed (fun w' => Chg No w2 w') ([0,1,2,3,4,5].map (fun i => (i, true))) rfl (by kernel_rfl) (Chg.drew _) ?_
        refine goH T_ok 200 rfl ?_
        refine quietH rfl (fun w' hS => by rw [r_rem rfl rfl rfl (by omega), Int.tmod_eq_emod_of_nonneg hx]) ?_
        refine goH T_ok 200 rfl ?_
        refine endH ?_
        refine go T_ok 200 rfl ?_
        have h1 := Int.emod_nonneg x (by omega : y ≠ 0)
        have h2 := Int.emod_lt_of_pos x (by omega : 0 < y)
        exact round ⟨(y, x % y), rfl, ⟨hy, h1, by show Int.gcd y (x % y) = _; rw [gcd_step]; exact hg, q3.trans (Chg.drew _)⟩, by show (x % y).toNat < y.toNat; omega⟩
      · have h : y = 0 := by omega
        subst h
        have hg' : x = (Int.gcd L a : Int) := by rw [← gcd_abs, ← hg, gcd_zero hx]
        have hg0 : 0 < (Int.gcd L a : Int) := by
          have := Int.gcd_pos_of_ne_zero_left a (show L ≠ 0 by omega)
          omega
        have hq : 0 ≤ L / x ∧ L / x ≤ L := by
          rw [hg']
          exact ⟨Int.ediv_nonneg (by omega) (by omega), Int.ediv_le_self _ (by omega)⟩
        refine go T_ok 200 rfl ?_
        refine quoN rfl rfl rfl rfl (by omega) (by omega) (by omega) ?_
        refine go T_ok 200 rfl ?_
        have m1 := mul_bd hq.1 hA.1 (Int.le_trans hq.2 hb.2) hA.2
        have e3 : w64 (L / x * absI a) = L / x * absI a := w64_id (by omega) (by omega)
        rw [e3, e2]
        refine round ⟨j + 1, ?_, ⟨by omega, q3⟩, by omega⟩
        rw [hs]
        unfold tkS
        rw [if_neg ha0, ← hg']
        rfl
    · have ha0 : a = 0 := by
        unfold absI at h
        split at h <;> omega
      refine go T_ok 200 rfl ?_
      rw [e2]
      refine round ⟨j + 1, ?_, ⟨by omega, q2⟩, by omega⟩
      rw [hs]
      unfold tkS
      rw [if_pos ha0]
      rfl
  · have hj3 : j = 3 := by omega
    subst hj3
    refine go T_ok 200 rfl ?_
    exact ret (ret1 (v := .int .i64 _) Try.results79 rfl ⟨rfl, q1.trans q2⟩)
set_option maxHeartbeats 4000000 in
theorem rTicks_any (r : Ra) (w : World) (hr : RaOk r) : Ret Try.prog 51 [.agg (rL r).toArray] w fun x w' => x = .int .i64 (tk r) ∧ Chg No w w' := by
  have hd := ((raOk_iff r).1 hr).2.1
  refine enter Try.func51 rfl Try.ntmps51 rfl ?_
  refine go T_ok 200 rfl ?_
  refine bx rfl rfl rfl (cs := rL r) rfl ?_
  intro g1 u1 hg1 hs1 q1 B1
  refine go T_ok 200 rfl ?_
  repeat (first | (refine ld T_ok rfl rfl rfl rfl (Bk.get B1 rfl) ?_; refine go T_ok 200 rfl ?_) | (refine guardA (b := true) rfl rfl rfl rfl (fun _ => ?_) (fun e => by cases e); refine go T_ok 200 rfl ?_) | (refine guardA (b := false) rfl rfl rfl rfl (fun e => by cases e) (fun _ => ?_); refine go T_ok 200 rfl ?_) | (refine condT rfl rfl ?_; refine go T_ok 200 rfl ?_) | (refine condF rfl rfl ?_; refine go T_ok 200 rfl ?_))
  refine row T_ok rfl rfl rfl rfl rfl rfl (cs := [r.dx, r.dy, r.dz].map (Value.int .i64)) rfl ?_
  intro g u2 hg hs2 q2 B2 _
  refine go T_ok 200 rfl ?_
  refine loop [3, 4, 5] (fun j : Nat => [.int .i64 (([r.dx, r.dy, r.dz].take j).foldl tkS 1), .slice (some ⟨g, 0, none⟩) 3 3, .int .i64 (j : Int)])
    (fun j w' => j ≤ 3 ∧ Chg No u2 w') (fun j => 3 - j) 0 (fun _ => rfl) rfl ⟨by omega, Chg.refl _ _⟩ ?_
  rintro j τ w1 ⟨hj, q3⟩
  refine go T_ok 200 rfl ?_
  refine condD rfl (fun hlt => ?_) (fun hlt => ?_)
  · have hlt : j < 3 := by omega
    obtain ⟨a, ha, ha'⟩ := get3 r.dx r.dy r.dz hlt
    have hab := hd a (List.mem_of_getElem? ha)
    have hs := tkJ_succ ha
    have hb := tkJ_bd hd (j := j) (by omega)
    have e1 : w64 (0 - a) = 0 - a := w64_id (by omega) (by omega)
    have e2 : w64 ((j : Int) + 1) = ((j + 1 : Nat) : Int) := w64_id (by omega) (by omega)
    have hA : 0 ≤ absI a ∧ absI a ≤ 60 := by unfold absI; split <;> omega
    refine go T_ok 200 rfl ?_
    have B3 := B2.no q3
    have hcell : ∀ w', Chg No w1 w' → w'.cell? ⟨g, 0 + j * 1, none⟩ = some (.int .i64 a) := fun w' hS => (B3.no hS).getE (by rw [Nat.zero_add]; exact ha')
    refine draw mixed (fun w' => Chg No w1 w') ([0,1,2,3,4,5,6,7,8,9,10].map (fun i => (i, true))) rfl (by kernel_rfl) (Chg.drew _) ?_
    refine goH T_ok 200 rfl ?_
    refine quietH rfl (fun w' hS => r_idx T_ok rfl rfl rfl rfl j rfl (by omega)) ?_
    refine goH T_ok 200 rfl ?_
    refine quietH rfl (fun w' hS => r_load T_ok rfl rfl rfl (hcell w' hS)) ?_
    refine goH T_ok 200 rfl ?_
    refine quietH rfl (fun w' hS => r_idx T_ok rfl rfl rfl rfl j rfl (by omega)) ?_
    refine goH T_ok 200 rfl ?_
    refine quietH rfl (fun w' hS => r_load T_ok rfl rfl rfl (hcell w' hS)) ?_
    refine goH T_ok 200 rfl ?_
    rw [e1, max_abs]
    refine endH ?_
    generalize hL : ([r.dx, r.dy, r.dz].take j).foldl tkS 1 = L at hs hb ⊢
    refine go T_ok 200 rfl ?_
    refine cond rfl (fun h => ?_) (fun h => ?_)
    · have h : absI a ≠ 0 := by simpa using h
      have ha0 : a ≠ 0 := by rintro rfl; exact absurd h (by decide)
      refine go T_ok 200 rfl ?_
      refine call rfl rfl rfl (ok _ (by decide) rfl) (gcd_any _ _ _ (by omega) hA.1) ?_
      rintro v w2 ⟨rfl, q4⟩
      rw [gcd_abs]
      have hg0 : 0 < (Int.gcd L a : Int) := by
        have := Int.gcd_pos_of_ne_zero_left a (show L ≠ 0 by omega)
        omega
      have hq : 0 ≤ L / (Int.gcd L a : Int) ∧ L / (Int.gcd L a : Int) ≤ L := ⟨Int.ediv_nonneg (by omega) (by omega), Int.ediv_le_self _ (by omega)⟩
      refine go T_ok 200 rfl ?_
      refine quoN rfl rfl rfl rfl (by omega) (by omega) (by omega) ?_
      refine go T_ok 200 rfl ?_
      have m1 := mul_bd hq.1 hA.1 (Int.le_trans hq.2 hb.2) hA.2
      have e3 : w64 (L / (Int.gcd L a : Int) * absI a) = L / (Int.gcd L a : Int) * absI a := w64_id (by omega) (by omega)
      rw [e3, e2]
      refine round ⟨j + 1, ?_, ⟨by omega, (q3.trans (Chg.drew _)).trans q4⟩, by omega⟩
      rw [hs]
      unfold tkS
      rw [if_neg ha0]
      rfl
    · have h : absI a = 0 := by simpa using h
      have ha0 : a = 0 := by
        unfold absI at h
        split at h <;> omega
      refine go T_ok 200 rfl ?_
      rw [e2]
      refine round ⟨j + 1, ?_, ⟨by omega, q3.trans (Chg.drew _)⟩, by omega⟩
      rw [hs]
      unfold tkS
      rw [if_pos ha0]
      rfl
  · have hj3 : j = 3 := by omega
    subst hj3
    refine go T_ok 200 rfl ?_
    exact ret (ret1 (v := .int .i64 _) Try.results51 rfl ⟨rfl, q1.trans (q2.trans q3)⟩)
end Go.Proofs.Ytkkjfjeniaiaiaa
