/- The contracts of the small functions of layer 7: the bet against one rate. -/
import Derived.Test.YtocolpbakaibnaaChecked
import Derived.Test.YtocolpbakaibnaaEw
import Derived.Test.YtocolpbakaibnaaSpec
namespace Go.Proofs.Ytocolpbakaibnaa
open Go.Ev Go.Proofs Go.Cnt

def T : Tab := [(3, .one), (4, .one), (22, .one), (39, .one), (86, .one), (31, .slc 4 1 1), (56, .slc 3 1 8), (33, .slc 65 2 16), (100, .slc 82 5 40), (107, .slc 86 1 8),
  (65, .str 2 [(0,1,false),(1,1,false)] [.int .i64 0, .int .i64 0]), (80, .str 3 [(0,1,false),(1,1,false),(2,1,false)] [.int .i64 0, .int .i64 0, .int .i64 0]),
  (82, .str 5 [(0,3,true),(3,1,false),(4,1,false)] [.int .i64 0, .int .i64 0, .int .i64 0, .int .i64 0, .int .i64 0]),
  (49, .str 4 [(0,1,false),(1,1,false),(2,1,false),(3,1,false)] [.int .i64 0, .int .i64 0, .int .i64 0, .int .i64 0]),
  (105, .str 2006 [(0,1,false),(1,1,false),(2,1,false),(3,1001,true),(1004,1,false),(1005,1001,true)] []), (102, .arr 1001 1 false), (103, .arr 1001 1 false)]
theorem T_ok : tabOk Try.prog T = true := by kernel_rfl

theorem callables : (List.range 83).all (fun f => Nat.blt f 3 || callable Try.prog f) = true := by kernel_rfl
theorem ok (f : Nat) (h : f < 83) (h3 : Nat.blt f 3 = false) : callable Try.prog f = true := by
  have := List.all_eq_true.1 callables f (List.mem_range.2 h)
  rw [h3] at this
  exact this

theorem in_any (x lo hi : Int) (w : World) : Ret Try.prog 49 [.int .i64 x, .int .i64 lo, .int .i64 hi] w fun v w' => v = .bool (inB x lo hi) ∧ w = w' := by
  refine enter Try.func49 rfl Try.ntmps49 rfl ?_
  refine go T_ok 100 rfl ?_
  refine guardD rfl rfl rfl (fun h => ?_) (fun h => ?_)
  all_goals refine go T_ok 100 rfl ?_
  all_goals refine ret (ret1 (v := .bool _) Try.results49 rfl ?_)
  all_goals simp [inB, h]
theorem within_any (x lo hi : Int) (w : World) : Ret Try.prog 46 [.int .i64 x, .int .i64 lo, .int .i64 hi] w fun v w' => v = .bool (inB x lo hi) ∧ w = w' := by
  refine enter Try.func46 rfl Try.ntmps46 rfl ?_
  refine go T_ok 100 rfl ?_
  refine guardD rfl rfl rfl (fun h => ?_) (fun h => ?_)
  all_goals refine go T_ok 100 rfl ?_
  all_goals refine ret (ret1 (v := .bool _) Try.results46 rfl ?_)
  all_goals simp [inB, h]

theorem Parts_any (x : Int) (w : World) : Ret Try.prog 16 [.int .i64 x] w fun v w' => v = .bool (inB x 2 1000) ∧ w = w' := by
  refine enter Try.func16 rfl Try.ntmps16 rfl ?_
  refine go T_ok 100 rfl ?_
  refine call rfl rfl rfl (ok _ (by decide) rfl) (in_any _ _ _ _) ?_
  rintro v w ⟨rfl, rfl⟩
  refine go T_ok 100 rfl ?_
  exact ret (ret1 (v := .bool _) Try.results16 rfl ⟨rfl, rfl⟩)


theorem mixed : Try.prog.follows .mixedOrders = true := by kernel_rfl
theorem rBet_any (c n h D k : Int) (w : World) (hc0 : 0 ≤ c) (hc1 : c ≤ 1000000000000) (hn0 : 0 ≤ n) (hn1 : n ≤ 4000) (hh0 : 0 ≤ h) (hh1 : h ≤ n) (hD0 : 2 ≤ D) (hD1 : D ≤ 1000) (hk0 : 0 ≤ k) (hk1 : k ≤ D) :
    Ret Try.prog 18 [.int .i64 c, .int .i64 n, .int .i64 h, .int .i64 D, .int .i64 k] w fun v w' => v = .tuple #[.int .i64 (hitC c n h D k), .int .i64 (missC c n h D k)] ∧ w = w' := by
  have b1 := mul_bd hc0 (by omega : 0 ≤ h + 1) hc1 (by omega : h + 1 ≤ 4001)
  have b2 := mul_bd b1.1 (by omega : 0 ≤ D) b1.2 hD1
  have b3 := mul_bd (by omega : 0 ≤ n + 2) hk0 (by omega : n + 2 ≤ 4002) (by omega : k ≤ 1000)
  have b4 := mul_bd hc0 (by omega : 0 ≤ n - h + 1) hc1 (by omega : n - h + 1 ≤ 4001)
  have b5 := mul_bd b4.1 (by omega : 0 ≤ D) b4.2 hD1
  have b6 := mul_bd (by omega : 0 ≤ n + 2) (by omega : 0 ≤ D - k) (by omega : n + 2 ≤ 4002) (by omega : D - k ≤ 1000)
  have e1 : w64 (h + 1) = h + 1 := w64_id (by omega) (by omega)
  have e2 : w64 (n + 2) = n + 2 := w64_id (by omega) (by omega)
  have e3 : w64 (c * (h + 1)) = c * (h + 1) := w64_id (by omega) (by omega)
  have e4 : w64 (c * (h + 1) * D) = c * (h + 1) * D := w64_id (by omega) (by omega)
  have e5 : w64 ((n + 2) * k) = (n + 2) * k := w64_id (by omega) (by omega)
  have e6 : w64 (n - h) = n - h := w64_id (by omega) (by omega)
  have e7 : w64 (n - h + 1) = n - h + 1 := w64_id (by omega) (by omega)
  have e8 : w64 (c * (n - h + 1)) = c * (n - h + 1) := w64_id (by omega) (by omega)
  have e9 : w64 (c * (n - h + 1) * D) = c * (n - h + 1) * D := w64_id (by omega) (by omega)
  have e10 : w64 (D - k) = D - k := w64_id (by omega) (by omega)
  have e11 : w64 ((n + 2) * (D - k)) = (n + 2) * (D - k) := w64_id (by omega) (by omega)
  refine enter Try.func18 rfl Try.ntmps18 rfl ?_
  refine go T_ok 100 rfl ?_
  refine condD rfl (fun h1 => ?_) (fun h1 => ?_)
  · refine go T_ok 100 rfl ?_
    rw [e1, e2, e3, e4, e5]
    refine quoN rfl rfl rfl rfl (by omega) (by omega) (Int.mul_pos (by omega) h1) ?_
    refine go T_ok 100 rfl ?_
    refine condD rfl (fun h2 => ?_) (fun h2 => ?_)
    · refine go T_ok 100 rfl ?_
      rw [e6, e7, e8, e9, e10, e2, e11]
      refine quoN rfl rfl rfl rfl (by omega) (by omega) (Int.mul_pos (by omega) (by omega)) ?_
      refine go T_ok 100 rfl ?_
      refine condF rfl (beq_eq_false_iff_ne.2 (by omega)) ?_
      refine go T_ok 100 rfl ?_
      refine condF rfl (beq_eq_false_iff_ne.2 (by omega)) ?_
      refine go T_ok 100 rfl ?_
      refine ret (ret2 (v := .int .i64 _) (x := .int .i64 _) Try.results18 rfl rfl ?_)
      simp only [hitC, missC, if_neg (show ¬ k = 0 by omega), if_neg (show ¬ k = D by omega), and_self]
    · obtain rfl : k = D := by omega
      refine go T_ok 100 rfl ?_
      refine condF rfl (beq_eq_false_iff_ne.2 (by omega)) ?_
      refine go T_ok 100 rfl ?_
      refine condT rfl (beq_iff_eq.2 rfl) ?_
      refine go T_ok 100 rfl ?_
      refine ret (ret2 (v := .int .i64 _) (x := .int .i64 _) Try.results18 rfl rfl ?_)
      simp only [hitC, missC, if_neg (show ¬ k = 0 by omega), if_true, and_self]
  · obtain rfl : k = 0 := by omega
    refine go T_ok 100 rfl ?_
    refine condT rfl (decide_eq_true (by omega)) ?_
    refine go T_ok 100 rfl ?_
    rw [e6, e7, e8, e9, e10, e2, e11]
    refine quoN rfl rfl rfl rfl (by omega) (by omega) (Int.mul_pos (by omega) (by omega)) ?_
    refine go T_ok 100 rfl ?_
    refine condT rfl (beq_iff_eq.2 rfl) ?_
    refine go T_ok 100 rfl ?_
    refine condF rfl (beq_eq_false_iff_ne.2 (by omega)) ?_
    refine go T_ok 100 rfl ?_
    refine ret (ret2 (v := .int .i64 _) (x := .int .i64 _) Try.results18 rfl rfl ?_)
    simp only [hitC, missC, if_true, and_self]

/-- the five cells of a bet -/
def betL (D n h k c : Int) : List Value := [.int .i64 D, .int .i64 n, .int .i64 h, .int .i64 k, .int .i64 c]
theorem betL_0 {w : World} {g o : Nat} {D n h k c : Int} (H : cellsAt w g o (betL D n h k c)) : w.cell? ⟨g, o, none⟩ = some (.int .i64 D) := H 0 _ rfl
theorem betL_1 {w : World} {g o : Nat} {D n h k c : Int} (H : cellsAt w g o (betL D n h k c)) : w.cell? ⟨g, o + 1, none⟩ = some (.int .i64 n) := H 1 _ rfl
theorem betL_2 {w : World} {g o : Nat} {D n h k c : Int} (H : cellsAt w g o (betL D n h k c)) : w.cell? ⟨g, o + 2, none⟩ = some (.int .i64 h) := H 2 _ rfl
theorem betL_3 {w : World} {g o : Nat} {D n h k c : Int} (H : cellsAt w g o (betL D n h k c)) : w.cell? ⟨g, o + 3, none⟩ = some (.int .i64 k) := H 3 _ rfl
theorem betL_4 {w : World} {g o : Nat} {D n h k c : Int} (H : cellsAt w g o (betL D n h k c)) : w.cell? ⟨g, o + 4, none⟩ = some (.int .i64 c) := H 4 _ rfl
theorem hit_any (c n h D k : Int) (g o : Nat) (w : World) (H : cellsAt w g o (betL D n h k c)) (hc0 : 0 ≤ c) (hc1 : c ≤ 1000000000000) (hn0 : 0 ≤ n) (hn1 : n ≤ 4000) (hh0 : 0 ≤ h) (hh1 : h ≤ n) (hD0 : 2 ≤ D) (hD1 : D ≤ 1000) (hk0 : 0 ≤ k) (hk1 : k ≤ D) :
    Ret Try.prog 47 [.pointer (some ⟨g, o, none⟩)] w fun v w' => v = .int .i64 (hitC c n h D k) ∧ Chg No w w' := by
  have b1 := mul_bd hc0 (by omega : 0 ≤ h + 1) hc1 (by omega : h + 1 ≤ 4001)
  have b2 := mul_bd b1.1 (by omega : 0 ≤ D) b1.2 hD1
  have b3 := mul_bd (by omega : 0 ≤ n + 2) hk0 (by omega : n + 2 ≤ 4002) (by omega : k ≤ 1000)
  have e1 : w64 (h + 1) = h + 1 := w64_id (by omega) (by omega)
  have e2 : w64 (n + 2) = n + 2 := w64_id (by omega) (by omega)
  have e3 : w64 (c * (h + 1)) = c * (h + 1) := w64_id (by omega) (by omega)
  have e4 : w64 (c * (h + 1) * D) = c * (h + 1) * D := w64_id (by omega) (by omega)
  have e5 : w64 ((n + 2) * k) = (n + 2) * k := w64_id (by omega) (by omega)
  refine enter Try.func47 rfl Try.ntmps47 rfl ?_
  refine go T_ok 100 rfl ?_
  refine ld T_ok rfl rfl rfl rfl (betL_3 H) ?_
  refine go T_ok 100 rfl ?_
  refine cond rfl (fun h1 => ?_) (fun h1 => ?_)
  · refine go T_ok 100 rfl ?_
    refine ret (ret1 (v := .int .i64 _) Try.results47 rfl ?_)
    have : k = 0 := beq_iff_eq.1 h1
    exact ⟨by rw [hitC, if_pos this], Chg.refl _ _⟩
  · have h1 : ¬ k = 0 := beq_eq_false_iff_ne.1 h1
    refine go T_ok 100 rfl ?_
    refine ld T_ok rfl rfl rfl rfl (betL_0 H) ?_
    refine go T_ok 100 rfl ?_
    refine cond rfl (fun h2 => ?_) (fun h2 => ?_)
    · refine go T_ok 100 rfl ?_
      refine ld T_ok rfl rfl rfl rfl (betL_4 H) ?_
      refine go T_ok 100 rfl ?_
      refine ret (ret1 (v := .int .i64 _) Try.results47 rfl ?_)
      exact ⟨by rw [hitC, if_neg h1, if_pos (beq_iff_eq.1 h2)], Chg.refl _ _⟩
    · have h2 : ¬ k = D := beq_eq_false_iff_ne.1 h2
      refine go T_ok 100 rfl ?_
      refine draw mixed (fun w' => w' = w.drew) ((List.range 31).map fun i => (i, true)) rfl (by kernel_rfl) rfl ?_
      refine goH T_ok 100 rfl ?_
      refine quietH rfl (fun w' hS => r_load T_ok rfl rfl rfl (by rw [hS]; exact betL_4 H)) ?_
      refine goH T_ok 100 rfl ?_
      refine quietH rfl (fun w' hS => r_load T_ok rfl rfl rfl (by rw [hS]; exact betL_2 H)) ?_
      refine goH T_ok 100 rfl ?_
      refine quietH rfl (fun w' hS => r_load T_ok rfl rfl rfl (by rw [hS]; exact betL_0 H)) ?_
      refine goH T_ok 100 rfl ?_
      refine quietH rfl (fun w' hS => r_load T_ok rfl rfl rfl (by rw [hS]; exact betL_1 H)) ?_
      refine goH T_ok 100 rfl ?_
      refine quietH rfl (fun w' hS => r_load T_ok rfl rfl rfl (by rw [hS]; exact betL_3 H)) ?_
      refine goH T_ok 100 rfl ?_
      rw [e1, e2, e3, e4, e5]
      refine quietH rfl (fun w' hS => r_quoN rfl rfl rfl (by omega) (by omega) (Int.mul_pos (by omega) (by omega))) ?_
      refine goH T_ok 100 rfl ?_
      refine endH ?_
      refine go T_ok 100 rfl ?_
      refine ret (ret1 (v := .int .i64 _) Try.results47 rfl ?_)
      exact ⟨by rw [hitC, if_neg h1, if_neg h2], Chg.drew _⟩

theorem miss_any (c n h D k : Int) (g o : Nat) (w : World) (H : cellsAt w g o (betL D n h k c)) (hc0 : 0 ≤ c) (hc1 : c ≤ 1000000000000) (hn0 : 0 ≤ n) (hn1 : n ≤ 4000) (hh0 : 0 ≤ h) (hh1 : h ≤ n) (hD0 : 2 ≤ D) (hD1 : D ≤ 1000) (hk0 : 0 ≤ k) (hk1 : k ≤ D) :
    Ret Try.prog 48 [.pointer (some ⟨g, o, none⟩)] w fun v w' => v = .int .i64 (missC c n h D k) ∧ Chg No w w' := by
  have b4 := mul_bd hc0 (by omega : 0 ≤ n - h + 1) hc1 (by omega : n - h + 1 ≤ 4001)
  have b5 := mul_bd b4.1 (by omega : 0 ≤ D) b4.2 hD1
  have b6 := mul_bd (by omega : 0 ≤ n + 2) (by omega : 0 ≤ D - k) (by omega : n + 2 ≤ 4002) (by omega : D - k ≤ 1000)
  have e2 : w64 (n + 2) = n + 2 := w64_id (by omega) (by omega)
  have e6 : w64 (n - h) = n - h := w64_id (by omega) (by omega)
  have e7 : w64 (n - h + 1) = n - h + 1 := w64_id (by omega) (by omega)
  have e8 : w64 (c * (n - h + 1)) = c * (n - h + 1) := w64_id (by omega) (by omega)
  have e9 : w64 (c * (n - h + 1) * D) = c * (n - h + 1) * D := w64_id (by omega) (by omega)
  have e10 : w64 (D - k) = D - k := w64_id (by omega) (by omega)
  have e11 : w64 ((n + 2) * (D - k)) = (n + 2) * (D - k) := w64_id (by omega) (by omega)
  refine enter Try.func48 rfl Try.ntmps48 rfl ?_
  refine go T_ok 100 rfl ?_
  refine ld T_ok rfl rfl rfl rfl (betL_3 H) ?_
  refine go T_ok 100 rfl ?_
  refine cond rfl (fun h1 => ?_) (fun h1 => ?_)
  · refine go T_ok 100 rfl ?_
    refine ld T_ok rfl rfl rfl rfl (betL_4 H) ?_
    refine go T_ok 100 rfl ?_
    refine ret (ret1 (v := .int .i64 _) Try.results48 rfl ?_)
    have : k = 0 := beq_iff_eq.1 h1
    exact ⟨by rw [missC, if_pos this], Chg.refl _ _⟩
  · have h1 : ¬ k = 0 := beq_eq_false_iff_ne.1 h1
    refine go T_ok 100 rfl ?_
    refine ld T_ok rfl rfl rfl rfl (betL_0 H) ?_
    refine go T_ok 100 rfl ?_
    refine cond rfl (fun h2 => ?_) (fun h2 => ?_)
    · refine go T_ok 100 rfl ?_
      refine ret (ret1 (v := .int .i64 _) Try.results48 rfl ?_)
      exact ⟨by rw [missC, if_neg h1, if_pos (beq_iff_eq.1 h2)], Chg.refl _ _⟩
    · have h2 : ¬ k = D := beq_eq_false_iff_ne.1 h2
      refine go T_ok 100 rfl ?_
      refine draw mixed (fun w' => w' = w.drew) ((List.range 43).map fun i => (i, true)) rfl (by kernel_rfl) rfl ?_
      refine goH T_ok 100 rfl ?_
      refine quietH rfl (fun w' hS => r_load T_ok rfl rfl rfl (by rw [hS]; exact betL_4 H)) ?_
      refine goH T_ok 100 rfl ?_
      refine quietH rfl (fun w' hS => r_load T_ok rfl rfl rfl (by rw [hS]; exact betL_1 H)) ?_
      refine goH T_ok 100 rfl ?_
      refine quietH rfl (fun w' hS => r_load T_ok rfl rfl rfl (by rw [hS]; exact betL_2 H)) ?_
      refine goH T_ok 100 rfl ?_
      refine quietH rfl (fun w' hS => r_load T_ok rfl rfl rfl (by rw [hS]; exact betL_0 H)) ?_
      refine goH T_ok 100 rfl ?_
      refine quietH rfl (fun w' hS => r_load T_ok rfl rfl rfl (by rw [hS]; exact betL_1 H)) ?_
      refine goH T_ok 100 rfl ?_
      refine quietH rfl (fun w' hS => r_load T_ok rfl rfl rfl (by rw [hS]; exact betL_0 H)) ?_
      refine goH T_ok 100 rfl ?_
      refine quietH rfl (fun w' hS => r_load T_ok rfl rfl rfl (by rw [hS]; exact betL_3 H)) ?_
      refine goH T_ok 100 rfl ?_
      rw [e6, e7, e8, e9, e2, e10, e11]
      refine quietH rfl (fun w' hS => r_quoN rfl rfl rfl (by omega) (by omega) (Int.mul_pos (by omega) (by omega))) ?_
      refine goH T_ok 100 rfl ?_
      refine endH ?_
      refine go T_ok 100 rfl ?_
      refine ret (ret1 (v := .int .i64 _) Try.results48 rfl ?_)
      exact ⟨by rw [missC, if_neg h1, if_neg h2], Chg.drew _⟩

/-- the cells of a bet that lies in a row at o -/
def betAt (e : Nat → Value) (o : Nat) (D n h k c : Int) : Prop := e o = .int .i64 D ∧ e (o + 1) = .int .i64 n ∧ e (o + 2) = .int .i64 h ∧ e (o + 3) = .int .i64 k ∧ e (o + 4) = .int .i64 c
theorem betAt.cells {w : World} {g m : Nat} {t : TypeId} {e : Nat → Value} (R : w.rowIs g t m e) {o : Nat} {D n h k c : Int} (H : betAt e o D n h k c) (ho : o + 5 ≤ m) : cellsAt w g o (betL D n h k c) := by
  obtain ⟨h0, h1, h2, h3, h4⟩ := H
  intro j v hv
  match j, hv with
  | 0, hv => simp [betL] at hv; subst hv; rw [← h0]; exact R.cell (by omega)
  | 1, hv => simp [betL] at hv; subst hv; rw [← h1]; exact R.cell (by omega)
  | 2, hv => simp [betL] at hv; subst hv; rw [← h2]; exact R.cell (by omega)
  | 3, hv => simp [betL] at hv; subst hv; rw [← h3]; exact R.cell (by omega)
  | 4, hv => simp [betL] at hv; subst hv; rw [← h4]; exact R.cell (by omega)
  | j + 5, hv => simp [betL] at hv
theorem bnext_any (hit : Bool) (c n h D k : Int) (g o m : Nat) (t : TypeId) (e : Nat → Value) (w : World) (Rw : w.rowIs g t m e) (H : betAt e o D n h k c) (ho : o + 5 ≤ m) (hc0 : 0 ≤ c) (hc1 : c ≤ 1000000000000) (hn0 : 0 ≤ n) (hn1 : n < 4000) (hh0 : 0 ≤ h) (hh1 : h ≤ n)
    (hD0 : 2 ≤ D) (hD1 : D ≤ 1000) (hk0 : 0 ≤ k) (hk1 : k ≤ D) :
    Ret Try.prog 64 [.pointer (some ⟨g, o, none⟩), .bool hit] w fun v w' => v = .tuple #[] ∧ Chg (fun x => x = g) w w' ∧
      ∃ e', w'.rowIs g t m e' ∧ betAt e' o D (n + 1) (h + b2i hit) k (nextC c n h D k hit) ∧ ∀ j, j < o ∨ o + 5 ≤ j → e' j = e j := by
  have e1 : w64 (n + 1) = n + 1 := w64_id (by omega) (by omega)
  have e2 : w64 (h + 1) = h + 1 := w64_id (by omega) (by omega)
  have hcells := betAt.cells Rw H ho
  obtain ⟨a0, a1, a2, a3, a4⟩ := H
  refine enter Try.func64 rfl Try.ntmps64 rfl ?_
  refine go T_ok 100 rfl ?_
  refine cond rfl (fun hb => ?_) (fun hb => ?_)
  all_goals subst hb
  · refine go T_ok 100 rfl ?_
    refine call rfl rfl rfl (ok _ (by decide) rfl) (hit_any c n h D k g o w hcells hc0 hc1 hn0 (by omega) hh0 hh1 hD0 hD1 hk0 hk1) ?_
    rintro v w1 ⟨rfl, q1⟩
    refine go T_ok 100 rfl ?_
    refine stR (v := .int .i64 _) T_ok rfl rfl rfl rfl rfl rfl (rowIs_no Rw q1) (by omega) ?_
    intro w2 q2 R2 _
    refine go T_ok 100 rfl ?_
    refine ld T_ok rfl rfl rfl rfl ((R2.cell (i := o + 1) (by omega)).trans (by rw [if_neg (by omega), a1])) ?_
    refine go T_ok 100 rfl ?_
    rw [e1]
    refine stR (v := .int .i64 _) T_ok rfl rfl rfl rfl rfl rfl R2 (by omega) ?_
    intro w3 q3 R3 _
    refine go T_ok 100 rfl ?_
    refine condT rfl rfl ?_
    refine go T_ok 100 rfl ?_
    refine ld T_ok rfl rfl rfl rfl ((R3.cell (i := o + 2) (by omega)).trans (by rw [if_neg (by omega), if_neg (by omega), a2])) ?_
    refine go T_ok 100 rfl ?_
    rw [e2]
    refine stR (v := .int .i64 _) T_ok rfl rfl rfl rfl rfl rfl R3 (by omega) ?_
    intro w4 q4 R4 _
    refine go T_ok 100 rfl ?_
    refine fin (ret0 Try.results64 ⟨rfl, ((q1.mono fun _ _ h => h.elim).trans q2).trans (q3.trans q4), _, R4, ?_, ?_⟩)
    · refine ⟨?_, ?_, ?_, ?_, ?_⟩
      · simp [a0]
      · simp
      · simp [b2i]
      · simp [a3]
      · simp [nextC]
    · intro j hj
      show (if j = o + 2 then _ else if j = o + 1 then _ else if j = o + 4 then _ else e j) = e j
      rw [if_neg (by omega), if_neg (by omega), if_neg (by omega)]
  · refine go T_ok 100 rfl ?_
    refine call rfl rfl rfl (ok _ (by decide) rfl) (miss_any c n h D k g o w hcells hc0 hc1 hn0 (by omega) hh0 hh1 hD0 hD1 hk0 hk1) ?_
    rintro v w1 ⟨rfl, q1⟩
    refine go T_ok 100 rfl ?_
    refine stR (v := .int .i64 _) T_ok rfl rfl rfl rfl rfl rfl (rowIs_no Rw q1) (by omega) ?_
    intro w2 q2 R2 _
    refine go T_ok 100 rfl ?_
    refine ld T_ok rfl rfl rfl rfl ((R2.cell (i := o + 1) (by omega)).trans (by rw [if_neg (by omega), a1])) ?_
    refine go T_ok 100 rfl ?_
    rw [e1]
    refine stR (v := .int .i64 _) T_ok rfl rfl rfl rfl rfl rfl R2 (by omega) ?_
    intro w3 q3 R3 _
    refine go T_ok 100 rfl ?_
    refine condF rfl rfl ?_
    refine go T_ok 100 rfl ?_
    refine fin (ret0 Try.results64 ⟨rfl, ((q1.mono fun _ _ h => h.elim).trans q2).trans q3, _, R3, ?_, ?_⟩)
    · refine ⟨?_, ?_, ?_, ?_, ?_⟩
      · simp [a0]
      · simp
      · simp [b2i, a2]
      · simp [a3]
      · simp [nextC]
    · intro j hj
      show (if j = o + 1 then _ else if j = o + 4 then _ else e j) = e j
      rw [if_neg (by omega), if_neg (by omega)]

/-- is a bet as defined -/
def betOk (c n h D k : Int) : Bool := inB D 2 1000 && (inB n 0 4000 && (inB h 0 n && (inB c 0 1000000000000 && inB k 0 D)))
theorem Bet_any (c n h D k : Int) (w : World) :
    Ret Try.prog 15 [.int .i64 c, .int .i64 n, .int .i64 h, .int .i64 D, .int .i64 k] w fun v w' =>
      v = (if betOk c n h D k = true then .tuple #[.int .i64 (hitC c n h D k), .int .i64 (missC c n h D k), .int .i64 0] else .tuple #[.int .i64 0, .int .i64 0, .int .i64 2]) ∧ Chg No w w' := by
  refine enter Try.func15 rfl Try.ntmps15 rfl ?_
  refine go T_ok 100 rfl ?_
  refine call rfl rfl rfl (ok _ (by decide) rfl) (within_any _ _ _ _) ?_
  rintro v w ⟨rfl, rfl⟩
  refine go T_ok 100 rfl ?_
  refine guardN rfl rfl rfl (fun q1 => ?_) (fun q1 => ?_)
  · refine go T_ok 100 rfl ?_
    exact ret (ret3 (v := .int .i64 _) (x := .int .i64 _) (y := .int .i64 _) Try.results15 rfl rfl rfl ⟨by simp [betOk, q1], Chg.refl _ _⟩)
  refine go T_ok 100 rfl ?_
  refine call rfl rfl rfl (ok _ (by decide) rfl) (within_any _ _ _ _) ?_
  rintro v w ⟨rfl, rfl⟩
  refine go T_ok 100 rfl ?_
  refine guardN rfl rfl rfl (fun q2 => ?_) (fun q2 => ?_)
  · refine go T_ok 100 rfl ?_
    exact ret (ret3 (v := .int .i64 _) (x := .int .i64 _) (y := .int .i64 _) Try.results15 rfl rfl rfl ⟨by simp [betOk, q2], Chg.refl _ _⟩)
  refine go T_ok 100 rfl ?_
  refine call rfl rfl rfl (ok _ (by decide) rfl) (within_any _ _ _ _) ?_
  rintro v w ⟨rfl, rfl⟩
  refine go T_ok 100 rfl ?_
  refine guardN rfl rfl rfl (fun q3 => ?_) (fun q3 => ?_)
  · refine go T_ok 100 rfl ?_
    exact ret (ret3 (v := .int .i64 _) (x := .int .i64 _) (y := .int .i64 _) Try.results15 rfl rfl rfl ⟨by simp [betOk, q3], Chg.refl _ _⟩)
  refine go T_ok 100 rfl ?_
  refine call rfl rfl rfl (ok _ (by decide) rfl) (within_any _ _ _ _) ?_
  rintro v w ⟨rfl, rfl⟩
  refine go T_ok 100 rfl ?_
  refine guardN rfl rfl rfl (fun q4 => ?_) (fun q4 => ?_)
  · refine go T_ok 100 rfl ?_
    exact ret (ret3 (v := .int .i64 _) (x := .int .i64 _) (y := .int .i64 _) Try.results15 rfl rfl rfl ⟨by simp [betOk, q4], Chg.refl _ _⟩)
  refine go T_ok 100 rfl ?_
  refine call rfl rfl rfl (ok _ (by decide) rfl) (within_any _ _ _ _) ?_
  rintro v w ⟨rfl, rfl⟩
  refine go T_ok 100 rfl ?_
  refine cond rfl (fun q5 => ?_) (fun q5 => ?_)
  · have q5 : inB k 0 D = false := by simpa using q5
    refine go T_ok 100 rfl ?_
    exact ret (ret3 (v := .int .i64 _) (x := .int .i64 _) (y := .int .i64 _) Try.results15 rfl rfl rfl ⟨by simp [betOk, q5], Chg.refl _ _⟩)
  have q5 : inB k 0 D = true := by simpa using q5
  have hok : betOk c n h D k = true := by simp [betOk, q1, q2, q3, q4, q5]
  obtain ⟨hD0, hD1⟩ := (inB_iff _ _ _).1 q1
  obtain ⟨hn0, hn1⟩ := (inB_iff _ _ _).1 q2
  obtain ⟨hh0, hh1⟩ := (inB_iff _ _ _).1 q3
  obtain ⟨hc0, hc1⟩ := (inB_iff _ _ _).1 q4
  obtain ⟨hk0, hk1⟩ := (inB_iff _ _ _).1 q5
  rw [if_pos hok]
  clear hok q1 q2 q3 q4 q5
  refine go T_ok 100 rfl ?_
  refine nw rfl rfl (z := .agg #[.int .i64 0, .int .i64 0, .int .i64 0, .int .i64 0, .int .i64 0]) (by kernel_rfl) (cs := [.int .i64 0, .int .i64 0, .int .i64 0, .int .i64 0, .int .i64 0]) rfl ?_
  intro g w1 hg hg1 q1 b1
  refine go T_ok 100 rfl ?_
  refine stA (vs := betL D n h k c) T_ok rfl rfl rfl rfl rfl rfl rfl b1 rfl ?_
  intro w2 q2 b2 _
  have hc : cellsAt w2 g 0 (betL D n h k c) := b2.all
  refine go T_ok 100 rfl ?_
  refine call rfl rfl rfl (ok _ (by decide) rfl) (hit_any c n h D k g 0 w2 hc hc0 hc1 hn0 hn1 hh0 hh1 hD0 hD1 hk0 hk1) ?_
  rintro v w3 ⟨rfl, q3⟩
  refine go T_ok 100 rfl ?_
  refine call rfl rfl rfl (ok _ (by decide) rfl) (miss_any c n h D k g 0 w3 (hc.keep b2.lt q3 fun h => h) hc0 hc1 hn0 hn1 hh0 hh1 hD0 hD1 hk0 hk1) ?_
  rintro v w4 ⟨rfl, q4⟩
  refine go T_ok 100 rfl ?_
  refine ret (ret3 (v := .int .i64 _) (x := .int .i64 _) (y := .int .i64 _) Try.results15 rfl rfl rfl ⟨rfl, ?_⟩)
  exact ((q1.step q2 fun k hk e => by omega).no q3).no q4

/-! ### Levels, and what listed checks -/
theorem leveled_any (x : Int) (w : World) : Ret Try.prog 53 [.int .i64 x] w fun v w' => v = .bool (inB x 2 900000) ∧ w = w' := by
  refine enter Try.func53 rfl Try.ntmps53 rfl ?_
  refine go T_ok 100 rfl ?_
  refine call rfl rfl rfl (ok _ (by decide) rfl) (within_any _ _ _ _) ?_
  rintro v w ⟨rfl, rfl⟩
  refine go T_ok 100 rfl ?_
  exact ret (ret1 (v := .bool _) Try.results53 rfl ⟨rfl, rfl⟩)
/-- the error of a list of n slots with D parts, fine being b -/
def listedE (n : Nat) (D : Int) (b : Bool) : Int := if inB D 2 1000 = false then 2 else if 4000 < (n : Int) then 3 else if b then 0 else 2
theorem listed_any (A : Option Addr) (n c : Nat) (D : Int) (f : Nat) (cap : List Value) (hf : callable Try.prog f = true) (b : Bool) (w : World)
    (hcall : Ret Try.prog f cap w fun v w' => v = .bool b ∧ w = w') :
    Ret Try.prog 51 [.slice A n c, .int .i64 D, .func (.func f) #[] cap.toArray] w fun v w' => v = .int .i64 (listedE n D b) ∧ w = w' := by
  refine enter Try.func51 rfl Try.ntmps51 rfl ?_
  refine go T_ok 100 rfl ?_
  refine call rfl rfl rfl (ok _ (by decide) rfl) (within_any _ _ _ _) ?_
  rintro v w ⟨rfl, rfl⟩
  refine go T_ok 100 rfl ?_
  refine cond rfl (fun q1 => ?_) (fun q1 => ?_)
  · have q1 : inB D 2 1000 = false := by simpa using q1
    refine go T_ok 100 rfl ?_
    exact ret (ret1 (v := .int .i64 _) Try.results51 rfl ⟨by rw [listedE, if_pos q1], rfl⟩)
  · have q1 : ¬ inB D 2 1000 = false := by simpa using q1
    refine go T_ok 100 rfl ?_
    refine condD rfl (fun q2 => ?_) (fun q2 => ?_)
    · refine go T_ok 100 rfl ?_
      exact ret (ret1 (v := .int .i64 _) Try.results51 rfl ⟨by rw [listedE, if_neg q1, if_pos q2], rfl⟩)
    · refine go T_ok 100 rfl ?_
      refine call rfl rfl rfl hf hcall ?_
      rintro v w ⟨rfl, rfl⟩
      refine go T_ok 100 rfl ?_
      refine cond rfl (fun q3 => ?_) (fun q3 => ?_)
      · have q3 : b = false := by simpa using q3
        refine go T_ok 100 rfl ?_
        exact ret (ret1 (v := .int .i64 _) Try.results51 rfl ⟨by rw [listedE, if_neg q1, if_neg q2, q3]; rfl, rfl⟩)
      · have q3 : b = true := by simpa using q3
        refine go T_ok 100 rfl ?_
        exact ret (ret1 (v := .int .i64 _) Try.results51 rfl ⟨by rw [listedE, if_neg q1, if_neg q2, q3]; rfl, rfl⟩)
/-! closures: f: Kept's and Set's -/
theorem lev52 (x : Int) (g : Nat) (w : World) (h : Bk w g 3 [.int .i64 x]) : Ret Try.prog 52 [.pointer (some ⟨g, 0, none⟩)] w fun v w' => v = .bool (inB x 2 900000) ∧ w = w' := by
  refine enter Try.func52 rfl Try.ntmps52 rfl ?_
  refine go T_ok 100 rfl ?_
  refine ld T_ok rfl rfl rfl rfl (h.get rfl) ?_
  refine go T_ok 100 rfl ?_
  refine call rfl rfl rfl (ok _ (by decide) rfl) (leveled_any _ _) ?_
  rintro v w ⟨rfl, rfl⟩
  refine go T_ok 100 rfl ?_
  exact ret (ret1 (v := .bool _) Try.results52 rfl ⟨rfl, rfl⟩)
theorem lev66 (x : Int) (g : Nat) (w : World) (h : Bk w g 3 [.int .i64 x]) : Ret Try.prog 66 [.pointer (some ⟨g, 0, none⟩)] w fun v w' => v = .bool (inB x 2 900000) ∧ w = w' := by
  refine enter Try.func66 rfl Try.ntmps66 rfl ?_
  refine go T_ok 100 rfl ?_
  refine ld T_ok rfl rfl rfl rfl (h.get rfl) ?_
  refine go T_ok 100 rfl ?_
  refine call rfl rfl rfl (ok _ (by decide) rfl) (leveled_any _ _) ?_
  rintro v w ⟨rfl, rfl⟩
  refine go T_ok 100 rfl ?_
  exact ret (ret1 (v := .bool _) Try.results66 rfl ⟨rfl, rfl⟩)
theorem lev72 (x : Int) (g : Nat) (w : World) (h : Bk w g 3 [.int .i64 x]) : Ret Try.prog 72 [.pointer (some ⟨g, 0, none⟩)] w fun v w' => v = .bool (inB x 2 100) ∧ w = w' := by
  refine enter Try.func72 rfl Try.ntmps72 rfl ?_
  refine go T_ok 100 rfl ?_
  refine ld T_ok rfl rfl rfl rfl (h.get rfl) ?_
  refine go T_ok 100 rfl ?_
  refine call rfl rfl rfl (ok _ (by decide) rfl) (within_any _ _ _ _) ?_
  rintro v w ⟨rfl, rfl⟩
  refine go T_ok 100 rfl ?_
  exact ret (ret1 (v := .bool _) Try.results72 rfl ⟨rfl, rfl⟩)
theorem lev76 (x : Int) (g : Nat) (w : World) (h : Bk w g 3 [.int .i64 x]) : Ret Try.prog 76 [.pointer (some ⟨g, 0, none⟩)] w fun v w' => v = .bool (inB x 2 450000) ∧ w = w' := by
  refine enter Try.func76 rfl Try.ntmps76 rfl ?_
  refine go T_ok 100 rfl ?_
  refine ld T_ok rfl rfl rfl rfl (h.get rfl) ?_
  refine go T_ok 100 rfl ?_
  refine call rfl rfl rfl (ok _ (by decide) rfl) (within_any _ _ _ _) ?_
  rintro v w ⟨rfl, rfl⟩
  refine go T_ok 100 rfl ?_
  exact ret (ret1 (v := .bool _) Try.results76 rfl ⟨rfl, rfl⟩)
theorem lev75 (w : World) : Ret Try.prog 75 [] w fun v w' => v = .bool true ∧ w = w' := by
  refine enter Try.func75 rfl Try.ntmps75 rfl ?_
  refine go T_ok 100 rfl ?_
  exact ret (ret1 (v := .bool _) Try.results75 rfl ⟨rfl, rfl⟩)
theorem lev63 (x D : Int) (g g2 : Nat) (w : World) (h : Bk w g 3 [.int .i64 x]) (h2 : Bk w g2 3 [.int .i64 D]) : Ret Try.prog 63 [.pointer (some ⟨g, 0, none⟩), .pointer (some ⟨g2, 0, none⟩)] w fun v w' => v = .bool (inB x 0 D) ∧ w = w' := by
  refine enter Try.func63 rfl Try.ntmps63 rfl ?_
  refine go T_ok 100 rfl ?_
  refine ld T_ok rfl rfl rfl rfl (h.get rfl) ?_
  refine go T_ok 100 rfl ?_
  refine ld T_ok rfl rfl rfl rfl (h2.get rfl) ?_
  refine go T_ok 100 rfl ?_
  refine call rfl rfl rfl (ok _ (by decide) rfl) (within_any _ _ _ _) ?_
  rintro v w ⟨rfl, rfl⟩
  refine go T_ok 100 rfl ?_
  exact ret (ret1 (v := .bool _) Try.results63 rfl ⟨rfl, rfl⟩)
theorem lev65 (lv x D : Int) (g g2 g3 : Nat) (w : World) (h : Bk w g 3 [.int .i64 lv]) (h2 : Bk w g2 3 [.int .i64 x]) (h3 : Bk w g3 3 [.int .i64 D]) :
    Ret Try.prog 65 [.pointer (some ⟨g, 0, none⟩), .pointer (some ⟨g2, 0, none⟩), .pointer (some ⟨g3, 0, none⟩)] w fun v w' => v = .bool (inB lv 2 900000 && inB x 0 D) ∧ w = w' := by
  refine enter Try.func65 rfl Try.ntmps65 rfl ?_
  refine go T_ok 100 rfl ?_
  refine ld T_ok rfl rfl rfl rfl (h.get rfl) ?_
  refine go T_ok 100 rfl ?_
  refine call rfl rfl rfl (ok _ (by decide) rfl) (leveled_any _ _) ?_
  rintro v w ⟨rfl, rfl⟩
  refine go T_ok 100 rfl ?_
  refine guard rfl rfl rfl (fun q => ?_) (fun q => ?_)
  · refine go T_ok 100 rfl ?_
    refine ld T_ok rfl rfl rfl rfl (h2.get rfl) ?_
    refine go T_ok 100 rfl ?_
    refine ld T_ok rfl rfl rfl rfl (h3.get rfl) ?_
    refine go T_ok 100 rfl ?_
    refine call rfl rfl rfl (ok _ (by decide) rfl) (within_any _ _ _ _) ?_
    rintro v w ⟨rfl, rfl⟩
    refine go T_ok 100 rfl ?_
    exact ret (ret1 (v := .bool _) Try.results65 rfl ⟨by rw [q, Bool.true_and], rfl⟩)
  · refine go T_ok 100 rfl ?_
    exact ret (ret1 (v := .bool _) Try.results65 rfl ⟨by rw [q, Bool.false_and], rfl⟩)
theorem lev69 (lv x D : Int) (g g2 g3 : Nat) (w : World) (h : Bk w g 3 [.int .i64 lv]) (h2 : Bk w g2 3 [.int .i64 x]) (h3 : Bk w g3 3 [.int .i64 D]) :
    Ret Try.prog 69 [.pointer (some ⟨g, 0, none⟩), .pointer (some ⟨g2, 0, none⟩), .pointer (some ⟨g3, 0, none⟩)] w fun v w' => v = .bool (inB lv 2 900000 && inB x 0 D) ∧ w = w' := by
  refine enter Try.func69 rfl Try.ntmps69 rfl ?_
  refine go T_ok 100 rfl ?_
  refine ld T_ok rfl rfl rfl rfl (h.get rfl) ?_
  refine go T_ok 100 rfl ?_
  refine call rfl rfl rfl (ok _ (by decide) rfl) (leveled_any _ _) ?_
  rintro v w ⟨rfl, rfl⟩
  refine go T_ok 100 rfl ?_
  refine guard rfl rfl rfl (fun q => ?_) (fun q => ?_)
  · refine go T_ok 100 rfl ?_
    refine ld T_ok rfl rfl rfl rfl (h2.get rfl) ?_
    refine go T_ok 100 rfl ?_
    refine ld T_ok rfl rfl rfl rfl (h3.get rfl) ?_
    refine go T_ok 100 rfl ?_
    refine call rfl rfl rfl (ok _ (by decide) rfl) (within_any _ _ _ _) ?_
    rintro v w ⟨rfl, rfl⟩
    refine go T_ok 100 rfl ?_
    exact ret (ret1 (v := .bool _) Try.results69 rfl ⟨by rw [q, Bool.true_and], rfl⟩)
  · refine go T_ok 100 rfl ?_
    exact ret (ret1 (v := .bool _) Try.results69 rfl ⟨by rw [q, Bool.false_and], rfl⟩)
/-- the check of Decide's -/
def decB (lv lo hi D : Int) : Bool := inB lv 2 900000 && (inB lo 0 (hi - 1) && decide (hi ≤ D))
theorem lev57 (lv lo hi D : Int) (g g2 g3 g4 : Nat) (w : World) (h : Bk w g 3 [.int .i64 lv]) (h2 : Bk w g2 3 [.int .i64 lo]) (h3 : Bk w g3 3 [.int .i64 hi]) (h4 : Bk w g4 3 [.int .i64 D]) (hb : -9223372036854775808 < hi ∧ hi ≤ 9223372036854775807) :
    Ret Try.prog 57 [.pointer (some ⟨g, 0, none⟩), .pointer (some ⟨g2, 0, none⟩), .pointer (some ⟨g3, 0, none⟩), .pointer (some ⟨g4, 0, none⟩)] w fun v w' => v = .bool (decB lv lo hi D) ∧ w = w' := by
  have e1 : w64 (hi - 1) = hi - 1 := w64_id (by omega) (by omega)
  refine enter Try.func57 rfl Try.ntmps57 rfl ?_
  refine go T_ok 100 rfl ?_
  refine ld T_ok rfl rfl rfl rfl (h.get rfl) ?_
  refine go T_ok 100 rfl ?_
  refine call rfl rfl rfl (ok _ (by decide) rfl) (leveled_any _ _) ?_
  rintro v w ⟨rfl, rfl⟩
  refine go T_ok 100 rfl ?_
  refine guard rfl rfl rfl (fun q => ?_) (fun q => ?_)
  · refine go T_ok 100 rfl ?_
    refine ld T_ok rfl rfl rfl rfl (h2.get rfl) ?_
    refine go T_ok 100 rfl ?_
    refine ld T_ok rfl rfl rfl rfl (h3.get rfl) ?_
    refine go T_ok 100 rfl ?_
    rw [e1]
    refine call rfl rfl rfl (ok _ (by decide) rfl) (within_any _ _ _ _) ?_
    rintro v w ⟨rfl, rfl⟩
    refine go T_ok 100 rfl ?_
    refine guard rfl rfl rfl (fun q2 => ?_) (fun q2 => ?_)
    · refine go T_ok 100 rfl ?_
      refine ld T_ok rfl rfl rfl rfl (h3.get rfl) ?_
      refine go T_ok 100 rfl ?_
      refine ld T_ok rfl rfl rfl rfl (h4.get rfl) ?_
      refine go T_ok 100 rfl ?_
      exact ret (ret1 (v := .bool _) Try.results57 rfl ⟨by rw [decB, q, q2, Bool.true_and, Bool.true_and], rfl⟩)
    · refine go T_ok 100 rfl ?_
      exact ret (ret1 (v := .bool _) Try.results57 rfl ⟨by rw [decB, q, q2, Bool.true_and, Bool.false_and], rfl⟩)
  · refine go T_ok 100 rfl ?_
    exact ret (ret1 (v := .bool _) Try.results57 rfl ⟨by rw [decB, q, Bool.false_and], rfl⟩)
end Go.Proofs.Ytocolpbakaibnaa
