/- The walk of CountStops. -/
import Derived.Test.YtocolpbakaibnaaP4
import Derived.Test.YtocolpbakaibnaaE1
namespace Go.Proofs.Ytocolpbakaibnaa
open Go.Ev Go.Proofs Go.Cnt
attribute [local irreducible] At AtH

set_option maxRecDepth 20000 in
set_option maxHeartbeats 4000000 in
theorem walk_CountStops (xs : List Bool) (A : Option Addr) (c : Nat) (D lv wd : Int) (w : World) (hL : xs.length ≤ c) (hSl : Sl w w.heap.size 1 A xs.length (boolVs xs)) (_hD : -9223372036854775808 ≤ D ∧ D ≤ 9223372036854775807) (_hlv : -9223372036854775808 ≤ lv ∧ lv ≤ 9223372036854775807) (_hwd : -9223372036854775808 ≤ wd ∧ wd ≤ 9223372036854775807) :
    Ret Try.prog 11 [.slice A xs.length c, .int .i64 D, .int .i64 lv, .int .i64 wd] w fun v w' => v = .bool true ∧ Chg No w w' := by
  refine enter Try.func11 rfl Try.ntmps11 rfl ?_
  refine go T2_ok 200 rfl ?_
  refine guardD rfl rfl rfl (fun p => ?_) (fun hn => ?_)
  · refine go T2_ok 200 rfl ?_
    repeat (first | (refine guardA (b := true) rfl rfl rfl rfl (fun _ => ?_) (fun e => by cases e); refine go T2_ok 200 rfl ?_) | (refine guardA (b := false) rfl rfl rfl rfl (fun e => by cases e) (fun _ => ?_); refine go T2_ok 200 rfl ?_) | (refine condT rfl rfl ?_; refine go T2_ok 200 rfl ?_) | (refine condF rfl rfl ?_; refine go T2_ok 200 rfl ?_))
    refine call rfl rfl rfl (ok _ (by decide) rfl) (known_any _) ?_
    rintro v wk ⟨rfl, qk⟩
    refine go T2_ok 200 rfl ?_
    exact ret (ret1 (v := .bool true) Try.results11 rfl ⟨rfl, qk⟩)
  refine go T2_ok 200 rfl ?_
  refine guardD rfl rfl rfl (fun p => ?_) (fun hd0 => ?_)
  · refine go T2_ok 200 rfl ?_
    repeat (first | (refine guardA (b := true) rfl rfl rfl rfl (fun _ => ?_) (fun e => by cases e); refine go T2_ok 200 rfl ?_) | (refine guardA (b := false) rfl rfl rfl rfl (fun e => by cases e) (fun _ => ?_); refine go T2_ok 200 rfl ?_) | (refine condT rfl rfl ?_; refine go T2_ok 200 rfl ?_) | (refine condF rfl rfl ?_; refine go T2_ok 200 rfl ?_))
    refine call rfl rfl rfl (ok _ (by decide) rfl) (known_any _) ?_
    rintro v wk ⟨rfl, qk⟩
    refine go T2_ok 200 rfl ?_
    exact ret (ret1 (v := .bool true) Try.results11 rfl ⟨rfl, qk⟩)
  refine go T2_ok 200 rfl ?_
  refine guardD rfl rfl rfl (fun p => ?_) (fun hd1 => ?_)
  · refine go T2_ok 200 rfl ?_
    repeat (first | (refine guardA (b := true) rfl rfl rfl rfl (fun _ => ?_) (fun e => by cases e); refine go T2_ok 200 rfl ?_) | (refine guardA (b := false) rfl rfl rfl rfl (fun e => by cases e) (fun _ => ?_); refine go T2_ok 200 rfl ?_) | (refine condT rfl rfl ?_; refine go T2_ok 200 rfl ?_) | (refine condF rfl rfl ?_; refine go T2_ok 200 rfl ?_))
    refine call rfl rfl rfl (ok _ (by decide) rfl) (known_any _) ?_
    rintro v wk ⟨rfl, qk⟩
    refine go T2_ok 200 rfl ?_
    exact ret (ret1 (v := .bool true) Try.results11 rfl ⟨rfl, qk⟩)
  refine go T2_ok 200 rfl ?_
  refine call rfl rfl rfl (ok _ (by decide) rfl) (level_any lv 900000 w) ?_
  rintro v w0 ⟨rfl, rfl⟩
  refine go T2_ok 200 rfl ?_
  refine guardN rfl rfl rfl (fun p => ?_) (fun hl => ?_)
  · refine go T2_ok 200 rfl ?_
    repeat (first | (refine guardA (b := true) rfl rfl rfl rfl (fun _ => ?_) (fun e => by cases e); refine go T2_ok 200 rfl ?_) | (refine guardA (b := false) rfl rfl rfl rfl (fun e => by cases e) (fun _ => ?_); refine go T2_ok 200 rfl ?_) | (refine condT rfl rfl ?_; refine go T2_ok 200 rfl ?_) | (refine condF rfl rfl ?_; refine go T2_ok 200 rfl ?_))
    refine call rfl rfl rfl (ok _ (by decide) rfl) (known_any _) ?_
    rintro v wk ⟨rfl, qk⟩
    refine go T2_ok 200 rfl ?_
    exact ret (ret1 (v := .bool true) Try.results11 rfl ⟨rfl, qk⟩)
  refine go T2_ok 200 rfl ?_
  refine guardD rfl rfl rfl (fun p => ?_) (fun hw0 => ?_)
  · refine go T2_ok 200 rfl ?_
    repeat (first | (refine guardA (b := true) rfl rfl rfl rfl (fun _ => ?_) (fun e => by cases e); refine go T2_ok 200 rfl ?_) | (refine guardA (b := false) rfl rfl rfl rfl (fun e => by cases e) (fun _ => ?_); refine go T2_ok 200 rfl ?_) | (refine condT rfl rfl ?_; refine go T2_ok 200 rfl ?_) | (refine condF rfl rfl ?_; refine go T2_ok 200 rfl ?_))
    refine call rfl rfl rfl (ok _ (by decide) rfl) (known_any _) ?_
    rintro v wk ⟨rfl, qk⟩
    refine go T2_ok 200 rfl ?_
    exact ret (ret1 (v := .bool true) Try.results11 rfl ⟨rfl, qk⟩)
  refine go T2_ok 200 rfl ?_
  refine condD rfl (fun p => ?_) (fun hw1 => ?_)
  · refine go T2_ok 200 rfl ?_
    refine call rfl rfl rfl (ok _ (by decide) rfl) (known_any _) ?_
    rintro v wk ⟨rfl, qk⟩
    refine go T2_ok 200 rfl ?_
    exact ret (ret1 (v := .bool true) Try.results11 rfl ⟨rfl, qk⟩)
  obtain ⟨d, rfl⟩ : ∃ d : Nat, D = d := ⟨D.toNat, by omega⟩
  have hlb := (inB_iff _ _ _).1 hl
  have hwr : wrongE xs.length d = 0 := wrong_small (by omega) (by omega) (by omega)
  have hE : exclE xs.length d lv wd = 0 := by unfold exclE; rw [listed_wrong, hwr, hl, (inB_iff wd 0 d).2 (by omega)]; rfl
  refine go T2_ok 200 rfl ?_
  refine call rfl rfl rfl (ok _ (by decide) rfl) (Stop_any xs d lv wd A c _ w hSl) ?_
  rintro v w1 ⟨q1, rfl⟩
  rw [hE, if_pos rfl, if_pos rfl, Int.toNat_natCast]
  have near : ∀ k : Nat, nearB (sts d lv (xs.take k)) d wd = ((keptL d lv (xs.take k)).isEmpty || decide (((hullL (keptL d lv (xs.take k))).2 : Int) - (hullL (keptL d lv (xs.take k))).1 ≤ wd)) := fun k => rfl
  have take : ∀ (k : Nat) (w' : World), k ≤ xs.length → Chg No w w' → Sl w' w.heap.size 1 A (xs.take k).length (boolVs (xs.take k)) := fun k w' hk q => by
    have := (hSl.no q).take k hk
    rw [List.length_take, Nat.min_eq_left hk]
    rwa [Nat.mul_one, boolVs, ← List.map_take] at this
  have lenE : ∀ k : Nat, k ≤ xs.length → listedE (xs.take k).length d (inB lv 2 900000) = 0 := fun k hk => by rw [listed_wrong, hl, wrong_small (by omega) (by omega) (by rw [List.length_take]; omega)]; rfl
  cases hs : stopN d lv wd xs with
  | some m =>
    obtain ⟨_, hm1, hm2, hm3⟩ := firstN_some _ _ hs
    simp only [near] at hm2 hm3
    have hm1 : m ≤ xs.length := by omega
    refine go T2_ok 200 rfl ?_
    refine guard (b := false) rfl rfl rfl (fun e => by cases e) (fun _ => ?_)
    refine go T2_ok 200 rfl ?_
    refine guardD rfl rfl rfl (fun p => absurd p (by show ¬ ((m : Int) < 0); omega)) (fun _ => ?_)
    refine go T2_ok 200 rfl ?_
    refine condD rfl (fun p => absurd p (by show ¬ ((xs.length : Int) < (m : Int)); omega)) (fun _ => ?_)
    refine go T2_ok 200 rfl ?_
    refine loop [0, 1, 2, 3, 9, 10, 11] (fun k : Nat => [.slice A xs.length c, .int .i64 d, .int .i64 lv, .int .i64 wd, .int .i64 m, .int .i64 0, .int .i64 (k : Int)])
      (fun k w' => Chg No w w' ∧ k ≤ m) (fun k => m - k) 0 (fun _ => rfl) rfl ⟨q1, by omega⟩ ?_
    rintro k τ w2 ⟨q2, hk⟩
    refine go T2_ok 200 rfl ?_
    refine condD rfl (fun hlt => ?_) (fun hlt => absurd (show (k : Int) ≤ xs.length by omega) hlt)
    have hk1 : k ≤ xs.length := by omega
    have ek : w64 ((k : Int) + 1) = ((k + 1 : Nat) : Int) := w64_id (by omega) (by omega)
    refine go T2_ok 200 rfl ?_
    refine slcHi T2_ok rfl rfl rfl rfl rfl k rfl (by omega) ?_
    refine go T2_ok 200 rfl ?_
    have K := Set_any (xs.take k) d lv A c _ w2 (take k w2 hk1 q2)
    rw [lenE k hk1, if_pos rfl, if_pos rfl, Int.toNat_natCast, List.length_take, Nat.min_eq_left hk1] at K
    refine call rfl rfl rfl (ok _ (by decide) rfl) (K) ?_
    rintro v w3 ⟨q3, rfl⟩
    refine go T2_ok 200 rfl ?_
    refine nw rfl rfl (z := .agg #[.int .i64 0, .int .i64 0]) (by kernel_rfl) (cs := [.int .i64 0, .int .i64 0]) rfl ?_
    intro g4 w4 hg4 hs4 q4 B4
    refine go T2_ok 200 rfl ?_
    refine stA (vs := [.int .i64 _, .int .i64 _]) T2_ok rfl rfl rfl rfl rfl rfl rfl B4 rfl ?_
    intro w5 q5' B5 hs5
    have z2 := q2.size
    have z3 := q3.size
    have q5 : Chg No w w5 := ((q2.trans q3).trans q4).step q5' (fun x hx e => by omega)
    have hbd := hull_bd (p := kp (sts d lv (xs.take k))) (n := d + 1)
    have hbd : (hullL (keptL d lv (xs.take k))).1 ≤ d + 1 ∧ (hullL (keptL d lv (xs.take k))).2 ≤ d + 1 := hbd
    by_cases hkm : k = m
    · subst hkm
      cases he : (keptL d lv (xs.take k)).isEmpty with
      | true =>
        rw [if_pos rfl]
        refine go T2_ok 200 rfl ?_
        repeat (first | (refine guardA (b := true) rfl rfl rfl rfl (fun _ => ?_) (fun e => by cases e); refine go T2_ok 200 rfl ?_) | (refine guardA (b := false) rfl rfl rfl rfl (fun e => by cases e) (fun _ => ?_); refine go T2_ok 200 rfl ?_) | (refine condT rfl rfl ?_; refine go T2_ok 200 rfl ?_) | (refine condF rfl rfl ?_; refine go T2_ok 200 rfl ?_))
        refine condT rfl (by simp) ?_
        refine go T2_ok 200 rfl ?_
        refine go T2_ok 200 rfl ?_
        repeat (first | (refine guardA (b := true) rfl rfl rfl rfl (fun _ => ?_) (fun e => by cases e); refine go T2_ok 200 rfl ?_) | (refine guardA (b := false) rfl rfl rfl rfl (fun e => by cases e) (fun _ => ?_); refine go T2_ok 200 rfl ?_) | (refine condT rfl rfl ?_; refine go T2_ok 200 rfl ?_) | (refine condF rfl rfl ?_; refine go T2_ok 200 rfl ?_))
        refine call rfl rfl rfl (ok _ (by decide) rfl) (known_any _) ?_
        rintro v wk ⟨rfl, qk⟩
        refine go T2_ok 200 rfl ?_
        exact ret (ret1 (v := .bool true) Try.results11 rfl ⟨rfl, (q5).trans qk⟩)
      | false =>
        rw [he, Bool.false_or] at hm2
        rw [if_neg (by simp)]
        refine go T2_ok 200 rfl ?_
        repeat (first | (refine guardA (b := true) rfl rfl rfl rfl (fun _ => ?_) (fun e => by cases e); refine go T2_ok 200 rfl ?_) | (refine guardA (b := false) rfl rfl rfl rfl (fun e => by cases e) (fun _ => ?_); refine go T2_ok 200 rfl ?_) | (refine condT rfl rfl ?_; refine go T2_ok 200 rfl ?_) | (refine condF rfl rfl ?_; refine go T2_ok 200 rfl ?_))
        refine ld T2_ok rfl rfl rfl rfl (B5.get (i := 1) rfl) ?_
        refine go T2_ok 200 rfl ?_
        refine ld T2_ok rfl rfl rfl rfl (B5.get (i := 0) rfl) ?_
        refine go T2_ok 200 rfl ?_
        have ew : w64 (((hullL (keptL d lv (xs.take k))).2 : Int) - (hullL (keptL d lv (xs.take k))).1) = ((hullL (keptL d lv (xs.take k))).2 : Int) - (hullL (keptL d lv (xs.take k))).1 := w64_id (by omega) (by omega)
        rw [ew, hm2]
        refine go T2_ok 200 rfl ?_
        repeat (first | (refine guardA (b := true) rfl rfl rfl rfl (fun _ => ?_) (fun e => by cases e); refine go T2_ok 200 rfl ?_) | (refine guardA (b := false) rfl rfl rfl rfl (fun e => by cases e) (fun _ => ?_); refine go T2_ok 200 rfl ?_) | (refine condT rfl rfl ?_; refine go T2_ok 200 rfl ?_) | (refine condF rfl rfl ?_; refine go T2_ok 200 rfl ?_))
        refine condT rfl (by simp) ?_
        refine go T2_ok 200 rfl ?_
        refine go T2_ok 200 rfl ?_
        repeat (first | (refine guardA (b := true) rfl rfl rfl rfl (fun _ => ?_) (fun e => by cases e); refine go T2_ok 200 rfl ?_) | (refine guardA (b := false) rfl rfl rfl rfl (fun e => by cases e) (fun _ => ?_); refine go T2_ok 200 rfl ?_) | (refine condT rfl rfl ?_; refine go T2_ok 200 rfl ?_) | (refine condF rfl rfl ?_; refine go T2_ok 200 rfl ?_))
        refine call rfl rfl rfl (ok _ (by decide) rfl) (known_any _) ?_
        rintro v wk ⟨rfl, qk⟩
        refine go T2_ok 200 rfl ?_
        exact ret (ret1 (v := .bool true) Try.results11 rfl ⟨rfl, (q5).trans qk⟩)
    · have hk3 := hm3 k (by omega) (by omega)
      cases he : (keptL d lv (xs.take k)).isEmpty with
      | true => rw [he] at hk3; cases hk3
      | false =>
        rw [he, Bool.false_or] at hk3
        rw [if_neg (by simp)]
        refine go T2_ok 200 rfl ?_
        repeat (first | (refine guardA (b := true) rfl rfl rfl rfl (fun _ => ?_) (fun e => by cases e); refine go T2_ok 200 rfl ?_) | (refine guardA (b := false) rfl rfl rfl rfl (fun e => by cases e) (fun _ => ?_); refine go T2_ok 200 rfl ?_) | (refine condT rfl rfl ?_; refine go T2_ok 200 rfl ?_) | (refine condF rfl rfl ?_; refine go T2_ok 200 rfl ?_))
        refine ld T2_ok rfl rfl rfl rfl (B5.get (i := 1) rfl) ?_
        refine go T2_ok 200 rfl ?_
        refine ld T2_ok rfl rfl rfl rfl (B5.get (i := 0) rfl) ?_
        refine go T2_ok 200 rfl ?_
        have ew : w64 (((hullL (keptL d lv (xs.take k))).2 : Int) - (hullL (keptL d lv (xs.take k))).1) = ((hullL (keptL d lv (xs.take k))).2 : Int) - (hullL (keptL d lv (xs.take k))).1 := w64_id (by omega) (by omega)
        rw [ew, hk3]
        refine guard (b := true) rfl rfl rfl (fun _ => ?_) (fun e => by cases e)
        refine go T2_ok 200 rfl ?_
        refine condF rfl (by simp; omega) ?_
        refine go T2_ok 200 rfl ?_
        repeat (first | (refine guardA (b := true) rfl rfl rfl rfl (fun _ => ?_) (fun e => by cases e); refine go T2_ok 200 rfl ?_) | (refine guardA (b := false) rfl rfl rfl rfl (fun e => by cases e) (fun _ => ?_); refine go T2_ok 200 rfl ?_) | (refine condT rfl rfl ?_; refine go T2_ok 200 rfl ?_) | (refine condF rfl rfl ?_; refine go T2_ok 200 rfl ?_))
        rw [ek]
        exact round ⟨k + 1, rfl, ⟨q5, by omega⟩, by omega⟩
  | none =>
    have hm3 := firstN_none _ _ hs
    simp only [near] at hm3
    refine go T2_ok 200 rfl ?_
    repeat (first | (refine guardA (b := true) rfl rfl rfl rfl (fun _ => ?_) (fun e => by cases e); refine go T2_ok 200 rfl ?_) | (refine guardA (b := false) rfl rfl rfl rfl (fun e => by cases e) (fun _ => ?_); refine go T2_ok 200 rfl ?_) | (refine condT rfl rfl ?_; refine go T2_ok 200 rfl ?_) | (refine condF rfl rfl ?_; refine go T2_ok 200 rfl ?_))
    refine loop [0, 1, 2, 3, 9, 10, 11] (fun k : Nat => [.slice A xs.length c, .int .i64 d, .int .i64 lv, .int .i64 wd, .int .i64 0, .int .i64 5, .int .i64 (k : Int)])
      (fun k w' => Chg No w w' ∧ k ≤ xs.length + 1) (fun k => xs.length + 1 - k) 0 (fun _ => rfl) rfl ⟨q1, by omega⟩ ?_
    rintro k τ w2 ⟨q2, hk⟩
    refine go T2_ok 200 rfl ?_
    refine condD rfl (fun hlt => ?_) (fun hlt => ?_)
    rotate_left
    · refine go T2_ok 200 rfl ?_
      repeat (first | (refine guardA (b := true) rfl rfl rfl rfl (fun _ => ?_) (fun e => by cases e); refine go T2_ok 200 rfl ?_) | (refine guardA (b := false) rfl rfl rfl rfl (fun e => by cases e) (fun _ => ?_); refine go T2_ok 200 rfl ?_) | (refine condT rfl rfl ?_; refine go T2_ok 200 rfl ?_) | (refine condF rfl rfl ?_; refine go T2_ok 200 rfl ?_))
      refine call rfl rfl rfl (ok _ (by decide) rfl) (known_any _) ?_
      rintro v wk ⟨rfl, qk⟩
      refine go T2_ok 200 rfl ?_
      exact ret (ret1 (v := .bool true) Try.results11 rfl ⟨rfl, (q2).trans qk⟩)
    have hk1 : k ≤ xs.length := by omega
    have ek : w64 ((k : Int) + 1) = ((k + 1 : Nat) : Int) := w64_id (by omega) (by omega)
    refine go T2_ok 200 rfl ?_
    refine slcHi T2_ok rfl rfl rfl rfl rfl k rfl (by omega) ?_
    refine go T2_ok 200 rfl ?_
    have K := Set_any (xs.take k) d lv A c _ w2 (take k w2 hk1 q2)
    rw [lenE k hk1, if_pos rfl, if_pos rfl, Int.toNat_natCast, List.length_take, Nat.min_eq_left hk1] at K
    refine call rfl rfl rfl (ok _ (by decide) rfl) (K) ?_
    rintro v w3 ⟨q3, rfl⟩
    refine go T2_ok 200 rfl ?_
    refine nw rfl rfl (z := .agg #[.int .i64 0, .int .i64 0]) (by kernel_rfl) (cs := [.int .i64 0, .int .i64 0]) rfl ?_
    intro g4 w4 hg4 hs4 q4 B4
    refine go T2_ok 200 rfl ?_
    refine stA (vs := [.int .i64 _, .int .i64 _]) T2_ok rfl rfl rfl rfl rfl rfl rfl B4 rfl ?_
    intro w5 q5' B5 hs5
    have z2 := q2.size
    have z3 := q3.size
    have q5 : Chg No w w5 := ((q2.trans q3).trans q4).step q5' (fun x hx e => by omega)
    have hbd := hull_bd (p := kp (sts d lv (xs.take k))) (n := d + 1)
    have hbd : (hullL (keptL d lv (xs.take k))).1 ≤ d + 1 ∧ (hullL (keptL d lv (xs.take k))).2 ≤ d + 1 := hbd
    have hk3 := hm3 k (by omega) (by omega)
    cases he : (keptL d lv (xs.take k)).isEmpty with
    | true => rw [he] at hk3; cases hk3
    | false =>
      rw [he, Bool.false_or] at hk3
      rw [if_neg (by simp)]
      refine go T2_ok 200 rfl ?_
      repeat (first | (refine guardA (b := true) rfl rfl rfl rfl (fun _ => ?_) (fun e => by cases e); refine go T2_ok 200 rfl ?_) | (refine guardA (b := false) rfl rfl rfl rfl (fun e => by cases e) (fun _ => ?_); refine go T2_ok 200 rfl ?_) | (refine condT rfl rfl ?_; refine go T2_ok 200 rfl ?_) | (refine condF rfl rfl ?_; refine go T2_ok 200 rfl ?_))
      refine ld T2_ok rfl rfl rfl rfl (B5.get (i := 1) rfl) ?_
      refine go T2_ok 200 rfl ?_
      refine ld T2_ok rfl rfl rfl rfl (B5.get (i := 0) rfl) ?_
      refine go T2_ok 200 rfl ?_
      have ew : w64 (((hullL (keptL d lv (xs.take k))).2 : Int) - (hullL (keptL d lv (xs.take k))).1) = ((hullL (keptL d lv (xs.take k))).2 : Int) - (hullL (keptL d lv (xs.take k))).1 := w64_id (by omega) (by omega)
      rw [ew, hk3]
      refine go T2_ok 200 rfl ?_
      repeat (first | (refine guardA (b := true) rfl rfl rfl rfl (fun _ => ?_) (fun e => by cases e); refine go T2_ok 200 rfl ?_) | (refine guardA (b := false) rfl rfl rfl rfl (fun e => by cases e) (fun _ => ?_); refine go T2_ok 200 rfl ?_) | (refine condT rfl rfl ?_; refine go T2_ok 200 rfl ?_) | (refine condF rfl rfl ?_; refine go T2_ok 200 rfl ?_))
      rw [ek]
      exact round ⟨k + 1, rfl, ⟨q5, by omega⟩, by omega⟩
end Go.Proofs.Ytocolpbakaibnaa
