/- The contract of the specification's Change. -/
import Derived.Test.YtocolpbakaibnaaP6
import Derived.Test.YtocolpbakaibnaaE1
namespace Go.Proofs.Ytocolpbakaibnaa
open Go.Ev Go.Proofs Go.Cnt
attribute [local irreducible] At AtH

/-- after how many slots of its own watch j has no rate left, -1 if it keeps some -/
def atW (D : Nat) (lv : Int) (xs : List Bool) (j : Nat) : Int := lastL (fun (k : Nat) => exN D (wlv lv j) (k : Int) (xs.drop (begN j))) 0 0 (D + 1)
/-- the specification's change, after the first J watches -/
def chgR (D : Nat) (lv : Int) (xs : List Bool) : Nat → Int × Int
  | 0 => (-1, 0)
  | J + 1 => if 0 ≤ atW D lv xs J ∧ ((chgR D lv xs J).1 < 0 ∨ (begN J : Int) + atW D lv xs J < (chgR D lv xs J).1) then ((begN J : Int) + atW D lv xs J, J) else chgR D lv xs J
theorem lastL_bd (E : Nat → Option Nat) (N : Int) (hE : ∀ k n, E k = some n → (n : Int) ≤ N) : ∀ (m k : Nat) (n : Int), -1 ≤ n → n ≤ N → -1 ≤ N → -1 ≤ lastL E k n m ∧ lastL E k n m ≤ N := by
  intro m
  induction m with
  | zero => intro k n h0 h1 _; exact ⟨h0, h1⟩
  | succ m ih =>
    intro k n h0 h1 h2
    rw [lastL]
    split
    · rename_i v hv
      have := hE k v hv
      exact ih (k + 1) _ (by omega) (by omega) h2
    · exact ⟨by omega, by omega⟩
theorem exN_bd {D lv k : Int} {xs : List Bool} {n : Nat} (h : exN D lv k xs = some n) : n ≤ xs.length := by
  have := firstN_some _ _ h
  omega
theorem atW_bd (D : Nat) (lv : Int) (xs : List Bool) (j : Nat) : -1 ≤ atW D lv xs j ∧ atW D lv xs j ≤ xs.length :=
  lastL_bd _ _ (fun k n h => by have := exN_bd h; rw [List.length_drop] at this; omega) _ _ _ (by decide) (by omega) (by omega)
theorem begN_bd {j n : Nat} (h : begN j ≤ n) (hn : n ≤ 40) : j ≤ 6 := by
  cases j with
  | zero => omega
  | succ j =>
    have h1 : 2 ^ j ≤ 40 := by have : begN (j + 1) = 2 ^ j := rfl; omega
    rcases Nat.lt_or_ge j 6 with h2 | h2
    · omega
    · have : 2 ^ 6 ≤ 2 ^ j := Nat.pow_le_pow_right (by omega) h2
      omega
set_option maxRecDepth 20000 in
set_option maxHeartbeats 4000000 in
theorem rChange_any (xs : List Bool) (d : Nat) (lv : Int) (A : Option Addr) (c B : Nat) (w : World) (hL : xs.length ≤ c) (hSl : Sl w B 1 A xs.length (boolVs xs)) (hd0 : 2 ≤ d) (hd1 : d ≤ 1000) (hn : xs.length ≤ 40) (hl0 : 2 ≤ lv) (hl1 : lv ≤ 100) :
    Ret Try.prog 43 [.slice A xs.length c, .int .i64 d, .int .i64 lv] w fun v w' => Chg No w w' ∧ ∃ J, (∀ j, j < J → begN j ≤ xs.length) ∧ xs.length < begN J ∧ v = .tuple #[.int .i64 (chgR d lv xs J).1, .int .i64 (chgR d lv xs J).2] := by
  refine enter Try.func43 rfl Try.ntmps43 rfl ?_
  refine go T2_ok 200 rfl ?_
  refine loop [0, 1, 2, 8, 9, 10, 11] (fun j : Nat => [.slice A xs.length c, .int .i64 d, .int .i64 lv, .int .i64 (chgR d lv xs j).1, .int .i64 (chgR d lv xs j).2, .int .i64 (2 ^ (j + 1)), .int .i64 (j : Int)])
    (fun j w' => Chg No w w' ∧ j ≤ 7 ∧ (∀ i, i < j → begN i ≤ xs.length) ∧ -1 ≤ (chgR d lv xs j).1 ∧ (chgR d lv xs j).1 ≤ 100) (fun j => 7 - j) 0 (fun _ => rfl) rfl ⟨Chg.refl _ _, by omega, fun i h => by omega, by show (-1 : Int) ≤ -1; omega, by show (-1 : Int) ≤ 100; omega⟩ ?_
  rintro j τ w1 ⟨q1, hj, hb, hc0, hc1⟩
  refine go T2_ok 200 rfl ?_
  refine call rfl rfl rfl (ok _ (by decide) rfl) (begins_any j w1 (by omega)) ?_
  rintro v w2 ⟨rfl, rfl⟩
  refine go T2_ok 200 rfl ?_
  refine condD rfl (fun hlt => ?_) (fun hlt => ?_)
  · have hlt : begN j ≤ xs.length := by omega
    have hj6 := begN_bd hlt hn
    have hp : (2 : Nat) ^ (j + 1) ≤ 2 ^ 7 := Nat.pow_le_pow_right (by omega) (by omega)
    have hp' : ((2 : Int) ^ (j + 1)) = ((2 ^ (j + 1) : Nat) : Int) := by simp
    obtain ⟨t, ht⟩ : ∃ t : Nat, 2 ^ (j + 1) = t := ⟨_, rfl⟩
    rw [ht] at hp hp'
    have hw := wlv_bd (lv := lv) (j := j) (by omega) (by omega) (by omega)
    have e1 : w64 (lv * 2 ^ (j + 1)) = wlv lv j := w64_id (by unfold wlv at hw; omega) (by unfold wlv at hw; omega)
    have e2 : w64 (2 * 2 ^ (j + 1)) = 2 ^ (j + 1 + 1) := by rw [show (2 : Int) ^ (j + 1 + 1) = 2 * 2 ^ (j + 1) by rw [Int.pow_succ, Int.mul_comm]]; exact w64_id (by omega) (by omega)
    have e3 : w64 ((j : Int) + 1) = ((j + 1 : Nat) : Int) := w64_id (by omega) (by omega)
    have hab := atW_bd d lv xs j
    have e4 : w64 ((begN j : Int) + atW d lv xs j) = (begN j : Int) + atW d lv xs j := w64_id (by omega) (by omega)
    refine go T2_ok 200 rfl ?_
    refine call rfl rfl rfl (ok _ (by decide) rfl) (begins_any j w1 (by omega)) ?_
    rintro v w2 ⟨rfl, rfl⟩
    refine go T2_ok 200 rfl ?_
    refine slcLo T2_ok rfl rfl rfl rfl rfl (begN j) rfl hlt ?_
    intro A2 hA2
    have S2 := ((hSl.no q1).drop (begN j) hlt hL hA2)
    rw [Nat.mul_one, boolVs, ← List.map_drop] at S2
    have S2 : Sl w1 B 1 A2 (xs.drop (begN j)).length (boolVs (xs.drop (begN j))) := by rw [List.length_drop]; exact S2
    refine go T2_ok 200 rfl ?_
    rw [e1]
    have K := Times_any (xs.drop (begN j)) d (wlv lv j) A2 (c - begN j) _ w1 S2 hd0 hd1 (by rw [List.length_drop]; omega) (by omega) (by omega)
    rw [List.length_drop] at K
    refine call rfl rfl rfl (ok _ (by decide) rfl) (K) ?_
    rintro v w3 ⟨A3, c3, rfl, q3, o3⟩
    refine go T2_ok 200 rfl ?_
    have L := last_any d (wlv lv j) (xs.drop (begN j)) A3 c3 _ w3 0 (d + 1) (own_sl o3) (by omega) hd1
    have ed : (((0 : Nat) : Int) + ((d + 1 : Nat) : Int) - 1) = (d : Int) := by omega
    rw [ed] at L
    refine call rfl rfl rfl (ok _ (by decide) rfl) (L) ?_
    rintro v w4 ⟨rfl, rfl⟩
    have hat : lastL (fun (k : Nat) => exN d (wlv lv j) (k : Int) (xs.drop (begN j))) 0 0 (d + 1) = atW d lv xs j := rfl
    rw [hat]
    have q13 : Chg No w w3 := q1.trans q3
    have hstep : chgR d lv xs (j + 1) = if 0 ≤ atW d lv xs j ∧ ((chgR d lv xs j).1 < 0 ∨ (begN j : Int) + atW d lv xs j < (chgR d lv xs j).1) then ((begN j : Int) + atW d lv xs j, (j : Int)) else chgR d lv xs j := rfl
    have hbj : ∀ i, i < j + 1 → begN i ≤ xs.length := fun i hi => by
      by_cases e : i = j
      · rw [e]; exact hlt
      · exact hb i (by omega)
    refine go T2_ok 200 rfl ?_
    refine guardD rfl rfl rfl (fun h0 => ?_) (fun h0 => ?_)
    · refine go T2_ok 200 rfl ?_
      refine guardD rfl rfl rfl (fun h1 => ?_) (fun h1 => ?_)
      · rw [if_pos ⟨h0, (Or.inl h1)⟩] at hstep
        refine go T2_ok 200 rfl ?_
        repeat (first | (refine guardA (b := true) rfl rfl rfl rfl (fun _ => ?_) (fun e => by cases e); refine go T2_ok 200 rfl ?_) | (refine guardA (b := false) rfl rfl rfl rfl (fun e => by cases e) (fun _ => ?_); refine go T2_ok 200 rfl ?_) | (refine condT rfl rfl ?_; refine go T2_ok 200 rfl ?_) | (refine condF rfl rfl ?_; refine go T2_ok 200 rfl ?_))
        rw [e4, e2, e3]
        refine round ⟨j + 1, ?_, ⟨q13, by omega, hbj, by rw [hstep]; show -1 ≤ (begN j : Int) + atW d lv xs j; omega, by rw [hstep]; show (begN j : Int) + atW d lv xs j ≤ 100; omega⟩, by omega⟩
        rw [hstep]
        rfl
      · refine go T2_ok 200 rfl ?_
        rw [e4]
        refine condD rfl (fun h2 => ?_) (fun h2 => ?_)
        · rw [if_pos ⟨h0, (Or.inr h2)⟩] at hstep
          refine go T2_ok 200 rfl ?_
          repeat (first | (refine guardA (b := true) rfl rfl rfl rfl (fun _ => ?_) (fun e => by cases e); refine go T2_ok 200 rfl ?_) | (refine guardA (b := false) rfl rfl rfl rfl (fun e => by cases e) (fun _ => ?_); refine go T2_ok 200 rfl ?_) | (refine condT rfl rfl ?_; refine go T2_ok 200 rfl ?_) | (refine condF rfl rfl ?_; refine go T2_ok 200 rfl ?_))
          rw [e4, e2, e3]
          refine round ⟨j + 1, ?_, ⟨q13, by omega, hbj, by rw [hstep]; show -1 ≤ (begN j : Int) + atW d lv xs j; omega, by rw [hstep]; show (begN j : Int) + atW d lv xs j ≤ 100; omega⟩, by omega⟩
          rw [hstep]
          rfl
        · rw [if_neg (fun h => h.2.elim h1 h2)] at hstep
          refine go T2_ok 200 rfl ?_
          repeat (first | (refine guardA (b := true) rfl rfl rfl rfl (fun _ => ?_) (fun e => by cases e); refine go T2_ok 200 rfl ?_) | (refine guardA (b := false) rfl rfl rfl rfl (fun e => by cases e) (fun _ => ?_); refine go T2_ok 200 rfl ?_) | (refine condT rfl rfl ?_; refine go T2_ok 200 rfl ?_) | (refine condF rfl rfl ?_; refine go T2_ok 200 rfl ?_))
          rw [e2, e3]
          exact round ⟨j + 1, by rw [hstep]; rfl, ⟨q13, by omega, hbj, by rw [hstep]; exact hc0, by rw [hstep]; exact hc1⟩, by omega⟩
    · rw [if_neg (fun h => h0 h.1)] at hstep
      refine go T2_ok 200 rfl ?_
      repeat (first | (refine guardA (b := true) rfl rfl rfl rfl (fun _ => ?_) (fun e => by cases e); refine go T2_ok 200 rfl ?_) | (refine guardA (b := false) rfl rfl rfl rfl (fun e => by cases e) (fun _ => ?_); refine go T2_ok 200 rfl ?_) | (refine condT rfl rfl ?_; refine go T2_ok 200 rfl ?_) | (refine condF rfl rfl ?_; refine go T2_ok 200 rfl ?_))
      rw [e2, e3]
      exact round ⟨j + 1, by rw [hstep]; rfl, ⟨q13, by omega, hbj, by rw [hstep]; exact hc0, by rw [hstep]; exact hc1⟩, by omega⟩
  · refine go T2_ok 200 rfl ?_
    exact ret (ret2 (v := .int .i64 _) (x := .int .i64 _) Try.results43 rfl rfl ⟨q1, j, hb, by omega, rfl⟩)
end Go.Proofs.Ytocolpbakaibnaa
