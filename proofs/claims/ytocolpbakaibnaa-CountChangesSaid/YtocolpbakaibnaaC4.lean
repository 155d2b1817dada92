/- The contract of begin: the bets against all rates, begun. -/
import Derived.Test.YtocolpbakaibnaaC3
import Derived.Test.YtocolpbakaibnaaCZ
namespace Go.Proofs.Ytocolpbakaibnaa
open Go.Ev Go.Proofs Go.Cnt

/-- the first i bets, flat -/
def betsL (D : Nat) : Nat → List Value
  | 0 => []
  | i + 1 => betsL D i ++ betL D 0 0 i 1048576
theorem betsL_len (D : Nat) : ∀ i, (betsL D i).length = 5 * i := by
  intro i
  induction i with
  | zero => rfl
  | succ i ih => simp [betsL, betL, ih]; omega
theorem betsL_get (D : Nat) : ∀ (i : Nat) {j r : Nat}, j < i → r < 5 → (betsL D i)[5 * j + r]? = (betL D 0 0 j 1048576)[r]? := by
  intro i
  induction i with
  | zero => intro j r h; omega
  | succ i ih =>
    intro j r hj hr
    simp only [betsL, List.getElem?_append, betsL_len]
    by_cases e : j = i
    · subst e
      rw [if_neg (by omega)]
      congr 1
      omega
    · rw [if_pos (by omega)]
      exact ih (by omega) hr

set_option maxRecDepth 20000 in
theorem begin_any (D : Nat) (lv : Int) (w : World) (hD0 : 2 ≤ D) (hD1 : D ≤ 1000) :
    Ret Try.prog 54 [.int .i64 D, .int .i64 lv] w fun v w' => ∃ b g, v = .pointer (some ⟨b, 0, none⟩) ∧ w.heap.size ≤ b ∧ w.heap.size ≤ g ∧ Chg No w w' ∧ Bets w' b g D lv (fun _ => BS.new) := by
  obtain ⟨z, hz, hz1, hz2, hz3⟩ := z105
  have e1 : w64 ((D : Int) + 1) = ((D + 1 : Nat) : Int) := w64_id (by omega) (by omega)
  refine enter Try.func54 rfl Try.ntmps54 rfl ?_
  refine go T_ok 100 rfl ?_
  rw [e1]
  refine bigB T_ok rfl rfl rfl hz hz1 [0, 1, 1004] rfl ?_
  refine go T_ok 100 rfl ?_
  refine bx rfl rfl rfl (cs := (((z.cells.setIfInBounds 0 (.int .i64 D)).setIfInBounds 1 (.int .i64 lv)).setIfInBounds 1004 (.int .i64 ((D + 1 : Nat) : Int))).toList) rfl ?_
  intro b w1 hb _ q1 B1
  refine go T_ok 100 rfl ?_
  rw [e1]
  have R1 := B1.row
  simp only [Array.toList_setIfInBounds, List.length_set, Array.length_toList, hz1] at R1
  refine loop [0, 5, 14, 15] (fun i : Nat => [.int .i64 D, .pointer (some ⟨b, 0, none⟩), .int .i64 ((D + 1 : Nat) : Int), .int .i64 (i : Int)])
    (fun i w' => i ≤ D + 1 ∧ Chg No w w' ∧ ∃ f A c, w'.rowIs b 105 2006 f ∧ f 0 = .int .i64 D ∧ f 1 = .int .i64 lv ∧ f 2 = .slice A i c ∧ f 1004 = .int .i64 ((D + 1 : Nat) : Int) ∧ (∀ j, j ≤ D → f (3 + j) = .bool false) ∧ w'.ownsRow w.heap.size 82 5 (.slice A i c) i (betsL D i)) (fun i => D + 1 - i) 0 (fun _ => rfl) rfl ⟨by omega, q1, _, none, 0, R1, ?_, ?_, ?_, ?_, ?_, ?_⟩ ?_
  · simp [List.getD_eq_getElem?_getD, hz1]
  · simp [List.getD_eq_getElem?_getD, hz1]
  · simp [List.getD_eq_getElem?_getD, hz2]
  · simp [List.getD_eq_getElem?_getD, hz1]
  · intro j hj
    show ((((z.cells.toList.set 0 _).set 1 _).set 1004 _).getD (3 + j) undef) = _
    rw [List.getD_eq_getElem?_getD, List.getElem?_set_ne (by omega), List.getElem?_set_ne (by omega), List.getElem?_set_ne (by omega), hz3 j (by omega)]
    rfl
  · exact own_nil
  intro i τ w' ⟨hi, q, f, A, c, R, f0, f1, f2, f3, f4, hown⟩
  refine go T_ok 100 rfl ?_
  refine condD rfl (fun hlt => ?_) (fun hlt => ?_)
  · have hlt : i < D + 1 := by omega
    refine go T_ok 100 rfl ?_
    refine ld T_ok rfl rfl rfl rfl ((R.cell (i := 0 + 2) (by omega)).trans (congrArg some f2)) ?_
    refine go T_ok 100 rfl ?_
    refine app1 T_ok rfl rfl rfl rfl rfl rfl (cs := betL D 0 0 i 1048576) rfl rfl rfl rfl (fun _ => rfl) (fun _ => rfl) (fun _ => rfl) hown (by unfold maxLen; omega) (by omega) q.size ?_
    intro g A' c' w3 hown' q3 hs3 _
    refine go T_ok 100 rfl ?_
    have hne := own_ne_row hown R (by decide)
    have R3 := rowIs_keep R q3 hne
    refine stR (v := .slice _ _ _) T_ok rfl rfl rfl rfl rfl rfl R3 (by omega) ?_
    intro w4 q4 R4 _
    refine go T_ok 100 rfl ?_
    have ei : w64 ((i : Int) + 1) = ((i + 1 : Nat) : Int) := w64_id (by omega) (by omega)
    rw [ei]
    refine round ⟨i + 1, rfl, ⟨by omega, (q.step q3 (fun k hk h => absurd (own_ge hown h) (by omega))).step q4 (fun k hk h => absurd h (by omega)), _, A', c', R4, ?_, ?_, ?_, ?_, ?_, own_keep hown' q4 (fun k h e => own_ne_row hown' R3 (by decide) (h.trans (congrArg some e)))⟩, by omega⟩
    · show (if 0 = 0 + 2 then _ else f 0) = _
      rw [if_neg (by omega), f0]
    · show (if 1 = 0 + 2 then _ else f 1) = _
      rw [if_neg (by omega), f1]
    · show (if 2 = 0 + 2 then _ else f 2) = _
      rw [if_pos (by omega)]
    · show (if 1004 = 0 + 2 then _ else f 1004) = _
      rw [if_neg (by omega), f3]
    · intro j hj
      show (if 3 + j = 0 + 2 then _ else f (3 + j)) = _
      rw [if_neg (by omega), f4 j hj]
  · refine go T_ok 100 rfl ?_
    have : i = D + 1 := by omega
    subst this
    obtain ⟨g, m, e, rfl, hge, Rg, hm, hget⟩ := own_row hown (by omega)
    refine ret (ret1 (v := .pointer _) Try.results54 rfl ⟨b, g, rfl, by omega, hge, q, ?_, ⟨f, c, R, f0, f1, f2, ?_, f4, ?_⟩, ⟨m, e, Rg, by omega, ?_⟩⟩)
    · exact fun e => own_ne_row hown R (by decide) (congrArg some e.symm)
    · rw [f3, show (fun j : Nat => !(BS.new).out) = fun _ => true from rfl, cnt_all]
    · intro j _ h
      cases h
    · intro j hj _
      refine ⟨?_, ?_, ?_, ?_, ?_⟩
      · exact (Option.some.inj ((hget (5 * j + 0) (by omega)).symm.trans (betsL_get D _ (by omega) (by omega)))).trans rfl
      · exact (Option.some.inj ((hget (5 * j + 1) (by omega)).symm.trans (betsL_get D _ (by omega) (by omega)))).trans rfl
      · exact (Option.some.inj ((hget (5 * j + 2) (by omega)).symm.trans (betsL_get D _ (by omega) (by omega)))).trans rfl
      · exact (Option.some.inj ((hget (5 * j + 3) (by omega)).symm.trans (betsL_get D _ (by omega) (by omega)))).trans rfl
      · exact (Option.some.inj ((hget (5 * j + 4) (by omega)).symm.trans (betsL_get D _ (by omega) (by omega)))).trans rfl
end Go.Proofs.Ytocolpbakaibnaa
