/- The walk of CountBets. -/
import Derived.Test.YtocolpbakaibnaaK1
import Derived.Test.YtocolpbakaibnaaP1
namespace Go.Proofs.Ytocolpbakaibnaa
open Go.Ev Go.Proofs Go.Cnt
attribute [local irreducible] At AtH

set_option maxRecDepth 20000 in
theorem walk_CountBets (c n h D k : Int) (w : World) (hc : -9223372036854775808 ≤ c ∧ c ≤ 9223372036854775807) (hn : -9223372036854775808 ≤ n ∧ n ≤ 9223372036854775807) (hh : -9223372036854775808 ≤ h ∧ h ≤ 9223372036854775807)
    (hD : -9223372036854775808 ≤ D ∧ D ≤ 9223372036854775807) (hk : -9223372036854775808 ≤ k ∧ k ≤ 9223372036854775807) :
    Ret Try.prog 3 [.int .i64 c, .int .i64 n, .int .i64 h, .int .i64 D, .int .i64 k] w fun v w' => v = .bool true ∧ Chg No w w' := by
  refine enter Try.func3 rfl Try.ntmps3 rfl ?_
  refine go T2_ok 200 rfl ?_
  refine call rfl rfl rfl (ok _ (by decide) rfl) (Bet_any c n h D k w) ?_
  rintro v w1 ⟨rfl, q1⟩
  by_cases hok : betOk c n h D k = true
  · rw [if_pos hok]
    simp only [betOk, Bool.and_eq_true, inB_iff] at hok
    obtain ⟨a1, a2, a3, a4, a5⟩ := hok
    have b1 := hitC_bd (c := c) (n := n) (h := h) (D := D) (k := k) a4.1 a4.2 a2.1 a3.1 (by omega) a5.1
    have b2 := missC_bd (c := c) (n := n) (h := h) (D := D) (k := k) a4.1 a4.2 a2.1 a3.2 (by omega) a5.2
    refine go T2_ok 200 rfl ?_
    refine call rfl rfl rfl (ok _ (by decide) rfl) (Parts_any D w1) ?_
    rintro v w2 ⟨rfl, rfl⟩
    rw [(inB_iff D 2 1000).2 a1]
    refine go T2_ok 200 rfl ?_
    refine guard (b := false) rfl rfl rfl (fun e => by cases e) (fun _ => ?_)
    refine go T2_ok 200 rfl ?_
    refine guardD rfl rfl rfl (fun e => absurd e (by omega)) (fun _ => ?_)
    refine go T2_ok 200 rfl ?_
    refine guardD rfl rfl rfl (fun e => absurd e (by omega)) (fun _ => ?_)
    refine go T2_ok 200 rfl ?_
    refine guardD rfl rfl rfl (fun e => absurd e (by omega)) (fun _ => ?_)
    refine go T2_ok 200 rfl ?_
    refine guardD rfl rfl rfl (fun e => absurd e (by omega)) (fun _ => ?_)
    refine go T2_ok 200 rfl ?_
    refine guardD rfl rfl rfl (fun e => absurd e (by omega)) (fun _ => ?_)
    refine go T2_ok 200 rfl ?_
    refine guardD rfl rfl rfl (fun e => absurd e (by omega)) (fun _ => ?_)
    refine go T2_ok 200 rfl ?_
    refine guardD rfl rfl rfl (fun e => absurd e (by omega)) (fun _ => ?_)
    refine go T2_ok 200 rfl ?_
    refine condD rfl (fun e => absurd e (by omega)) (fun _ => ?_)
    refine go T2_ok 200 rfl ?_
    refine call rfl rfl rfl (ok _ (by decide) rfl) (rBet_any c n h D k w1 (by omega) (by omega) (by omega) (by omega) (by omega) (by omega) (by omega) (by omega) (by omega) (by omega)) ?_
    rintro v w2 ⟨rfl, rfl⟩
    refine go T2_ok 200 rfl ?_
    refine guard (b := false) rfl rfl rfl (fun e => by cases e) (fun _ => ?_)
    refine go T2_ok 200 rfl ?_
    have eh : (hitC c n h D k != hitC c n h D k) = false := by simp
    have em : (missC c n h D k != missC c n h D k) = false := by simp
    rw [eh]
    refine guard (b := false) rfl rfl rfl (fun e => by cases e) (fun _ => ?_)
    refine go T2_ok 200 rfl ?_
    refine condF rfl em ?_
    refine go T2_ok 200 rfl ?_
    cases e0 : (k == 0) with
    | true =>
      refine guard (b := true) rfl rfl rfl (fun _ => ?_) (fun e => by cases e)
      refine go T2_ok 200 rfl ?_
      refine guard (b := true) rfl rfl rfl (fun _ => ?_) (fun e => by cases e)
      refine go T2_ok 200 rfl ?_
      refine call rfl rfl rfl (ok _ (by decide) rfl) (known_any _) ?_
      rintro v w3 ⟨rfl, q3⟩
      refine go T2_ok 200 rfl ?_
      exact ret (ret1 (v := .bool true) Try.results3 rfl ⟨rfl, q1.trans q3⟩)
    | false =>
      have e0' : k ≠ 0 := by simpa using e0
      refine guard (b := false) rfl rfl rfl (fun e => by cases e) (fun _ => ?_)
      refine go T2_ok 200 rfl ?_
      cases e1 : (k == D) with
      | true =>
        refine guard (b := true) rfl rfl rfl (fun _ => ?_) (fun e => by cases e)
        refine go T2_ok 200 rfl ?_
        refine guard (b := true) rfl rfl rfl (fun _ => ?_) (fun e => by cases e)
        refine go T2_ok 200 rfl ?_
        refine call rfl rfl rfl (ok _ (by decide) rfl) (known_any _) ?_
        rintro v w3 ⟨rfl, q3⟩
        refine go T2_ok 200 rfl ?_
        exact ret (ret1 (v := .bool true) Try.results3 rfl ⟨rfl, q1.trans q3⟩)
      | false =>
        have e1' : k ≠ D := by simpa using e1
        refine guard (b := false) rfl rfl rfl (fun e => by cases e) (fun _ => ?_)
        refine go T2_ok 200 rfl ?_
        have f := fair (c := c) (n := n) (h := h) (D := D) (k := k) (by omega) (by omega) (by omega) (by omega)
        have m1 := mul_bd (a := k) (b := hitC c n h D k) (A := 1000) (B := 1000000000000) (by omega) (by omega) (by omega) (by omega)
        have m2 := mul_bd (a := D - k) (b := missC c n h D k) (A := 1000) (B := 1000000000000) (by omega) (by omega) (by omega) (by omega)
        have m3 := mul_bd (a := D) (b := c) (A := 1000) (B := 1000000000000) (by omega) (by omega) (by omega) (by omega)
        have w1' : w64 (k * hitC c n h D k) = k * hitC c n h D k := w64_id (by omega) (by omega)
        have w2' : w64 (D - k) = D - k := w64_id (by omega) (by omega)
        have w3' : w64 ((D - k) * missC c n h D k) = (D - k) * missC c n h D k := w64_id (by omega) (by omega)
        have w4' : w64 (k * hitC c n h D k + (D - k) * missC c n h D k) = k * hitC c n h D k + (D - k) * missC c n h D k := w64_id (by omega) (by omega)
        have w5' : w64 (D * c) = D * c := w64_id (by omega) (by omega)
        rw [w1', w2', w3', w4', w5', decide_eq_true f]
        refine guard (b := true) rfl rfl rfl (fun _ => ?_) (fun e => by cases e)
        refine go T2_ok 200 rfl ?_
        refine call rfl rfl rfl (ok _ (by decide) rfl) (known_any _) ?_
        rintro v w3 ⟨rfl, q3⟩
        refine go T2_ok 200 rfl ?_
        exact ret (ret1 (v := .bool true) Try.results3 rfl ⟨rfl, q1.trans q3⟩)
  · rw [if_neg hok]
    refine go T2_ok 200 rfl ?_
    refine call rfl rfl rfl (ok _ (by decide) rfl) (Parts_any D w1) ?_
    rintro v w2 ⟨rfl, rfl⟩
    refine go T2_ok 200 rfl ?_
    refine guardN rfl rfl rfl (fun p => ?_) (fun p => ?_)
    · skip
      refine go T2_ok 200 rfl ?_
      refine guard (b := true) rfl rfl rfl (fun _ => ?_) (fun e => by cases e)
      refine go T2_ok 200 rfl ?_
      refine guard (b := true) rfl rfl rfl (fun _ => ?_) (fun e => by cases e)
      refine go T2_ok 200 rfl ?_
      refine guard (b := true) rfl rfl rfl (fun _ => ?_) (fun e => by cases e)
      refine go T2_ok 200 rfl ?_
      refine call rfl rfl rfl (ok _ (by decide) rfl) (known_any _) ?_
      rintro v w3 ⟨rfl, q3⟩
      refine go T2_ok 200 rfl ?_
      exact ret (ret1 (v := .bool true) Try.results3 rfl ⟨rfl, q1.trans q3⟩)
    · refine go T2_ok 200 rfl ?_
      refine guardD rfl rfl rfl (fun p => ?_) (fun p => ?_)
      · skip
        refine go T2_ok 200 rfl ?_
        refine guard (b := true) rfl rfl rfl (fun _ => ?_) (fun e => by cases e)
        refine go T2_ok 200 rfl ?_
        refine guard (b := true) rfl rfl rfl (fun _ => ?_) (fun e => by cases e)
        refine go T2_ok 200 rfl ?_
        refine guard (b := true) rfl rfl rfl (fun _ => ?_) (fun e => by cases e)
        refine go T2_ok 200 rfl ?_
        refine call rfl rfl rfl (ok _ (by decide) rfl) (known_any _) ?_
        rintro v w3 ⟨rfl, q3⟩
        refine go T2_ok 200 rfl ?_
        exact ret (ret1 (v := .bool true) Try.results3 rfl ⟨rfl, q1.trans q3⟩)
      · refine go T2_ok 200 rfl ?_
        refine guardD rfl rfl rfl (fun p => ?_) (fun p => ?_)
        · skip
          refine go T2_ok 200 rfl ?_
          refine guard (b := true) rfl rfl rfl (fun _ => ?_) (fun e => by cases e)
          refine go T2_ok 200 rfl ?_
          refine guard (b := true) rfl rfl rfl (fun _ => ?_) (fun e => by cases e)
          refine go T2_ok 200 rfl ?_
          refine guard (b := true) rfl rfl rfl (fun _ => ?_) (fun e => by cases e)
          refine go T2_ok 200 rfl ?_
          refine call rfl rfl rfl (ok _ (by decide) rfl) (known_any _) ?_
          rintro v w3 ⟨rfl, q3⟩
          refine go T2_ok 200 rfl ?_
          exact ret (ret1 (v := .bool true) Try.results3 rfl ⟨rfl, q1.trans q3⟩)
        · refine go T2_ok 200 rfl ?_
          refine guardD rfl rfl rfl (fun p => ?_) (fun p => ?_)
          · skip
            refine go T2_ok 200 rfl ?_
            refine guard (b := true) rfl rfl rfl (fun _ => ?_) (fun e => by cases e)
            refine go T2_ok 200 rfl ?_
            refine guard (b := true) rfl rfl rfl (fun _ => ?_) (fun e => by cases e)
            refine go T2_ok 200 rfl ?_
            refine guard (b := true) rfl rfl rfl (fun _ => ?_) (fun e => by cases e)
            refine go T2_ok 200 rfl ?_
            refine call rfl rfl rfl (ok _ (by decide) rfl) (known_any _) ?_
            rintro v w3 ⟨rfl, q3⟩
            refine go T2_ok 200 rfl ?_
            exact ret (ret1 (v := .bool true) Try.results3 rfl ⟨rfl, q1.trans q3⟩)
          · refine go T2_ok 200 rfl ?_
            refine guardD rfl rfl rfl (fun p => ?_) (fun p => ?_)
            · skip
              refine go T2_ok 200 rfl ?_
              refine guard (b := true) rfl rfl rfl (fun _ => ?_) (fun e => by cases e)
              refine go T2_ok 200 rfl ?_
              refine guard (b := true) rfl rfl rfl (fun _ => ?_) (fun e => by cases e)
              refine go T2_ok 200 rfl ?_
              refine guard (b := true) rfl rfl rfl (fun _ => ?_) (fun e => by cases e)
              refine go T2_ok 200 rfl ?_
              refine call rfl rfl rfl (ok _ (by decide) rfl) (known_any _) ?_
              rintro v w3 ⟨rfl, q3⟩
              refine go T2_ok 200 rfl ?_
              exact ret (ret1 (v := .bool true) Try.results3 rfl ⟨rfl, q1.trans q3⟩)
            · refine go T2_ok 200 rfl ?_
              refine guardD rfl rfl rfl (fun p => ?_) (fun p => ?_)
              · skip
                refine go T2_ok 200 rfl ?_
                refine guard (b := true) rfl rfl rfl (fun _ => ?_) (fun e => by cases e)
                refine go T2_ok 200 rfl ?_
                refine guard (b := true) rfl rfl rfl (fun _ => ?_) (fun e => by cases e)
                refine go T2_ok 200 rfl ?_
                refine guard (b := true) rfl rfl rfl (fun _ => ?_) (fun e => by cases e)
                refine go T2_ok 200 rfl ?_
                refine call rfl rfl rfl (ok _ (by decide) rfl) (known_any _) ?_
                rintro v w3 ⟨rfl, q3⟩
                refine go T2_ok 200 rfl ?_
                exact ret (ret1 (v := .bool true) Try.results3 rfl ⟨rfl, q1.trans q3⟩)
              · refine go T2_ok 200 rfl ?_
                refine guardD rfl rfl rfl (fun p => ?_) (fun p => ?_)
                · skip
                  refine go T2_ok 200 rfl ?_
                  refine guard (b := true) rfl rfl rfl (fun _ => ?_) (fun e => by cases e)
                  refine go T2_ok 200 rfl ?_
                  refine guard (b := true) rfl rfl rfl (fun _ => ?_) (fun e => by cases e)
                  refine go T2_ok 200 rfl ?_
                  refine guard (b := true) rfl rfl rfl (fun _ => ?_) (fun e => by cases e)
                  refine go T2_ok 200 rfl ?_
                  refine call rfl rfl rfl (ok _ (by decide) rfl) (known_any _) ?_
                  rintro v w3 ⟨rfl, q3⟩
                  refine go T2_ok 200 rfl ?_
                  exact ret (ret1 (v := .bool true) Try.results3 rfl ⟨rfl, q1.trans q3⟩)
                · refine go T2_ok 200 rfl ?_
                  refine guardD rfl rfl rfl (fun p => ?_) (fun p => ?_)
                  · skip
                    refine go T2_ok 200 rfl ?_
                    refine guard (b := true) rfl rfl rfl (fun _ => ?_) (fun e => by cases e)
                    refine go T2_ok 200 rfl ?_
                    refine guard (b := true) rfl rfl rfl (fun _ => ?_) (fun e => by cases e)
                    refine go T2_ok 200 rfl ?_
                    refine guard (b := true) rfl rfl rfl (fun _ => ?_) (fun e => by cases e)
                    refine go T2_ok 200 rfl ?_
                    refine call rfl rfl rfl (ok _ (by decide) rfl) (known_any _) ?_
                    rintro v w3 ⟨rfl, q3⟩
                    refine go T2_ok 200 rfl ?_
                    exact ret (ret1 (v := .bool true) Try.results3 rfl ⟨rfl, q1.trans q3⟩)
                  · refine go T2_ok 200 rfl ?_
                    refine condD rfl (fun p => ?_) (fun p => ?_)
                    · skip
                      refine go T2_ok 200 rfl ?_
                      refine guard (b := true) rfl rfl rfl (fun _ => ?_) (fun e => by cases e)
                      refine go T2_ok 200 rfl ?_
                      refine guard (b := true) rfl rfl rfl (fun _ => ?_) (fun e => by cases e)
                      refine go T2_ok 200 rfl ?_
                      refine guard (b := true) rfl rfl rfl (fun _ => ?_) (fun e => by cases e)
                      refine go T2_ok 200 rfl ?_
                      refine call rfl rfl rfl (ok _ (by decide) rfl) (known_any _) ?_
                      rintro v w3 ⟨rfl, q3⟩
                      refine go T2_ok 200 rfl ?_
                      exact ret (ret1 (v := .bool true) Try.results3 rfl ⟨rfl, q1.trans q3⟩)
                    · exfalso
                      refine hok ?_
                      simp only [betOk, Bool.and_eq_true, inB_iff] at p ⊢
                      rw [inB_iff] at *
                      omega
end Go.Proofs.Ytocolpbakaibnaa
