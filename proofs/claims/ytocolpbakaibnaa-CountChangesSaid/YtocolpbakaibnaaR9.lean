/- The contract of whole. -/
import Derived.Test.YtocolpbakaibnaaR8
namespace Go.Proofs.Ytocolpbakaibnaa
open Go.Ev Go.Proofs Go.Cnt
attribute [local irreducible] At AtH

/-- the weight of all outcomes, or the error -/
def wholeP (s D : Int) : Int × Int := if inB D 2 1000 = false ∨ s < 0 then (0, 2) else if 12 < s then (0, 3) else match allN D 1 s.toNat with | some n => (n, 0) | none => (0, 3)
theorem whole_any (s D : Int) (w : World) : Ret Try.prog 59 [.int .i64 s, .int .i64 D] w fun v w' => v = .tuple #[.int .i64 (wholeP s D).1, .int .i64 (wholeP s D).2] ∧ w = w' := by
  refine enter Try.func59 rfl Try.ntmps59 rfl ?_
  refine go T_ok 100 rfl ?_
  refine call rfl rfl rfl (ok _ (by decide) rfl) (within_any _ _ _ _) ?_
  rintro v w ⟨rfl, rfl⟩
  refine go T_ok 100 rfl ?_
  refine guardN rfl rfl rfl (fun q1 => ?_) (fun q1 => ?_)
  · refine go T_ok 100 rfl ?_
    refine ret (ret2 (v := .int .i64 _) (x := .int .i64 _) Try.results59 rfl rfl ⟨?_, rfl⟩)
    rw [wholeP, if_pos (.inl q1)]
  · refine go T_ok 100 rfl ?_
    refine condD rfl (fun q2 => ?_) (fun q2 => ?_)
    · refine go T_ok 100 rfl ?_
      refine ret (ret2 (v := .int .i64 _) (x := .int .i64 _) Try.results59 rfl rfl ⟨?_, rfl⟩)
      rw [wholeP, if_pos (.inr q2)]
    · refine go T_ok 100 rfl ?_
      have hn : ¬ (inB D 2 1000 = false ∨ s < 0) := by
        rintro (h | h)
        · rw [q1] at h; cases h
        · exact q2 h
      refine condD rfl (fun q3 => ?_) (fun q3 => ?_)
      · refine go T_ok 100 rfl ?_
        refine ret (ret2 (v := .int .i64 _) (x := .int .i64 _) Try.results59 rfl rfl ⟨?_, rfl⟩)
        rw [wholeP, if_neg hn, if_pos q3]
      · rw [inB_iff] at q1
        obtain ⟨s, rfl⟩ : ∃ k : Nat, s = k := ⟨s.toNat, by omega⟩
        refine go T_ok 100 rfl ?_
        refine loop [1, 6, 16, 17] (fun x : Nat × Int => [.int .i64 D, .int .i64 x.2, .int .i64 s, .int .i64 (x.1 : Int)])
          (fun x w' => w = w' ∧ x.1 ≤ s ∧ 1 ≤ x.2 ∧ x.2 ≤ 1152921504606846976 ∧ allN D 1 s = allN D x.2 (s - x.1)) (fun x => s - x.1) (0, 1) (fun _ => rfl) rfl ⟨rfl, by simp, by simp, by simp, by simp⟩ ?_
        rintro ⟨i, out⟩ τ w' ⟨rfl, hi, h1, h2, h3⟩
        simp only at hi h1 h2 h3
        dsimp only
        refine go T_ok 100 rfl ?_
        refine condD rfl (fun hlt => ?_) (fun hlt => ?_)
        · have hlt : i < s := by omega
          rw [show s - i = (s - (i + 1)) + 1 by omega, allN] at h3
          refine go T_ok 100 rfl ?_
          refine quoN rfl rfl rfl rfl (by omega) (by omega) (by omega) ?_
          refine go T_ok 100 rfl ?_
          refine condD rfl (fun h5 => ?_) (fun h5 => ?_)
          · refine go T_ok 100 rfl ?_
            refine ret (ret2 (v := .int .i64 _) (x := .int .i64 _) Try.results59 rfl rfl ⟨?_, rfl⟩)
            rw [if_pos h5] at h3
            rw [wholeP, if_neg hn, if_neg q3, Int.toNat_natCast, h3]
          · have hb := allN_bd q1.1 h1 h2 h5
            rw [if_neg h5] at h3
            have e1 : w64 (out * D) = out * D := w64_id (by omega) (by omega)
            have ei : w64 ((i : Int) + 1) = ((i + 1 : Nat) : Int) := w64_id (by omega) (by omega)
            refine go T_ok 100 rfl ?_
            rw [e1, ei]
            exact round ⟨(i + 1, out * D), rfl, ⟨rfl, by simp only; omega, hb.1, hb.2, h3⟩, by simp only; omega⟩
        · refine go T_ok 100 rfl ?_
          refine ret (ret2 (v := .int .i64 _) (x := .int .i64 _) Try.results59 rfl rfl ⟨?_, rfl⟩)
          rw [show s - i = 0 by omega] at h3
          rw [wholeP, if_neg hn, if_neg q3, Int.toNat_natCast, h3]
          rfl
end Go.Proofs.Ytocolpbakaibnaa
