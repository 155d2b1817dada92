/- The contracts of the specification of layer 5: ranges, spans. -/
import Derived.Test.YtolhfimknimliaaC1
namespace Go.Proofs.Ytolhfimknimliaa
open Go.Ev Go.Proofs Go.Top
attribute [local irreducible] At AtH
theorem rin_any (x lo hi : Int) (w : World) : Ret Try.prog 30 [.int .i64 x, .int .i64 lo, .int .i64 hi] w fun v w' => v = .bool (decide (lo ≤ x ∧ x ≤ hi)) ∧ w = w' := by
  refine enter Try.func30 rfl Try.ntmps30 rfl ?_
  refine go T_ok 200 rfl ?_
  refine guardD rfl rfl rfl (fun h => ?_) (fun h => ?_)
  all_goals refine go T_ok 100 rfl ?_
  all_goals refine ret (ret1 (v := .bool _) Try.results30 rfl ?_)
  all_goals simp [h]
theorem rSpan_any (s : Int × Int) (lo hi : Int) (w : World) : Ret Try.prog 31 [.agg (spL s).toArray, .int .i64 lo, .int .i64 hi] w fun v w' => v = .bool (decide (SpOk s lo hi)) ∧ Chg No w w' := by
  refine enter Try.func31 rfl Try.ntmps31 rfl ?_
  refine go T_ok 200 rfl ?_
  refine bx rfl rfl rfl (cs := spL s) rfl ?_
  intro g1 u1 hg1 hs1 q1 B1
  have q := q1
  refine go T_ok 200 rfl ?_
  repeat (first | (refine ldA T_ok rfl rfl rfl rfl rfl (Bk.all B1) ?_; refine go T_ok 200 rfl ?_) | (refine ld T_ok rfl rfl rfl rfl (Bk.get B1 rfl) ?_; refine go T_ok 200 rfl ?_) | (refine guardA (b := true) rfl rfl rfl rfl (fun _ => ?_) (fun e => by cases e); refine go T_ok 200 rfl ?_) | (refine guardA (b := false) rfl rfl rfl rfl (fun e => by cases e) (fun _ => ?_); refine go T_ok 200 rfl ?_) | (refine condT rfl rfl ?_; refine go T_ok 200 rfl ?_) | (refine condF rfl rfl ?_; refine go T_ok 200 rfl ?_))
  refine guardD rfl rfl rfl (fun h1 => ?_) (fun h1 => ?_)
  · refine go T_ok 200 rfl ?_
    repeat (first | (refine ldA T_ok rfl rfl rfl rfl rfl (Bk.all B1) ?_; refine go T_ok 200 rfl ?_) | (refine ld T_ok rfl rfl rfl rfl (Bk.get B1 rfl) ?_; refine go T_ok 200 rfl ?_) | (refine guardA (b := true) rfl rfl rfl rfl (fun _ => ?_) (fun e => by cases e); refine go T_ok 200 rfl ?_) | (refine guardA (b := false) rfl rfl rfl rfl (fun e => by cases e) (fun _ => ?_); refine go T_ok 200 rfl ?_) | (refine condT rfl rfl ?_; refine go T_ok 200 rfl ?_) | (refine condF rfl rfl ?_; refine go T_ok 200 rfl ?_))
    refine guardD rfl rfl rfl (fun h2 => ?_) (fun h2 => ?_)
    · refine go T_ok 200 rfl ?_
      repeat (first | (refine ldA T_ok rfl rfl rfl rfl rfl (Bk.all B1) ?_; refine go T_ok 200 rfl ?_) | (refine ld T_ok rfl rfl rfl rfl (Bk.get B1 rfl) ?_; refine go T_ok 200 rfl ?_) | (refine guardA (b := true) rfl rfl rfl rfl (fun _ => ?_) (fun e => by cases e); refine go T_ok 200 rfl ?_) | (refine guardA (b := false) rfl rfl rfl rfl (fun e => by cases e) (fun _ => ?_); refine go T_ok 200 rfl ?_) | (refine condT rfl rfl ?_; refine go T_ok 200 rfl ?_) | (refine condF rfl rfl ?_; refine go T_ok 200 rfl ?_))
      refine ret (ret1 (v := .bool _) Try.results31 rfl ⟨congrArg Value.bool ?_, q⟩)
      rw [Bool.eq_iff_iff, decide_eq_true_iff, decide_eq_true_iff]
      unfold SpOk
      exact ⟨fun h' => ⟨h1, h2, h'⟩, fun h' => h'.2.2⟩
    · skip
      refine go T_ok 200 rfl ?_
      repeat (first | (refine guardA (b := true) rfl rfl rfl rfl (fun _ => ?_) (fun e => by cases e); refine go T_ok 200 rfl ?_) | (refine guardA (b := false) rfl rfl rfl rfl (fun e => by cases e) (fun _ => ?_); refine go T_ok 200 rfl ?_) | (refine condT rfl rfl ?_; refine go T_ok 200 rfl ?_) | (refine condF rfl rfl ?_; refine go T_ok 200 rfl ?_))
      exact ret (ret1 (v := .bool false) Try.results31 rfl ⟨congrArg Value.bool (decide_eq_false fun h' => h2 h'.2.1).symm, q⟩)
  · skip
    refine go T_ok 200 rfl ?_
    repeat (first | (refine guardA (b := true) rfl rfl rfl rfl (fun _ => ?_) (fun e => by cases e); refine go T_ok 200 rfl ?_) | (refine guardA (b := false) rfl rfl rfl rfl (fun e => by cases e) (fun _ => ?_); refine go T_ok 200 rfl ?_) | (refine condT rfl rfl ?_; refine go T_ok 200 rfl ?_) | (refine condF rfl rfl ?_; refine go T_ok 200 rfl ?_))
    exact ret (ret1 (v := .bool false) Try.results31 rfl ⟨congrArg Value.bool (decide_eq_false fun h' => h1 h'.1).symm, q⟩)
end Go.Proofs.Ytolhfimknimliaa
