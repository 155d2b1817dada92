/- The contracts of the small functions of layer 5: spans, tables. -/
import Derived.Test.YtolhfimknimliaaChecked
import Derived.Test.YtolhfimknimliaaEM
import Derived.Test.YtolhfimknimliaaS1
namespace Go.Proofs.Ytolhfimknimliaa
open Go.Ev Go.Proofs Go.Top
attribute [local irreducible] At AtH

def T : Tab := [(3, .one), (4, .one), (31, .one), (27, .slc 85 3 24), (83, .slc 135 3 24), (42, .slc 110 3 24), (24, .str 2 [(0,1,false),(1,1,false)] [.int .i64 0, .int .i64 0]),
  (85, .str 3 [(0,1,false),(1,2,true)] [.int .i64 0, .int .i64 0, .int .i64 0]),
  (135, .str 3 [(0,1,false),(1,2,true)] [.int .i64 0, .int .i64 0, .int .i64 0]),
  (110, .str 3 [(0,1,false),(1,2,true)] [.int .i64 0, .int .i64 0, .int .i64 0])]
theorem T_ok : tabOk Try.prog T = true := by kernel_rfl
theorem callables : (List.range 123).all (fun f => Nat.blt f 3 || callable Try.prog f) = true := by kernel_rfl
set_option maxRecDepth 10000 in
theorem ok (f : Nat) (h : Nat.ble f 122 = true) (h3 : Nat.ble 3 f = true) : callable Try.prog f = true := by
  have := List.all_eq_true.1 callables f (List.mem_range.2 (Nat.lt_succ_of_le (Nat.le_of_ble_eq_true h)))
  rw [show Nat.blt f 3 = false from by have := Nat.le_of_ble_eq_true h3; cases hb : Nat.blt f 3 with | false => rfl | true => have := Nat.blt_eq.mp hb; omega] at this
  exact this
theorem mixed : Try.prog.follows .mixedOrders = true := by kernel_rfl
abbrev I (x : Int) : Value := .int .i64 x
def spL (s : Int × Int) : List Value := [I s.1, I s.2]
def rwL (r : Rw) : List Value := [I r.k, I r.lo, I r.hi]
theorem rwL_len (r : Rw) : (rwL r).length = 3 := rfl
theorem bk_sp {w : World} {g t : Nat} {r : Rw} (h : Bk w g t (rwL r)) : cellsAt w g 1 (spL (r.lo, r.hi)) := h.cells 1 _ fun j v hv => by
  match j with
  | 0 => simpa [rwL, spL] using hv
  | 1 => simpa [rwL, spL] using hv
  | j + 2 => simp [spL] at hv
theorem within_any (x lo hi : Int) (w : World) : Ret Try.prog 55 [.int .i64 x, .int .i64 lo, .int .i64 hi] w fun v w' => v = .bool (decide (lo ≤ x ∧ x ≤ hi)) ∧ w = w' := by
  refine enter Try.func55 rfl Try.ntmps55 rfl ?_
  refine go T_ok 200 rfl ?_
  refine guardD rfl rfl rfl (fun h => ?_) (fun h => ?_)
  all_goals refine go T_ok 100 rfl ?_
  all_goals refine ret (ret1 (v := .bool _) Try.results55 rfl ?_)
  all_goals simp [h]
instance (s : Int × Int) (l h : Int) : Decidable (SpOk s l h) := by unfold SpOk; infer_instance
theorem spanned_any (s : Int × Int) (lo hi : Int) (w : World) : Ret Try.prog 59 [.agg (spL s).toArray, .int .i64 lo, .int .i64 hi] w fun v w' => v = .bool (decide (SpOk s lo hi)) ∧ Chg No w w' := by
  refine enter Try.func59 rfl Try.ntmps59 rfl ?_
  refine go T_ok 200 rfl ?_
  refine bx rfl rfl rfl (cs := spL s) rfl ?_
  intro g1 u1 hg1 hs1 q1 B1
  have q := q1
  refine go T_ok 200 rfl ?_
  repeat (first | (refine ldA T_ok rfl rfl rfl rfl rfl (Bk.all B1) ?_; refine go T_ok 200 rfl ?_) | (refine ld T_ok rfl rfl rfl rfl (Bk.get B1 rfl) ?_; refine go T_ok 200 rfl ?_) | (refine guardA (b := true) rfl rfl rfl rfl (fun _ => ?_) (fun e => by cases e); refine go T_ok 200 rfl ?_) | (refine guardA (b := false) rfl rfl rfl rfl (fun e => by cases e) (fun _ => ?_); refine go T_ok 200 rfl ?_) | (refine condT rfl rfl ?_; refine go T_ok 200 rfl ?_) | (refine condF rfl rfl ?_; refine go T_ok 200 rfl ?_))
  refine call rfl rfl rfl (ok _ (by decide) rfl) (within_any s.1 lo s.2 _) ?_
  rintro x w ⟨rfl, rfl⟩
  refine go T_ok 200 rfl ?_
  refine guardD rfl rfl rfl (fun h => ?_) (fun h => ?_)
  · refine go T_ok 200 rfl ?_
    repeat (first | (refine ldA T_ok rfl rfl rfl rfl rfl (Bk.all B1) ?_; refine go T_ok 200 rfl ?_) | (refine ld T_ok rfl rfl rfl rfl (Bk.get B1 rfl) ?_; refine go T_ok 200 rfl ?_) | (refine guardA (b := true) rfl rfl rfl rfl (fun _ => ?_) (fun e => by cases e); refine go T_ok 200 rfl ?_) | (refine guardA (b := false) rfl rfl rfl rfl (fun e => by cases e) (fun _ => ?_); refine go T_ok 200 rfl ?_) | (refine condT rfl rfl ?_; refine go T_ok 200 rfl ?_) | (refine condF rfl rfl ?_; refine go T_ok 200 rfl ?_))
    refine ret (ret1 (v := .bool _) Try.results59 rfl ⟨congrArg Value.bool ?_, q⟩)
    rw [Bool.eq_iff_iff, decide_eq_true_iff, decide_eq_true_iff]
    unfold SpOk
    exact ⟨fun h' => ⟨h.1, h.2, h'⟩, fun h' => h'.2.2⟩
  · refine go T_ok 200 rfl ?_
    exact ret (ret1 (v := .bool false) Try.results59 rfl ⟨congrArg Value.bool (decide_eq_false fun h' => h ⟨h'.1, h'.2.1⟩).symm, q⟩)
theorem up_any (a b : Int × Int) (w : World) : Ret Try.prog 88 [.agg (spL a).toArray, .agg (spL b).toArray] w fun v w' => v = .bool (decide (a.1 ≤ b.1 ∧ a.2 ≤ b.2)) ∧ Chg No w w' := by
  refine enter Try.func88 rfl Try.ntmps88 rfl ?_
  refine go T_ok 200 rfl ?_
  refine bx rfl rfl rfl (cs := spL a) rfl ?_
  intro g1 u1 hg1 hs1 q1 B1
  refine go T_ok 200 rfl ?_
  refine bx rfl rfl rfl (cs := spL b) rfl ?_
  intro g2 u2 hg2 hs2 q2 B2
  have B1 := B1.no q2
  have q := q1.trans q2
  refine go T_ok 200 rfl ?_
  repeat (first | (refine ldA T_ok rfl rfl rfl rfl rfl (Bk.all B1) ?_; refine go T_ok 200 rfl ?_) | (refine ldA T_ok rfl rfl rfl rfl rfl (Bk.all B2) ?_; refine go T_ok 200 rfl ?_) | (refine ld T_ok rfl rfl rfl rfl (Bk.get B1 rfl) ?_; refine go T_ok 200 rfl ?_) | (refine ld T_ok rfl rfl rfl rfl (Bk.get B2 rfl) ?_; refine go T_ok 200 rfl ?_) | (refine guardA (b := true) rfl rfl rfl rfl (fun _ => ?_) (fun e => by cases e); refine go T_ok 200 rfl ?_) | (refine guardA (b := false) rfl rfl rfl rfl (fun e => by cases e) (fun _ => ?_); refine go T_ok 200 rfl ?_) | (refine condT rfl rfl ?_; refine go T_ok 200 rfl ?_) | (refine condF rfl rfl ?_; refine go T_ok 200 rfl ?_))
  refine guardD rfl rfl rfl (fun h => ?_) (fun h => ?_)
  · refine go T_ok 200 rfl ?_
    repeat (first | (refine ldA T_ok rfl rfl rfl rfl rfl (Bk.all B1) ?_; refine go T_ok 200 rfl ?_) | (refine ldA T_ok rfl rfl rfl rfl rfl (Bk.all B2) ?_; refine go T_ok 200 rfl ?_) | (refine ld T_ok rfl rfl rfl rfl (Bk.get B1 rfl) ?_; refine go T_ok 200 rfl ?_) | (refine ld T_ok rfl rfl rfl rfl (Bk.get B2 rfl) ?_; refine go T_ok 200 rfl ?_) | (refine guardA (b := true) rfl rfl rfl rfl (fun _ => ?_) (fun e => by cases e); refine go T_ok 200 rfl ?_) | (refine guardA (b := false) rfl rfl rfl rfl (fun e => by cases e) (fun _ => ?_); refine go T_ok 200 rfl ?_) | (refine condT rfl rfl ?_; refine go T_ok 200 rfl ?_) | (refine condF rfl rfl ?_; refine go T_ok 200 rfl ?_))
    refine ret (ret1 (v := .bool _) Try.results88 rfl ⟨congrArg Value.bool ?_, q⟩)
    rw [Bool.eq_iff_iff, decide_eq_true_iff, decide_eq_true_iff]
    exact ⟨fun h' => ⟨h, h'⟩, fun h' => h'.2⟩
  · refine go T_ok 200 rfl ?_
    exact ret (ret1 (v := .bool false) Try.results88 rfl ⟨congrArg Value.bool (decide_eq_false fun h' => h h'.1).symm, q⟩)
theorem down_any (a b : Int × Int) (w : World) : Ret Try.prog 103 [.agg (spL a).toArray, .agg (spL b).toArray] w fun v w' => v = .bool (decide (b.1 ≤ a.1 ∧ b.2 ≤ a.2)) ∧ Chg No w w' := by
  refine enter Try.func103 rfl Try.ntmps103 rfl ?_
  refine go T_ok 200 rfl ?_
  refine bx rfl rfl rfl (cs := spL a) rfl ?_
  intro g1 u1 hg1 hs1 q1 B1
  refine go T_ok 200 rfl ?_
  refine bx rfl rfl rfl (cs := spL b) rfl ?_
  intro g2 u2 hg2 hs2 q2 B2
  have B1 := B1.no q2
  have q := q1.trans q2
  refine go T_ok 200 rfl ?_
  repeat (first | (refine ldA T_ok rfl rfl rfl rfl rfl (Bk.all B1) ?_; refine go T_ok 200 rfl ?_) | (refine ldA T_ok rfl rfl rfl rfl rfl (Bk.all B2) ?_; refine go T_ok 200 rfl ?_) | (refine ld T_ok rfl rfl rfl rfl (Bk.get B1 rfl) ?_; refine go T_ok 200 rfl ?_) | (refine ld T_ok rfl rfl rfl rfl (Bk.get B2 rfl) ?_; refine go T_ok 200 rfl ?_) | (refine guardA (b := true) rfl rfl rfl rfl (fun _ => ?_) (fun e => by cases e); refine go T_ok 200 rfl ?_) | (refine guardA (b := false) rfl rfl rfl rfl (fun e => by cases e) (fun _ => ?_); refine go T_ok 200 rfl ?_) | (refine condT rfl rfl ?_; refine go T_ok 200 rfl ?_) | (refine condF rfl rfl ?_; refine go T_ok 200 rfl ?_))
  refine call rfl rfl rfl (ok _ (by decide) rfl) (up_any b a _) ?_
  rintro x w ⟨rfl, qk⟩
  have B1 := B1.no qk
  have B2 := B2.no qk
  have q := q.trans qk
  refine go T_ok 200 rfl ?_
  exact ret (ret1 (v := .bool _) Try.results103 rfl ⟨rfl, q⟩)
theorem keyR_any (r : Rw) (w : World) : Ret Try.prog 105 [.agg (rwL r).toArray] w fun v w' => v = I r.k ∧ Chg No w w' := by
  refine enter Try.func105 rfl Try.ntmps105 rfl ?_
  refine go T_ok 200 rfl ?_
  refine bx rfl rfl rfl (cs := rwL r) rfl ?_
  intro g1 u1 hg1 hs1 q1 B1
  have q := q1
  refine go T_ok 200 rfl ?_
  repeat (first | (refine ldA T_ok rfl rfl rfl rfl rfl (Bk.all B1) ?_; refine go T_ok 200 rfl ?_) | (refine ld T_ok rfl rfl rfl rfl (Bk.get B1 rfl) ?_; refine go T_ok 200 rfl ?_) | (refine guardA (b := true) rfl rfl rfl rfl (fun _ => ?_) (fun e => by cases e); refine go T_ok 200 rfl ?_) | (refine guardA (b := false) rfl rfl rfl rfl (fun e => by cases e) (fun _ => ?_); refine go T_ok 200 rfl ?_) | (refine condT rfl rfl ?_; refine go T_ok 200 rfl ?_) | (refine condF rfl rfl ?_; refine go T_ok 200 rfl ?_))
  exact ret (ret1 (v := .int .i64 _) Try.results105 rfl ⟨rfl, q⟩)
theorem spanR_any (r : Rw) (w : World) : Ret Try.prog 106 [.agg (rwL r).toArray] w fun v w' => v = .agg (spL (r.lo, r.hi)).toArray ∧ Chg No w w' := by
  refine enter Try.func106 rfl Try.ntmps106 rfl ?_
  refine go T_ok 200 rfl ?_
  refine bx rfl rfl rfl (cs := rwL r) rfl ?_
  intro g1 u1 hg1 hs1 q1 B1
  have q := q1
  refine go T_ok 200 rfl ?_
  refine nw rfl rfl (z := .agg #[I 0, I 0]) (by kernel_rfl) (cs := [I 0, I 0]) rfl ?_
  intro g2 w hg2 hs2 qk B2
  have B1 := B1.no qk
  have q := q.trans qk
  refine go T_ok 200 rfl ?_
  refine ldA T_ok rfl rfl rfl rfl rfl (bk_sp B1) ?_
  refine go T_ok 200 rfl ?_
  refine stA T_ok rfl rfl rfl rfl (vs := spL (r.lo, r.hi)) rfl rfl rfl B2 rfl ?_
  intro w' q3 B3 hs3
  refine go T_ok 200 rfl ?_
  have B3 : Bk w' g2 24 (spL (r.lo, r.hi)) := B3
  have y1 := q1.size
  refine ret (retR1 Try.results106 (resA T_ok rfl rfl rfl B3.all) ⟨rfl, q.step q3 (fun k hk e => by omega)⟩)
theorem keyF_any (r : Rw) (w : World) : Ret Try.prog 101 [.agg (rwL r).toArray] w fun v w' => v = I r.k ∧ Chg No w w' := by
  refine enter Try.func101 rfl Try.ntmps101 rfl ?_
  refine go T_ok 200 rfl ?_
  refine bx rfl rfl rfl (cs := rwL r) rfl ?_
  intro g1 u1 hg1 hs1 q1 B1
  have q := q1
  refine go T_ok 200 rfl ?_
  repeat (first | (refine ldA T_ok rfl rfl rfl rfl rfl (Bk.all B1) ?_; refine go T_ok 200 rfl ?_) | (refine ld T_ok rfl rfl rfl rfl (Bk.get B1 rfl) ?_; refine go T_ok 200 rfl ?_) | (refine guardA (b := true) rfl rfl rfl rfl (fun _ => ?_) (fun e => by cases e); refine go T_ok 200 rfl ?_) | (refine guardA (b := false) rfl rfl rfl rfl (fun e => by cases e) (fun _ => ?_); refine go T_ok 200 rfl ?_) | (refine condT rfl rfl ?_; refine go T_ok 200 rfl ?_) | (refine condF rfl rfl ?_; refine go T_ok 200 rfl ?_))
  exact ret (ret1 (v := .int .i64 _) Try.results101 rfl ⟨rfl, q⟩)
theorem spanF_any (r : Rw) (w : World) : Ret Try.prog 102 [.agg (rwL r).toArray] w fun v w' => v = .agg (spL (r.lo, r.hi)).toArray ∧ Chg No w w' := by
  refine enter Try.func102 rfl Try.ntmps102 rfl ?_
  refine go T_ok 200 rfl ?_
  refine bx rfl rfl rfl (cs := rwL r) rfl ?_
  intro g1 u1 hg1 hs1 q1 B1
  have q := q1
  refine go T_ok 200 rfl ?_
  refine nw rfl rfl (z := .agg #[I 0, I 0]) (by kernel_rfl) (cs := [I 0, I 0]) rfl ?_
  intro g2 w hg2 hs2 qk B2
  have B1 := B1.no qk
  have q := q.trans qk
  refine go T_ok 200 rfl ?_
  refine ldA T_ok rfl rfl rfl rfl rfl (bk_sp B1) ?_
  refine go T_ok 200 rfl ?_
  refine stA T_ok rfl rfl rfl rfl (vs := spL (r.lo, r.hi)) rfl rfl rfl B2 rfl ?_
  intro w' q3 B3 hs3
  refine go T_ok 200 rfl ?_
  have B3 : Bk w' g2 24 (spL (r.lo, r.hi)) := B3
  have y1 := q1.size
  refine ret (retR1 Try.results102 (resA T_ok rfl rfl rfl B3.all) ⟨rfl, q.step q3 (fun k hk e => by omega)⟩)
theorem keyK_any (r : Rw) (w : World) : Ret Try.prog 86 [.agg (rwL r).toArray] w fun v w' => v = I r.k ∧ Chg No w w' := by
  refine enter Try.func86 rfl Try.ntmps86 rfl ?_
  refine go T_ok 200 rfl ?_
  refine bx rfl rfl rfl (cs := rwL r) rfl ?_
  intro g1 u1 hg1 hs1 q1 B1
  have q := q1
  refine go T_ok 200 rfl ?_
  repeat (first | (refine ldA T_ok rfl rfl rfl rfl rfl (Bk.all B1) ?_; refine go T_ok 200 rfl ?_) | (refine ld T_ok rfl rfl rfl rfl (Bk.get B1 rfl) ?_; refine go T_ok 200 rfl ?_) | (refine guardA (b := true) rfl rfl rfl rfl (fun _ => ?_) (fun e => by cases e); refine go T_ok 200 rfl ?_) | (refine guardA (b := false) rfl rfl rfl rfl (fun e => by cases e) (fun _ => ?_); refine go T_ok 200 rfl ?_) | (refine condT rfl rfl ?_; refine go T_ok 200 rfl ?_) | (refine condF rfl rfl ?_; refine go T_ok 200 rfl ?_))
  exact ret (ret1 (v := .int .i64 _) Try.results86 rfl ⟨rfl, q⟩)
theorem spanK_any (r : Rw) (w : World) : Ret Try.prog 87 [.agg (rwL r).toArray] w fun v w' => v = .agg (spL (r.lo, r.hi)).toArray ∧ Chg No w w' := by
  refine enter Try.func87 rfl Try.ntmps87 rfl ?_
  refine go T_ok 200 rfl ?_
  refine bx rfl rfl rfl (cs := rwL r) rfl ?_
  intro g1 u1 hg1 hs1 q1 B1
  have q := q1
  refine go T_ok 200 rfl ?_
  refine nw rfl rfl (z := .agg #[I 0, I 0]) (by kernel_rfl) (cs := [I 0, I 0]) rfl ?_
  intro g2 w hg2 hs2 qk B2
  have B1 := B1.no qk
  have q := q.trans qk
  refine go T_ok 200 rfl ?_
  refine ldA T_ok rfl rfl rfl rfl rfl (bk_sp B1) ?_
  refine go T_ok 200 rfl ?_
  refine stA T_ok rfl rfl rfl rfl (vs := spL (r.lo, r.hi)) rfl rfl rfl B2 rfl ?_
  intro w' q3 B3 hs3
  refine go T_ok 200 rfl ?_
  have B3 : Bk w' g2 24 (spL (r.lo, r.hi)) := B3
  have y1 := q1.size
  refine ret (retR1 Try.results87 (resA T_ok rfl rfl rfl B3.all) ⟨rfl, q.step q3 (fun k hk e => by omega)⟩)
end Go.Proofs.Ytolhfimknimliaa
