/- The contracts of the small functions of layer 6. -/
import Derived.Test.YtkkjfjeniaiaiaaChecked
import Derived.Test.YtkkjfjeniaiaiaaE2
import Derived.Test.YtkkjfjeniaiaiaaS1
namespace Go.Proofs.Ytkkjfjeniaiaiaa
open Go.Ev Go.Proofs Go.Rock
attribute [local irreducible] At AtH

def T : Tab := [(3, .one), (4, .one), (29, .one), (35, .one), (109, .one), (113, .one), (120, .one), (121, .one), (132, .one), (137, .one),
  (24, .slc 3 1 8), (28, .slc 59 2 16), (39, .slc 85 3 24), (43, .slc 89 3 24), (70, .slc 72 2 16), (92, .slc 26 6 48), (106, .slc 124 3 24), (131, .slc 109 1 8),
  (23, .str 4 [(0,1,false),(1,1,false),(2,1,false),(3,1,false)] [.int .i64 0, .int .i64 0, .int .i64 0, .int .i64 0]),
  (26, .str 6 [(0,1,false),(1,1,false),(2,1,false),(3,1,false),(4,1,false),(5,1,false)] [.int .i64 0, .int .i64 0, .int .i64 0, .int .i64 0, .int .i64 0, .int .i64 0]),
  (59, .str 2 [(0,1,false),(1,1,false)] [.int .i64 0, .int .i64 0]), (72, .str 2 [(0,1,false),(1,1,false)] [.int .i64 0, .int .i64 0]),
  (85, .str 3 [(0,1,false),(1,1,false),(2,1,false)] [.int .i64 0, .int .i64 0, .int .i64 0]), (100, .str 3 [(0,1,false),(1,1,false),(2,1,false)] [.int .i64 0, .int .i64 0, .int .i64 0]),
  (124, .str 3 [(0,1,false),(1,1,false),(2,1,false)] [.int .i64 0, .int .i64 0, .int .i64 0]), (89, .str 3 [(0,1,false),(1,2,true)] [.int .i64 0, .int .i64 0, .int .i64 0]),
  (103, .str 14 [(0,4,true),(4,9,true),(13,1,false)] [.int .i64 0, .int .i64 0, .int .i64 0, .int .i64 0, .int .i64 0, .int .i64 0, .int .i64 0, .int .i64 0, .int .i64 0, .int .i64 0, .int .i64 0, .int .i64 0, .int .i64 0, .int .i64 0]),
  (115, .str 6 [(0,4,true),(4,1,false),(5,1,false)] [.int .i64 0, .int .i64 0, .int .i64 0, .int .i64 0, .int .i64 0, .slice none 0 0]),
  (101, .arr 3 3 true), (128, .arr 2 1 false), (130, .arr 3 1 false)]
theorem T_ok : tabOk Try.prog T = true := by kernel_rfl
theorem callables : (List.range 95).all (fun f => Nat.blt f 3 || callable Try.prog f) = true := by kernel_rfl
theorem ok (f : Nat) (h : f < 95) (h3 : Nat.blt f 3 = false) : callable Try.prog f = true := by
  have := List.all_eq_true.1 callables f (List.mem_range.2 h)
  rw [h3] at this
  exact this
theorem mixed : Try.prog.follows .mixedOrders = true := by kernel_rfl

/-! ### Values -/
abbrev I (x : Int) : Value := .int .i64 x
def vL (v : Vo) : List Value := [I v.nx, I v.ny, I v.nz, I v.sz]
def rL (r : Ra) : List Value := [I r.x, I r.y, I r.z, I r.dx, I r.dy, I r.dz]
def pL (p : Pc) : List Value := [I p.c, I p.a, I p.u]
def cL (p : Int × Int) : List Value := [I p.1, I p.2]
def aL (v : Vo) (r : Ra) : List Value := [I r.x, I r.dx, I v.nx, I r.y, I r.dy, I v.ny, I r.z, I r.dz, I v.nz]
def wL (v : Vo) (r : Ra) : List Value := vL v ++ (aL v r ++ [I (tk r)])

theorem in_any (x lo hi : Int) (w : World) : Ret Try.prog 65 [.int .i64 x, .int .i64 lo, .int .i64 hi] w fun v w' => v = .bool (decide (lo ≤ x ∧ x ≤ hi)) ∧ w = w' := by
  refine enter Try.func65 rfl Try.ntmps65 rfl ?_
  refine go T_ok 200 rfl ?_
  refine guardD rfl rfl rfl (fun h => ?_) (fun h => ?_)
  all_goals refine go T_ok 100 rfl ?_
  all_goals refine ret (ret1 (v := .bool _) Try.results65 rfl ?_)
  all_goals simp [h]
theorem rin_any (x lo hi : Int) (w : World) : Ret Try.prog 68 [.int .i64 x, .int .i64 lo, .int .i64 hi] w fun v w' => v = .bool (decide (lo ≤ x ∧ x ≤ hi)) ∧ w = w' := by
  refine enter Try.func68 rfl Try.ntmps68 rfl ?_
  refine go T_ok 200 rfl ?_
  refine guardD rfl rfl rfl (fun h => ?_) (fun h => ?_)
  all_goals refine go T_ok 100 rfl ?_
  all_goals refine ret (ret1 (v := .bool _) Try.results68 rfl ?_)
  all_goals simp [h]

set_option maxHeartbeats 4000000 in
theorem volume_any (v : Vo) (w : World) : Ret Try.prog 58 [.agg (vL v).toArray] w fun x w' => x = .bool (decide (VoOk v)) ∧ Chg No w w' := by
  refine enter Try.func58 rfl Try.ntmps58 rfl ?_
  refine go T_ok 200 rfl ?_
  refine bx rfl rfl rfl (cs := vL v) rfl ?_
  intro g1 u1 hg1 hs1 q1 B1
  refine go T_ok 200 rfl ?_
  repeat (first | (refine ld T_ok rfl rfl rfl rfl (Bk.get B1 rfl) ?_; refine go T_ok 200 rfl ?_) | (refine guardA (b := true) rfl rfl rfl rfl (fun _ => ?_) (fun e => by cases e); refine go T_ok 200 rfl ?_) | (refine guardA (b := false) rfl rfl rfl rfl (fun e => by cases e) (fun _ => ?_); refine go T_ok 200 rfl ?_) | (refine condT rfl rfl ?_; refine go T_ok 200 rfl ?_) | (refine condF rfl rfl ?_; refine go T_ok 200 rfl ?_))
  refine call rfl rfl rfl (ok _ (by decide) rfl) (in_any _ _ _ _) ?_
  rintro x w' ⟨rfl, rfl⟩
  refine go T_ok 200 rfl ?_
  refine guardD rfl rfl rfl (fun h1 => ?_) (fun h1 => ?_)
  · refine go T_ok 200 rfl ?_
    repeat (first | (refine ld T_ok rfl rfl rfl rfl (Bk.get B1 rfl) ?_; refine go T_ok 200 rfl ?_) | (refine guardA (b := true) rfl rfl rfl rfl (fun _ => ?_) (fun e => by cases e); refine go T_ok 200 rfl ?_) | (refine guardA (b := false) rfl rfl rfl rfl (fun e => by cases e) (fun _ => ?_); refine go T_ok 200 rfl ?_) | (refine condT rfl rfl ?_; refine go T_ok 200 rfl ?_) | (refine condF rfl rfl ?_; refine go T_ok 200 rfl ?_))
    refine call rfl rfl rfl (ok _ (by decide) rfl) (in_any _ _ _ _) ?_
    rintro x w' ⟨rfl, rfl⟩
    refine go T_ok 200 rfl ?_
    refine guardD rfl rfl rfl (fun h2 => ?_) (fun h2 => ?_)
    · refine go T_ok 200 rfl ?_
      repeat (first | (refine ld T_ok rfl rfl rfl rfl (Bk.get B1 rfl) ?_; refine go T_ok 200 rfl ?_) | (refine guardA (b := true) rfl rfl rfl rfl (fun _ => ?_) (fun e => by cases e); refine go T_ok 200 rfl ?_) | (refine guardA (b := false) rfl rfl rfl rfl (fun e => by cases e) (fun _ => ?_); refine go T_ok 200 rfl ?_) | (refine condT rfl rfl ?_; refine go T_ok 200 rfl ?_) | (refine condF rfl rfl ?_; refine go T_ok 200 rfl ?_))
      refine call rfl rfl rfl (ok _ (by decide) rfl) (in_any _ _ _ _) ?_
      rintro x w' ⟨rfl, rfl⟩
      refine go T_ok 200 rfl ?_
      refine guardD rfl rfl rfl (fun h3 => ?_) (fun h3 => ?_)
      · refine go T_ok 200 rfl ?_
        repeat (first | (refine ld T_ok rfl rfl rfl rfl (Bk.get B1 rfl) ?_; refine go T_ok 200 rfl ?_) | (refine guardA (b := true) rfl rfl rfl rfl (fun _ => ?_) (fun e => by cases e); refine go T_ok 200 rfl ?_) | (refine guardA (b := false) rfl rfl rfl rfl (fun e => by cases e) (fun _ => ?_); refine go T_ok 200 rfl ?_) | (refine condT rfl rfl ?_; refine go T_ok 200 rfl ?_) | (refine condF rfl rfl ?_; refine go T_ok 200 rfl ?_))
        have m1 := mul_bd (by omega : 0 ≤ v.nx) (by omega : 0 ≤ v.ny) h1.2 h2.2
        have m2 := mul_bd m1.1 (by omega : 0 ≤ v.nz) m1.2 h3.2
        have e1 : w64 (v.nx * v.ny) = v.nx * v.ny := w64_id (by omega) (by omega)
        have e2 : w64 (v.nx * v.ny * v.nz) = v.nx * v.ny * v.nz := w64_id (by omega) (by omega)
        rw [e1, e2]
        refine guardD rfl rfl rfl (fun h4 => ?_) (fun h4 => ?_)
        · refine go T_ok 200 rfl ?_
          repeat (first | (refine ld T_ok rfl rfl rfl rfl (Bk.get B1 rfl) ?_; refine go T_ok 200 rfl ?_) | (refine guardA (b := true) rfl rfl rfl rfl (fun _ => ?_) (fun e => by cases e); refine go T_ok 200 rfl ?_) | (refine guardA (b := false) rfl rfl rfl rfl (fun e => by cases e) (fun _ => ?_); refine go T_ok 200 rfl ?_) | (refine condT rfl rfl ?_; refine go T_ok 200 rfl ?_) | (refine condF rfl rfl ?_; refine go T_ok 200 rfl ?_))
          refine call rfl rfl rfl (ok _ (by decide) rfl) (in_any _ _ _ _) ?_
          rintro x w' ⟨rfl, rfl⟩
          refine go T_ok 200 rfl ?_
          refine ret (ret1 (v := .bool _) Try.results58 rfl ⟨congrArg Value.bool (decide_eq_decide.2 ?_), q1⟩)
          exact ⟨fun h5 => ⟨h1, h2, h3, h4, h5⟩, fun h5 => h5.2.2.2.2⟩
        · refine go T_ok 200 rfl ?_
          repeat (first | (refine guardA (b := true) rfl rfl rfl rfl (fun _ => ?_) (fun e => by cases e); refine go T_ok 200 rfl ?_) | (refine guardA (b := false) rfl rfl rfl rfl (fun e => by cases e) (fun _ => ?_); refine go T_ok 200 rfl ?_) | (refine condT rfl rfl ?_; refine go T_ok 200 rfl ?_) | (refine condF rfl rfl ?_; refine go T_ok 200 rfl ?_))
          exact ret (ret1 (v := .bool false) Try.results58 rfl ⟨congrArg Value.bool (decide_eq_false fun h => h4 h.2.2.2.1).symm, q1⟩)
      · refine go T_ok 200 rfl ?_
        repeat (first | (refine guardA (b := true) rfl rfl rfl rfl (fun _ => ?_) (fun e => by cases e); refine go T_ok 200 rfl ?_) | (refine guardA (b := false) rfl rfl rfl rfl (fun e => by cases e) (fun _ => ?_); refine go T_ok 200 rfl ?_) | (refine condT rfl rfl ?_; refine go T_ok 200 rfl ?_) | (refine condF rfl rfl ?_; refine go T_ok 200 rfl ?_))
        exact ret (ret1 (v := .bool false) Try.results58 rfl ⟨congrArg Value.bool (decide_eq_false fun h => h3 h.2.2.1).symm, q1⟩)
    · refine go T_ok 200 rfl ?_
      repeat (first | (refine guardA (b := true) rfl rfl rfl rfl (fun _ => ?_) (fun e => by cases e); refine go T_ok 200 rfl ?_) | (refine guardA (b := false) rfl rfl rfl rfl (fun e => by cases e) (fun _ => ?_); refine go T_ok 200 rfl ?_) | (refine condT rfl rfl ?_; refine go T_ok 200 rfl ?_) | (refine condF rfl rfl ?_; refine go T_ok 200 rfl ?_))
      exact ret (ret1 (v := .bool false) Try.results58 rfl ⟨congrArg Value.bool (decide_eq_false fun h => h2 h.2.1).symm, q1⟩)
  · refine go T_ok 200 rfl ?_
    repeat (first | (refine guardA (b := true) rfl rfl rfl rfl (fun _ => ?_) (fun e => by cases e); refine go T_ok 200 rfl ?_) | (refine guardA (b := false) rfl rfl rfl rfl (fun e => by cases e) (fun _ => ?_); refine go T_ok 200 rfl ?_) | (refine condT rfl rfl ?_; refine go T_ok 200 rfl ?_) | (refine condF rfl rfl ?_; refine go T_ok 200 rfl ?_))
    exact ret (ret1 (v := .bool false) Try.results58 rfl ⟨congrArg Value.bool (decide_eq_false fun h => h1 h.1).symm, q1⟩)
set_option maxHeartbeats 4000000 in
theorem rVolume_any (v : Vo) (w : World) : Ret Try.prog 21 [.agg (vL v).toArray] w fun x w' => x = .bool (decide (VoOk v)) ∧ Chg No w w' := by
  refine enter Try.func21 rfl Try.ntmps21 rfl ?_
  refine go T_ok 200 rfl ?_
  refine bx rfl rfl rfl (cs := vL v) rfl ?_
  intro g1 u1 hg1 hs1 q1 B1
  refine go T_ok 200 rfl ?_
  repeat (first | (refine ld T_ok rfl rfl rfl rfl (Bk.get B1 rfl) ?_; refine go T_ok 200 rfl ?_) | (refine guardA (b := true) rfl rfl rfl rfl (fun _ => ?_) (fun e => by cases e); refine go T_ok 200 rfl ?_) | (refine guardA (b := false) rfl rfl rfl rfl (fun e => by cases e) (fun _ => ?_); refine go T_ok 200 rfl ?_) | (refine condT rfl rfl ?_; refine go T_ok 200 rfl ?_) | (refine condF rfl rfl ?_; refine go T_ok 200 rfl ?_))
  refine call rfl rfl rfl (ok _ (by decide) rfl) (rin_any _ _ _ _) ?_
  rintro x w' ⟨rfl, rfl⟩
  refine go T_ok 200 rfl ?_
  refine guardD rfl rfl rfl (fun h1 => ?_) (fun h1 => ?_)
  · refine go T_ok 200 rfl ?_
    repeat (first | (refine ld T_ok rfl rfl rfl rfl (Bk.get B1 rfl) ?_; refine go T_ok 200 rfl ?_) | (refine guardA (b := true) rfl rfl rfl rfl (fun _ => ?_) (fun e => by cases e); refine go T_ok 200 rfl ?_) | (refine guardA (b := false) rfl rfl rfl rfl (fun e => by cases e) (fun _ => ?_); refine go T_ok 200 rfl ?_) | (refine condT rfl rfl ?_; refine go T_ok 200 rfl ?_) | (refine condF rfl rfl ?_; refine go T_ok 200 rfl ?_))
    refine call rfl rfl rfl (ok _ (by decide) rfl) (rin_any _ _ _ _) ?_
    rintro x w' ⟨rfl, rfl⟩
    refine go T_ok 200 rfl ?_
    refine guardD rfl rfl rfl (fun h2 => ?_) (fun h2 => ?_)
    · refine go T_ok 200 rfl ?_
      repeat (first | (refine ld T_ok rfl rfl rfl rfl (Bk.get B1 rfl) ?_; refine go T_ok 200 rfl ?_) | (refine guardA (b := true) rfl rfl rfl rfl (fun _ => ?_) (fun e => by cases e); refine go T_ok 200 rfl ?_) | (refine guardA (b := false) rfl rfl rfl rfl (fun e => by cases e) (fun _ => ?_); refine go T_ok 200 rfl ?_) | (refine condT rfl rfl ?_; refine go T_ok 200 rfl ?_) | (refine condF rfl rfl ?_; refine go T_ok 200 rfl ?_))
      refine call rfl rfl rfl (ok _ (by decide) rfl) (rin_any _ _ _ _) ?_
      rintro x w' ⟨rfl, rfl⟩
      refine go T_ok 200 rfl ?_
      refine guardD rfl rfl rfl (fun h3 => ?_) (fun h3 => ?_)
      · refine go T_ok 200 rfl ?_
        repeat (first | (refine ld T_ok rfl rfl rfl rfl (Bk.get B1 rfl) ?_; refine go T_ok 200 rfl ?_) | (refine guardA (b := true) rfl rfl rfl rfl (fun _ => ?_) (fun e => by cases e); refine go T_ok 200 rfl ?_) | (refine guardA (b := false) rfl rfl rfl rfl (fun e => by cases e) (fun _ => ?_); refine go T_ok 200 rfl ?_) | (refine condT rfl rfl ?_; refine go T_ok 200 rfl ?_) | (refine condF rfl rfl ?_; refine go T_ok 200 rfl ?_))
        have m1 := mul_bd (by omega : 0 ≤ v.nx) (by omega : 0 ≤ v.ny) h1.2 h2.2
        have m2 := mul_bd m1.1 (by omega : 0 ≤ v.nz) m1.2 h3.2
        have e1 : w64 (v.nx * v.ny) = v.nx * v.ny := w64_id (by omega) (by omega)
        have e2 : w64 (v.nx * v.ny * v.nz) = v.nx * v.ny * v.nz := w64_id (by omega) (by omega)
        rw [e1, e2]
        refine guardD rfl rfl rfl (fun h4 => ?_) (fun h4 => ?_)
        · refine go T_ok 200 rfl ?_
          repeat (first | (refine ld T_ok rfl rfl rfl rfl (Bk.get B1 rfl) ?_; refine go T_ok 200 rfl ?_) | (refine guardA (b := true) rfl rfl rfl rfl (fun _ => ?_) (fun e => by cases e); refine go T_ok 200 rfl ?_) | (refine guardA (b := false) rfl rfl rfl rfl (fun e => by cases e) (fun _ => ?_); refine go T_ok 200 rfl ?_) | (refine condT rfl rfl ?_; refine go T_ok 200 rfl ?_) | (refine condF rfl rfl ?_; refine go T_ok 200 rfl ?_))
          refine call rfl rfl rfl (ok _ (by decide) rfl) (rin_any _ _ _ _) ?_
          rintro x w' ⟨rfl, rfl⟩
          refine go T_ok 200 rfl ?_
          refine ret (ret1 (v := .bool _) Try.results21 rfl ⟨congrArg Value.bool (decide_eq_decide.2 ?_), q1⟩)
          exact ⟨fun h5 => ⟨h1, h2, h3, h4, h5⟩, fun h5 => h5.2.2.2.2⟩
        · refine go T_ok 200 rfl ?_
          repeat (first | (refine guardA (b := true) rfl rfl rfl rfl (fun _ => ?_) (fun e => by cases e); refine go T_ok 200 rfl ?_) | (refine guardA (b := false) rfl rfl rfl rfl (fun e => by cases e) (fun _ => ?_); refine go T_ok 200 rfl ?_) | (refine condT rfl rfl ?_; refine go T_ok 200 rfl ?_) | (refine condF rfl rfl ?_; refine go T_ok 200 rfl ?_))
          exact ret (ret1 (v := .bool false) Try.results21 rfl ⟨congrArg Value.bool (decide_eq_false fun h => h4 h.2.2.2.1).symm, q1⟩)
      · refine go T_ok 200 rfl ?_
        repeat (first | (refine guardA (b := true) rfl rfl rfl rfl (fun _ => ?_) (fun e => by cases e); refine go T_ok 200 rfl ?_) | (refine guardA (b := false) rfl rfl rfl rfl (fun e => by cases e) (fun _ => ?_); refine go T_ok 200 rfl ?_) | (refine condT rfl rfl ?_; refine go T_ok 200 rfl ?_) | (refine condF rfl rfl ?_; refine go T_ok 200 rfl ?_))
        exact ret (ret1 (v := .bool false) Try.results21 rfl ⟨congrArg Value.bool (decide_eq_false fun h => h3 h.2.2.1).symm, q1⟩)
    · refine go T_ok 200 rfl ?_
      repeat (first | (refine guardA (b := true) rfl rfl rfl rfl (fun _ => ?_) (fun e => by cases e); refine go T_ok 200 rfl ?_) | (refine guardA (b := false) rfl rfl rfl rfl (fun e => by cases e) (fun _ => ?_); refine go T_ok 200 rfl ?_) | (refine condT rfl rfl ?_; refine go T_ok 200 rfl ?_) | (refine condF rfl rfl ?_; refine go T_ok 200 rfl ?_))
      exact ret (ret1 (v := .bool false) Try.results21 rfl ⟨congrArg Value.bool (decide_eq_false fun h => h2 h.2.1).symm, q1⟩)
  · refine go T_ok 200 rfl ?_
    repeat (first | (refine guardA (b := true) rfl rfl rfl rfl (fun _ => ?_) (fun e => by cases e); refine go T_ok 200 rfl ?_) | (refine guardA (b := false) rfl rfl rfl rfl (fun e => by cases e) (fun _ => ?_); refine go T_ok 200 rfl ?_) | (refine condT rfl rfl ?_; refine go T_ok 200 rfl ?_) | (refine condF rfl rfl ?_; refine go T_ok 200 rfl ?_))
    exact ret (ret1 (v := .bool false) Try.results21 rfl ⟨congrArg Value.bool (decide_eq_false fun h => h1 h.1).symm, q1⟩)
end Go.Proofs.Ytkkjfjeniaiaiaa
