/- The contracts of the small functions of layer 6: rays, ticks. -/
import Derived.Test.YtkkjfjeniaiaiaaC1
namespace Go.Proofs.Ytkkjfjeniaiaiaa
open Go.Ev Go.Proofs Go.Rock
attribute [local irreducible] At AtH

theorem raOk_iff (r : Ra) : RaOk r ↔ (∀ a ∈ [r.x, r.y, r.z], -100000 ≤ a ∧ a ≤ 100000) ∧ (∀ a ∈ [r.dx, r.dy, r.dz], -60 ≤ a ∧ a ≤ 60) ∧ (r.dx ≠ 0 ∨ r.dy ≠ 0 ∨ r.dz ≠ 0) := by
  unfold RaOk
  simp only [List.forall_mem_cons, List.not_mem_nil, false_implies, implies_true, and_true]
  constructor
  · rintro ⟨h1, h2, h3, h4, h5, h6, h7⟩; exact ⟨⟨h1, h2, h3⟩, ⟨h4, h5, h6⟩, h7⟩
  · rintro ⟨⟨h1, h2, h3⟩, ⟨h4, h5, h6⟩, h7⟩; exact ⟨h1, h2, h3, h4, h5, h6, h7⟩
theorem take_snoc {α : Type} {l : List α} {j : Nat} {a : α} (h : l[j]? = some a) : l.take (j + 1) = l.take j ++ [a] := by
  rw [List.take_add_one, h]; rfl
theorem get3 (x y z : Int) {j : Nat} (h : j < 3) : ∃ a, [x, y, z][j]? = some a ∧ ([x, y, z].map (Value.int .i64))[j * 1]? = some (.int .i64 a) := by
  refine ⟨[x, y, z][j], List.getElem?_eq_getElem h, ?_⟩
  rw [Nat.mul_one, List.getElem?_map, List.getElem?_eq_getElem h]
  rfl
theorem bld3 {n : Nat} {ρ : Env} {i j k : Nat} {x y z : Int} (h1 : ev n ρ (.tmp i) = I x) (h2 : ev n ρ (.tmp j) = I y) (h3 : ev n ρ (.tmp k) = I z) :
    Instr.fill (fun i => some (i * 1, 1)) (Value.agg #[I 0, I 0, I 0]).cells (([(0, Operand.tmp i), (1, Operand.tmp j), (2, Operand.tmp k)] : List (Nat × Operand)).map fun p => (p.1, ev n ρ p.2)) = some ([x, y, z].map (Value.int .i64)).toArray := by
  simp only [List.map_cons, List.map_nil, h1, h2, h3]
  rfl
set_option maxHeartbeats 4000000 in
theorem ray_any (r : Ra) (w : World) : Ret Try.prog 59 [.agg (rL r).toArray] w fun x w' => x = .bool (decide (RaOk r)) ∧ Chg No w w' := by
  refine enter Try.func59 rfl Try.ntmps59 rfl ?_
  refine go T_ok 200 rfl ?_
  refine bx rfl rfl rfl (cs := rL r) rfl ?_
  intro g1 u1 hg1 hs1 q1 B1
  refine go T_ok 200 rfl ?_
  repeat (first | (refine ld T_ok rfl rfl rfl rfl (Bk.get B1 rfl) ?_; refine go T_ok 200 rfl ?_) | (refine guardA (b := true) rfl rfl rfl rfl (fun _ => ?_) (fun e => by cases e); refine go T_ok 200 rfl ?_) | (refine guardA (b := false) rfl rfl rfl rfl (fun e => by cases e) (fun _ => ?_); refine go T_ok 200 rfl ?_) | (refine condT rfl rfl ?_; refine go T_ok 200 rfl ?_) | (refine condF rfl rfl ?_; refine go T_ok 200 rfl ?_))
  refine bldA T_ok rfl rfl rfl (z := .agg #[I 0, I 0, I 0]) (by kernel_rfl) (bld3 rfl rfl rfl) ?_
  refine go T_ok 200 rfl ?_
  refine loop [1, 13, 14] (fun j : Nat => [.pointer (some ⟨g1, 0, none⟩), .agg ([r.x, r.y, r.z].map (Value.int .i64)).toArray, .int .i64 (j : Int)])
    (fun j w' => j ≤ 3 ∧ Chg No u1 w' ∧ ∀ a ∈ [r.x, r.y, r.z].take j, -100000 ≤ a ∧ a ≤ 100000) (fun j => 3 - j) 0 (fun _ => rfl) rfl ⟨by omega, Chg.refl _ _, fun a h => by simp at h⟩ ?_
  rintro j τ w1 ⟨hj, q2, hI⟩
  refine go T_ok 200 rfl ?_
  refine condD rfl (fun hlt => ?_) (fun hlt => ?_)
  · have hlt : j < 3 := by omega
    obtain ⟨a, ha, ha'⟩ := get3 _ _ _ hlt
    refine go T_ok 200 rfl ?_
    refine ix1 T_ok rfl rfl rfl rfl rfl j rfl hlt ha' ?_
    refine go T_ok 200 rfl ?_
    refine call rfl rfl rfl (ok _ (by decide) rfl) (in_any _ _ _ _) ?_
    rintro x w' ⟨rfl, rfl⟩
    refine go T_ok 200 rfl ?_
    refine cond rfl (fun h => ?_) (fun h => ?_)
    · have h : ¬ (-100000 ≤ a ∧ a ≤ 100000) := fun hh => by simp [hh] at h
      refine go T_ok 200 rfl ?_
      exact ret (ret1 (v := .bool false) Try.results59 rfl ⟨congrArg Value.bool (decide_eq_false fun hr => h ((raOk_iff r).1 hr |>.1 a (List.mem_of_getElem? ha))).symm, q1.trans q2⟩)
    · have h : -100000 ≤ a ∧ a ≤ 100000 := by simpa using h
      refine go T_ok 200 rfl ?_
      have e1 : w64 ((j : Int) + 1) = ((j + 1 : Nat) : Int) := w64_id (by omega) (by omega)
      rw [e1]
      refine round ⟨j + 1, rfl, ⟨by omega, q2, fun b hb => ?_⟩, by omega⟩
      rw [take_snoc ha, List.mem_append, List.mem_singleton] at hb
      rcases hb with hb | rfl
      · exact hI b hb
      · exact h
  · have hj3 : j = 3 := by omega
    subst hj3
    have B2 := B1.no q2
    have q12 := q1.trans q2
    clear B1 q1 q2
    refine go T_ok 200 rfl ?_
    repeat (first | (refine ld T_ok rfl rfl rfl rfl (Bk.get B2 rfl) ?_; refine go T_ok 200 rfl ?_) | (refine guardA (b := true) rfl rfl rfl rfl (fun _ => ?_) (fun e => by cases e); refine go T_ok 200 rfl ?_) | (refine guardA (b := false) rfl rfl rfl rfl (fun e => by cases e) (fun _ => ?_); refine go T_ok 200 rfl ?_) | (refine condT rfl rfl ?_; refine go T_ok 200 rfl ?_) | (refine condF rfl rfl ?_; refine go T_ok 200 rfl ?_))
    refine bldA T_ok rfl rfl rfl (z := .agg #[I 0, I 0, I 0]) (by kernel_rfl) (bld3 rfl rfl rfl) ?_
    refine go T_ok 200 rfl ?_
    have q1 := q12
    have h1 : ∀ a ∈ [r.x, r.y, r.z], -100000 ≤ a ∧ a ≤ 100000 := hI
    clear hI
    refine loop [1, 27, 28] (fun j : Nat => [.pointer (some ⟨g1, 0, none⟩), .agg ([r.dx, r.dy, r.dz].map (Value.int .i64)).toArray, .int .i64 (j : Int)])
      (fun j w' => j ≤ 3 ∧ Chg No w1 w' ∧ ∀ a ∈ [r.dx, r.dy, r.dz].take j, -60 ≤ a ∧ a ≤ 60) (fun j => 3 - j) 0 (fun _ => rfl) rfl ⟨by omega, Chg.refl _ _, fun a h => by simp at h⟩ ?_
    rintro j τ w2 ⟨hj, q2, hI⟩
    refine go T_ok 200 rfl ?_
    refine condD rfl (fun hlt => ?_) (fun hlt => ?_)
    · have hlt : j < 3 := by omega
      obtain ⟨a, ha, ha'⟩ := get3 _ _ _ hlt
      refine go T_ok 200 rfl ?_
      refine ix1 T_ok rfl rfl rfl rfl rfl j rfl hlt ha' ?_
      refine go T_ok 200 rfl ?_
      refine call rfl rfl rfl (ok _ (by decide) rfl) (in_any _ _ _ _) ?_
      rintro x w' ⟨rfl, rfl⟩
      refine go T_ok 200 rfl ?_
      refine cond rfl (fun h => ?_) (fun h => ?_)
      · have h : ¬ (-60 ≤ a ∧ a ≤ 60) := fun hh => by simp [hh] at h
        refine go T_ok 200 rfl ?_
        exact ret (ret1 (v := .bool false) Try.results59 rfl ⟨congrArg Value.bool (decide_eq_false fun hr => h ((raOk_iff r).1 hr |>.2.1 a (List.mem_of_getElem? ha))).symm, q1.trans q2⟩)
      · have h : -60 ≤ a ∧ a ≤ 60 := by simpa using h
        refine go T_ok 200 rfl ?_
        have e1 : w64 ((j : Int) + 1) = ((j + 1 : Nat) : Int) := w64_id (by omega) (by omega)
        rw [e1]
        refine round ⟨j + 1, rfl, ⟨by omega, q2, fun b hb => ?_⟩, by omega⟩
        rw [take_snoc ha, List.mem_append, List.mem_singleton] at hb
        rcases hb with hb | rfl
        · exact hI b hb
        · exact h
    · have hj3 : j = 3 := by omega
      subst hj3
      have h2 : ∀ a ∈ [r.dx, r.dy, r.dz], -60 ≤ a ∧ a ≤ 60 := hI
      have B3 := B2.no q2
      have q13 := q1.trans q2
      have key : decide (RaOk r) = (r.dx != 0 || (r.dy != 0 || r.dz != 0)) := by
        rw [Bool.eq_iff_iff, decide_eq_true_iff, raOk_iff]
        simp [h1, h2]
      refine go T_ok 200 rfl ?_
      repeat (first | (refine ld T_ok rfl rfl rfl rfl (Bk.get B3 rfl) ?_; refine go T_ok 200 rfl ?_) | (refine guardA (b := true) rfl rfl rfl rfl (fun _ => ?_) (fun e => by cases e); refine go T_ok 200 rfl ?_) | (refine guardA (b := false) rfl rfl rfl rfl (fun e => by cases e) (fun _ => ?_); refine go T_ok 200 rfl ?_) | (refine condT rfl rfl ?_; refine go T_ok 200 rfl ?_) | (refine condF rfl rfl ?_; refine go T_ok 200 rfl ?_))
      refine guard rfl rfl rfl (fun h => ?_) (fun h => ?_)
      · refine go T_ok 200 rfl ?_
        repeat (first | (refine guardA (b := true) rfl rfl rfl rfl (fun _ => ?_) (fun e => by cases e); refine go T_ok 200 rfl ?_) | (refine guardA (b := false) rfl rfl rfl rfl (fun e => by cases e) (fun _ => ?_); refine go T_ok 200 rfl ?_) | (refine condT rfl rfl ?_; refine go T_ok 200 rfl ?_) | (refine condF rfl rfl ?_; refine go T_ok 200 rfl ?_))
        exact ret (ret1 (v := .bool true) Try.results59 rfl ⟨by rw [key]; simp [h], q13⟩)
      · refine go T_ok 200 rfl ?_
        repeat (first | (refine ld T_ok rfl rfl rfl rfl (Bk.get B3 rfl) ?_; refine go T_ok 200 rfl ?_) | (refine guardA (b := true) rfl rfl rfl rfl (fun _ => ?_) (fun e => by cases e); refine go T_ok 200 rfl ?_) | (refine guardA (b := false) rfl rfl rfl rfl (fun e => by cases e) (fun _ => ?_); refine go T_ok 200 rfl ?_) | (refine condT rfl rfl ?_; refine go T_ok 200 rfl ?_) | (refine condF rfl rfl ?_; refine go T_ok 200 rfl ?_))
        refine guard rfl rfl rfl (fun h' => ?_) (fun h' => ?_)
        · refine go T_ok 200 rfl ?_
          repeat (first | (refine guardA (b := true) rfl rfl rfl rfl (fun _ => ?_) (fun e => by cases e); refine go T_ok 200 rfl ?_) | (refine guardA (b := false) rfl rfl rfl rfl (fun e => by cases e) (fun _ => ?_); refine go T_ok 200 rfl ?_) | (refine condT rfl rfl ?_; refine go T_ok 200 rfl ?_) | (refine condF rfl rfl ?_; refine go T_ok 200 rfl ?_))
          exact ret (ret1 (v := .bool true) Try.results59 rfl ⟨by rw [key]; simp [h, h'], q13⟩)
        · refine go T_ok 200 rfl ?_
          repeat (first | (refine ld T_ok rfl rfl rfl rfl (Bk.get B3 rfl) ?_; refine go T_ok 200 rfl ?_) | (refine guardA (b := true) rfl rfl rfl rfl (fun _ => ?_) (fun e => by cases e); refine go T_ok 200 rfl ?_) | (refine guardA (b := false) rfl rfl rfl rfl (fun e => by cases e) (fun _ => ?_); refine go T_ok 200 rfl ?_) | (refine condT rfl rfl ?_; refine go T_ok 200 rfl ?_) | (refine condF rfl rfl ?_; refine go T_ok 200 rfl ?_))
          refine ret (ret1 (v := .bool _) Try.results59 rfl ⟨by rw [key]; simp [h, h'], q13⟩)

set_option maxHeartbeats 4000000 in
theorem rRay_any (r : Ra) (w : World) : Ret Try.prog 22 [.agg (rL r).toArray] w fun x w' => x = .bool (decide (RaOk r)) ∧ Chg No w w' := by
  refine enter Try.func22 rfl Try.ntmps22 rfl ?_
  refine go T_ok 200 rfl ?_
  refine bx rfl rfl rfl (cs := rL r) rfl ?_
  intro g1 u1 hg1 hs1 q1 B1
  refine go T_ok 200 rfl ?_
  repeat (first | (refine ld T_ok rfl rfl rfl rfl (Bk.get B1 rfl) ?_; refine go T_ok 200 rfl ?_) | (refine guardA (b := true) rfl rfl rfl rfl (fun _ => ?_) (fun e => by cases e); refine go T_ok 200 rfl ?_) | (refine guardA (b := false) rfl rfl rfl rfl (fun e => by cases e) (fun _ => ?_); refine go T_ok 200 rfl ?_) | (refine condT rfl rfl ?_; refine go T_ok 200 rfl ?_) | (refine condF rfl rfl ?_; refine go T_ok 200 rfl ?_))
  refine call rfl rfl rfl (ok _ (by decide) rfl) (rin_any _ _ _ _) ?_
  rintro x w' ⟨rfl, rfl⟩
  refine go T_ok 200 rfl ?_
  refine guardN rfl rfl rfl (fun h1 => ?_) (fun h1 => ?_)
  · have h1 := of_decide_eq_false h1
    refine go T_ok 200 rfl ?_
    repeat (first | (refine guardA (b := true) rfl rfl rfl rfl (fun _ => ?_) (fun e => by cases e); refine go T_ok 200 rfl ?_) | (refine guardA (b := false) rfl rfl rfl rfl (fun e => by cases e) (fun _ => ?_); refine go T_ok 200 rfl ?_) | (refine condT rfl rfl ?_; refine go T_ok 200 rfl ?_) | (refine condF rfl rfl ?_; refine go T_ok 200 rfl ?_))
    exact ret (ret1 (v := .bool false) Try.results22 rfl ⟨congrArg Value.bool (decide_eq_false fun hr => by unfold RaOk at hr; exact h1 hr.1).symm, q1⟩)
  · have h1 := of_decide_eq_true h1
    refine go T_ok 200 rfl ?_
    repeat (first | (refine ld T_ok rfl rfl rfl rfl (Bk.get B1 rfl) ?_; refine go T_ok 200 rfl ?_) | (refine guardA (b := true) rfl rfl rfl rfl (fun _ => ?_) (fun e => by cases e); refine go T_ok 200 rfl ?_) | (refine guardA (b := false) rfl rfl rfl rfl (fun e => by cases e) (fun _ => ?_); refine go T_ok 200 rfl ?_) | (refine condT rfl rfl ?_; refine go T_ok 200 rfl ?_) | (refine condF rfl rfl ?_; refine go T_ok 200 rfl ?_))
    refine call rfl rfl rfl (ok _ (by decide) rfl) (rin_any _ _ _ _) ?_
    rintro x w' ⟨rfl, rfl⟩
    refine go T_ok 200 rfl ?_
    refine guardN rfl rfl rfl (fun h2 => ?_) (fun h2 => ?_)
    · have h2 := of_decide_eq_false h2
      refine go T_ok 200 rfl ?_
      repeat (first | (refine guardA (b := true) rfl rfl rfl rfl (fun _ => ?_) (fun e => by cases e); refine go T_ok 200 rfl ?_) | (refine guardA (b := false) rfl rfl rfl rfl (fun e => by cases e) (fun _ => ?_); refine go T_ok 200 rfl ?_) | (refine condT rfl rfl ?_; refine go T_ok 200 rfl ?_) | (refine condF rfl rfl ?_; refine go T_ok 200 rfl ?_))
      exact ret (ret1 (v := .bool false) Try.results22 rfl ⟨congrArg Value.bool (decide_eq_false fun hr => by unfold RaOk at hr; exact h2 hr.2.1).symm, q1⟩)
    · have h2 := of_decide_eq_true h2
      refine go T_ok 200 rfl ?_
      repeat (first | (refine ld T_ok rfl rfl rfl rfl (Bk.get B1 rfl) ?_; refine go T_ok 200 rfl ?_) | (refine guardA (b := true) rfl rfl rfl rfl (fun _ => ?_) (fun e => by cases e); refine go T_ok 200 rfl ?_) | (refine guardA (b := false) rfl rfl rfl rfl (fun e => by cases e) (fun _ => ?_); refine go T_ok 200 rfl ?_) | (refine condT rfl rfl ?_; refine go T_ok 200 rfl ?_) | (refine condF rfl rfl ?_; refine go T_ok 200 rfl ?_))
      refine call rfl rfl rfl (ok _ (by decide) rfl) (rin_any _ _ _ _) ?_
      rintro x w' ⟨rfl, rfl⟩
      refine go T_ok 200 rfl ?_
      refine cond rfl (fun h3 => ?_) (fun h3 => ?_)
      · have h3 : ¬ (-100000 ≤ r.z ∧ r.z ≤ 100000) := fun hh => by simp [hh] at h3
        refine go T_ok 200 rfl ?_
        repeat (first | (refine guardA (b := true) rfl rfl rfl rfl (fun _ => ?_) (fun e => by cases e); refine go T_ok 200 rfl ?_) | (refine guardA (b := false) rfl rfl rfl rfl (fun e => by cases e) (fun _ => ?_); refine go T_ok 200 rfl ?_) | (refine condT rfl rfl ?_; refine go T_ok 200 rfl ?_) | (refine condF rfl rfl ?_; refine go T_ok 200 rfl ?_))
        exact ret (ret1 (v := .bool false) Try.results22 rfl ⟨congrArg Value.bool (decide_eq_false fun hr => by unfold RaOk at hr; exact h3 hr.2.2.1).symm, q1⟩)
      · have h3 : -100000 ≤ r.z ∧ r.z ≤ 100000 := by simpa using h3
        refine go T_ok 200 rfl ?_
        repeat (first | (refine ld T_ok rfl rfl rfl rfl (Bk.get B1 rfl) ?_; refine go T_ok 200 rfl ?_) | (refine guardA (b := true) rfl rfl rfl rfl (fun _ => ?_) (fun e => by cases e); refine go T_ok 200 rfl ?_) | (refine guardA (b := false) rfl rfl rfl rfl (fun e => by cases e) (fun _ => ?_); refine go T_ok 200 rfl ?_) | (refine condT rfl rfl ?_; refine go T_ok 200 rfl ?_) | (refine condF rfl rfl ?_; refine go T_ok 200 rfl ?_))
        refine call rfl rfl rfl (ok _ (by decide) rfl) (rin_any _ _ _ _) ?_
        rintro x w' ⟨rfl, rfl⟩
        refine go T_ok 200 rfl ?_
        refine guardD rfl rfl rfl (fun h4 => ?_) (fun h4 => ?_)
        · refine go T_ok 200 rfl ?_
          repeat (first | (refine ld T_ok rfl rfl rfl rfl (Bk.get B1 rfl) ?_; refine go T_ok 200 rfl ?_) | (refine guardA (b := true) rfl rfl rfl rfl (fun _ => ?_) (fun e => by cases e); refine go T_ok 200 rfl ?_) | (refine guardA (b := false) rfl rfl rfl rfl (fun e => by cases e) (fun _ => ?_); refine go T_ok 200 rfl ?_) | (refine condT rfl rfl ?_; refine go T_ok 200 rfl ?_) | (refine condF rfl rfl ?_; refine go T_ok 200 rfl ?_))
          refine call rfl rfl rfl (ok _ (by decide) rfl) (rin_any _ _ _ _) ?_
          rintro x w' ⟨rfl, rfl⟩
          refine go T_ok 200 rfl ?_
          refine guardD rfl rfl rfl (fun h5 => ?_) (fun h5 => ?_)
          · refine go T_ok 200 rfl ?_
            repeat (first | (refine ld T_ok rfl rfl rfl rfl (Bk.get B1 rfl) ?_; refine go T_ok 200 rfl ?_) | (refine guardA (b := true) rfl rfl rfl rfl (fun _ => ?_) (fun e => by cases e); refine go T_ok 200 rfl ?_) | (refine guardA (b := false) rfl rfl rfl rfl (fun e => by cases e) (fun _ => ?_); refine go T_ok 200 rfl ?_) | (refine condT rfl rfl ?_; refine go T_ok 200 rfl ?_) | (refine condF rfl rfl ?_; refine go T_ok 200 rfl ?_))
            refine call rfl rfl rfl (ok _ (by decide) rfl) (rin_any _ _ _ _) ?_
            rintro x w' ⟨rfl, rfl⟩
            refine go T_ok 200 rfl ?_
            refine guardD rfl rfl rfl (fun h6 => ?_) (fun h6 => ?_)
            · have key : decide (RaOk r) = (r.dx != 0 || (r.dy != 0 || r.dz != 0)) := by
                rw [Bool.eq_iff_iff, decide_eq_true_iff]
                unfold RaOk
                simp [h1, h2, h3, h4, h5, h6]
              refine go T_ok 200 rfl ?_
              repeat (first | (refine ld T_ok rfl rfl rfl rfl (Bk.get B1 rfl) ?_; refine go T_ok 200 rfl ?_) | (refine guardA (b := true) rfl rfl rfl rfl (fun _ => ?_) (fun e => by cases e); refine go T_ok 200 rfl ?_) | (refine guardA (b := false) rfl rfl rfl rfl (fun e => by cases e) (fun _ => ?_); refine go T_ok 200 rfl ?_) | (refine condT rfl rfl ?_; refine go T_ok 200 rfl ?_) | (refine condF rfl rfl ?_; refine go T_ok 200 rfl ?_))
              refine guard rfl rfl rfl (fun h => ?_) (fun h => ?_)
              · refine go T_ok 200 rfl ?_
                repeat (first | (refine guardA (b := true) rfl rfl rfl rfl (fun _ => ?_) (fun e => by cases e); refine go T_ok 200 rfl ?_) | (refine guardA (b := false) rfl rfl rfl rfl (fun e => by cases e) (fun _ => ?_); refine go T_ok 200 rfl ?_) | (refine condT rfl rfl ?_; refine go T_ok 200 rfl ?_) | (refine condF rfl rfl ?_; refine go T_ok 200 rfl ?_))
                exact ret (ret1 (v := .bool true) Try.results22 rfl ⟨by rw [key]; simp [h], q1⟩)
              · refine go T_ok 200 rfl ?_
                repeat (first | (refine ld T_ok rfl rfl rfl rfl (Bk.get B1 rfl) ?_; refine go T_ok 200 rfl ?_) | (refine guardA (b := true) rfl rfl rfl rfl (fun _ => ?_) (fun e => by cases e); refine go T_ok 200 rfl ?_) | (refine guardA (b := false) rfl rfl rfl rfl (fun e => by cases e) (fun _ => ?_); refine go T_ok 200 rfl ?_) | (refine condT rfl rfl ?_; refine go T_ok 200 rfl ?_) | (refine condF rfl rfl ?_; refine go T_ok 200 rfl ?_))
                refine guard rfl rfl rfl (fun h' => ?_) (fun h' => ?_)
                · refine go T_ok 200 rfl ?_
                  repeat (first | (refine guardA (b := true) rfl rfl rfl rfl (fun _ => ?_) (fun e => by cases e); refine go T_ok 200 rfl ?_) | (refine guardA (b := false) rfl rfl rfl rfl (fun e => by cases e) (fun _ => ?_); refine go T_ok 200 rfl ?_) | (refine condT rfl rfl ?_; refine go T_ok 200 rfl ?_) | (refine condF rfl rfl ?_; refine go T_ok 200 rfl ?_))
                  exact ret (ret1 (v := .bool true) Try.results22 rfl ⟨by rw [key]; simp [h, h'], q1⟩)
                · refine go T_ok 200 rfl ?_
                  repeat (first | (refine ld T_ok rfl rfl rfl rfl (Bk.get B1 rfl) ?_; refine go T_ok 200 rfl ?_) | (refine guardA (b := true) rfl rfl rfl rfl (fun _ => ?_) (fun e => by cases e); refine go T_ok 200 rfl ?_) | (refine guardA (b := false) rfl rfl rfl rfl (fun e => by cases e) (fun _ => ?_); refine go T_ok 200 rfl ?_) | (refine condT rfl rfl ?_; refine go T_ok 200 rfl ?_) | (refine condF rfl rfl ?_; refine go T_ok 200 rfl ?_))
                  refine ret (ret1 (v := .bool _) Try.results22 rfl ⟨by rw [key]; simp [h, h'], q1⟩)
            · refine go T_ok 200 rfl ?_
              repeat (first | (refine guardA (b := true) rfl rfl rfl rfl (fun _ => ?_) (fun e => by cases e); refine go T_ok 200 rfl ?_) | (refine guardA (b := false) rfl rfl rfl rfl (fun e => by cases e) (fun _ => ?_); refine go T_ok 200 rfl ?_) | (refine condT rfl rfl ?_; refine go T_ok 200 rfl ?_) | (refine condF rfl rfl ?_; refine go T_ok 200 rfl ?_))
              exact ret (ret1 (v := .bool false) Try.results22 rfl ⟨congrArg Value.bool (decide_eq_false fun hr => by unfold RaOk at hr; exact h6 hr.2.2.2.2.2.1).symm, q1⟩)
          · refine go T_ok 200 rfl ?_
            repeat (first | (refine guardA (b := true) rfl rfl rfl rfl (fun _ => ?_) (fun e => by cases e); refine go T_ok 200 rfl ?_) | (refine guardA (b := false) rfl rfl rfl rfl (fun e => by cases e) (fun _ => ?_); refine go T_ok 200 rfl ?_) | (refine condT rfl rfl ?_; refine go T_ok 200 rfl ?_) | (refine condF rfl rfl ?_; refine go T_ok 200 rfl ?_))
            exact ret (ret1 (v := .bool false) Try.results22 rfl ⟨congrArg Value.bool (decide_eq_false fun hr => by unfold RaOk at hr; exact h5 hr.2.2.2.2.1).symm, q1⟩)
        · refine go T_ok 200 rfl ?_
          repeat (first | (refine guardA (b := true) rfl rfl rfl rfl (fun _ => ?_) (fun e => by cases e); refine go T_ok 200 rfl ?_) | (refine guardA (b := false) rfl rfl rfl rfl (fun e => by cases e) (fun _ => ?_); refine go T_ok 200 rfl ?_) | (refine condT rfl rfl ?_; refine go T_ok 200 rfl ?_) | (refine condF rfl rfl ?_; refine go T_ok 200 rfl ?_))
          exact ret (ret1 (v := .bool false) Try.results22 rfl ⟨congrArg Value.bool (decide_eq_false fun hr => by unfold RaOk at hr; exact h4 hr.2.2.2.1).symm, q1⟩)

/-! ### Ticks -/
theorem gcd_step {a b : Int} : Int.gcd b (a % b) = Int.gcd a b := by
  rw [Int.gcd_comm b, Int.emod_def, Int.gcd_sub_mul_left_left]
theorem gcd_zero {a : Int} (ha : 0 ≤ a) : (Int.gcd a 0 : Int) = a := by
  rw [Int.gcd_zero_right]; omega
theorem gcd_abs (a d : Int) : Int.gcd a (absI d) = Int.gcd a d := by
  unfold absI
  split
  · rfl
  · exact Int.gcd_neg
theorem max_abs (d : Int) : max d (0 - d) = absI d := by
  unfold absI
  split <;> omega
set_option maxHeartbeats 4000000 in
theorem gcd_any (a b : Int) (w : World) (ha : 0 ≤ a) (hb : 0 ≤ b) : Ret Try.prog 82 [.int .i64 a, .int .i64 b] w fun v w' => v = .int .i64 (Int.gcd a b) ∧ Chg No w w' := by
  refine enter Try.func82 rfl Try.ntmps82 rfl ?_
  refine go T_ok 200 rfl ?_
  refine loop [0, 1] (fun x : Int × Int => [.int .i64 x.1, .int .i64 x.2]) (fun x w' => 0 ≤ x.1 ∧ 0 ≤ x.2 ∧ Int.gcd x.1 x.2 = Int.gcd a b ∧ Chg No w w') (fun x => x.2.toNat) (a, b) (fun _ => rfl) rfl ⟨ha, hb, rfl, Chg.refl _ _⟩ ?_
  rintro ⟨x, y⟩ τ w1 ⟨hx, hy, hg, q⟩
  simp only at hx hy hg
  refine go T_ok 200 rfl ?_
  refine cond rfl (fun h => ?_) (fun h => ?_)
  · have h : y ≠ 0 := by simpa using h
    refine go T_ok 200 rfl ?_
    refine draw mixed (fun w' => Chg No w1 w') ([0,1,2,3,4,5].map (fun i => (i, true))) rfl (by kernel_rfl) (Chg.drew _) ?_
    refine goH T_ok 200 rfl ?_
    refine quietH rfl (fun w' hS => by rw [r_rem rfl rfl rfl h, Int.tmod_eq_emod_of_nonneg hx]) ?_
    refine goH T_ok 200 rfl ?_
    refine endH ?_
    refine go T_ok 200 rfl ?_
    have h1 := Int.emod_nonneg x h
    have h2 := Int.emod_lt_of_pos x (by omega : 0 < y)
    exact round ⟨(y, x % y), rfl, ⟨hy, h1, by show Int.gcd y (x % y) = _; rw [gcd_step]; exact hg, q.trans (Chg.drew _)⟩, by show (x % y).toNat < y.toNat; omega⟩
  · have h : y = 0 := by simpa using h
    subst h
    refine go T_ok 200 rfl ?_
    refine ret (ret1 (v := .int .i64 _) Try.results82 rfl ⟨?_, q⟩)
    rw [← hg, gcd_zero hx]
end Go.Proofs.Ytkkjfjeniaiaiaa
