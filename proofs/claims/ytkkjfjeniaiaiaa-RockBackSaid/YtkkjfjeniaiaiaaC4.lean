/- The contracts of the small functions of layer 6: grounds, the way of a ray through a volume. -/
import Derived.Test.YtkkjfjeniaiaiaaC3
namespace Go.Proofs.Ytkkjfjeniaiaiaa
open Go.Ev Go.Proofs Go.Rock
attribute [local irreducible] At AtH

def iL (l : List Int) : List Value := l.map (Value.int .i64)
def GrOk (v : Vo) (g : List Int) : Prop := (∀ h ∈ g, 0 ≤ h ∧ h ≤ v.nz * v.sz) ∧ (g.length : Int) = v.nx * v.ny
instance (v : Vo) (g : List Int) : Decidable (GrOk v g) := by unfold GrOk; infer_instance
theorem vo_xy {v : Vo} (hv : VoOk v) : 1 ≤ v.nx * v.ny ∧ v.nx * v.ny ≤ 144 := by
  unfold VoOk at hv
  have := mul_bd (a := v.nx) (b := v.ny) (A := 12) (B := 12) (by omega) (by omega) (by omega) (by omega)
  have h2 : 0 < v.nx * v.ny := Int.mul_pos (by omega) (by omega)
  omega
theorem vo_zs {v : Vo} (hv : VoOk v) : 1 ≤ v.nz * v.sz ∧ v.nz * v.sz ≤ 12000 := by
  unfold VoOk at hv
  have := mul_bd (a := v.nz) (b := v.sz) (A := 12) (B := 1000) (by omega) (by omega) (by omega) (by omega)
  have h2 : 0 < v.nz * v.sz := Int.mul_pos (by omega) (by omega)
  omega
theorem vo_xyz {v : Vo} (hv : VoOk v) : 1 ≤ v.nx * v.ny * v.nz ∧ v.nx * v.ny * v.nz ≤ 600 := by
  have h1 := vo_xy hv
  unfold VoOk at hv
  have h2 : 0 < v.nx * v.ny * v.nz := Int.mul_pos (by omega) (by omega)
  omega
theorem ndT {p : Prop} [Decidable p] (h : (!decide p) = true) : ¬ p := by
  intro hp
  rw [decide_eq_true hp] at h
  cases h
theorem ndF {p : Prop} [Decidable p] (h : (!decide p) = false) : p := by
  by_cases hp : p
  · exact hp
  · rw [decide_eq_false hp] at h
    cases h
theorem len63 {n : Nat} (h : n ≤ maxLen) : n ≤ 9223372036854775807 := by unfold maxLen at h; omega
theorem Columns_any (v : Vo) (w : World) (hv : VoOk v) : Ret Try.prog 69 [.agg (vL v).toArray] w fun x w' => x = .int .i64 (v.nx * v.ny) ∧ Chg No w w' := by
  have h1 := vo_xy hv
  refine enter Try.func69 rfl Try.ntmps69 rfl ?_
  refine go T_ok 200 rfl ?_
  refine bx rfl rfl rfl (cs := vL v) rfl ?_
  intro g1 u1 hg1 hs1 q1 B1
  refine go T_ok 200 rfl ?_
  repeat (first | (refine ld T_ok rfl rfl rfl rfl (Bk.get B1 rfl) ?_; refine go T_ok 200 rfl ?_) | (refine guardA (b := true) rfl rfl rfl rfl (fun _ => ?_) (fun e => by cases e); refine go T_ok 200 rfl ?_) | (refine guardA (b := false) rfl rfl rfl rfl (fun e => by cases e) (fun _ => ?_); refine go T_ok 200 rfl ?_) | (refine condT rfl rfl ?_; refine go T_ok 200 rfl ?_) | (refine condF rfl rfl ?_; refine go T_ok 200 rfl ?_))
  have e1 : w64 (v.nx * v.ny) = v.nx * v.ny := w64_id (by omega) (by omega)
  exact ret (ret1 (v := .int .i64 _) Try.results69 rfl ⟨by rw [e1], q1⟩)
theorem Cells_any (v : Vo) (w : World) (hv : VoOk v) : Ret Try.prog 40 [.agg (vL v).toArray] w fun x w' => x = .int .i64 (v.nx * v.ny * v.nz) ∧ Chg No w w' := by
  have h1 := vo_xy hv
  have h2 := vo_xyz hv
  refine enter Try.func40 rfl Try.ntmps40 rfl ?_
  refine go T_ok 200 rfl ?_
  refine bx rfl rfl rfl (cs := vL v) rfl ?_
  intro g1 u1 hg1 hs1 q1 B1
  refine go T_ok 200 rfl ?_
  repeat (first | (refine ld T_ok rfl rfl rfl rfl (Bk.get B1 rfl) ?_; refine go T_ok 200 rfl ?_) | (refine guardA (b := true) rfl rfl rfl rfl (fun _ => ?_) (fun e => by cases e); refine go T_ok 200 rfl ?_) | (refine guardA (b := false) rfl rfl rfl rfl (fun e => by cases e) (fun _ => ?_); refine go T_ok 200 rfl ?_) | (refine condT rfl rfl ?_; refine go T_ok 200 rfl ?_) | (refine condF rfl rfl ?_; refine go T_ok 200 rfl ?_))
  have e1 : w64 (v.nx * v.ny) = v.nx * v.ny := w64_id (by omega) (by omega)
  have e2 : w64 (v.nx * v.ny * v.nz) = v.nx * v.ny * v.nz := w64_id (by omega) (by omega)
  exact ret (ret1 (v := .int .i64 _) Try.results40 rfl ⟨by rw [e1, e2], q1⟩)
theorem grounded_any (v : Vo) (g : List Int) (A : Option Addr) (c B : Nat) (w : World) (hv : VoOk v) (hL : g.length ≤ maxLen) (hS : Sl w B 1 A g.length (iL g)) :
    Ret Try.prog 60 [.agg (vL v).toArray, .slice A g.length c] w fun x w' => x = .bool (decide (GrOk v g)) ∧ Chg No w w' := by
  have hL := len63 hL
  have h1 := vo_xy hv
  have h2 := vo_zs hv
  have e1 : w64 (v.nx * v.ny) = v.nx * v.ny := w64_id (by omega) (by omega)
  have e2 : w64 (v.nz * v.sz) = v.nz * v.sz := w64_id (by omega) (by omega)
  refine enter Try.func60 rfl Try.ntmps60 rfl ?_
  refine go T_ok 200 rfl ?_
  refine bx rfl rfl rfl (cs := vL v) rfl ?_
  intro g1 u1 hg1 hs1 q1 B1
  refine go T_ok 200 rfl ?_
  refine loop [1, 2, 7, 8, 9] (fun j : Nat => [.slice A g.length c, .pointer (some ⟨g1, 0, none⟩), .slice A g.length c, .int .i64 (g.length : Int), .int .i64 (j : Int)])
    (fun j w' => j ≤ g.length ∧ Chg No u1 w' ∧ ∀ h ∈ g.take j, 0 ≤ h ∧ h ≤ v.nz * v.sz) (fun j => g.length - j) 0 (fun _ => rfl) rfl ⟨by omega, Chg.refl _ _, fun a h => by simp at h⟩ ?_
  rintro j τ w1 ⟨hj, q2, hI⟩
  have B2 := B1.no q2
  have S2 := (hS.no q1).no q2
  refine go T_ok 200 rfl ?_
  refine condD rfl (fun hlt => ?_) (fun hlt => ?_)
  · have hlt : j < g.length := by omega
    obtain ⟨a, ha⟩ : ∃ a, g[j]? = some a := ⟨_, List.getElem?_eq_getElem hlt⟩
    obtain ⟨b, o, rfl, hb, hc⟩ := S2.elI ha
    refine go T_ok 200 rfl ?_
    refine idx T_ok rfl rfl rfl rfl rfl j rfl hlt ?_
    refine go T_ok 200 rfl ?_
    refine ld T_ok rfl rfl rfl rfl (hc) ?_
    refine go T_ok 200 rfl ?_
    refine go T_ok 200 rfl ?_
    repeat (first | (refine ld T_ok rfl rfl rfl rfl (Bk.get B2 rfl) ?_; refine go T_ok 200 rfl ?_) | (refine guardA (b := true) rfl rfl rfl rfl (fun _ => ?_) (fun e => by cases e); refine go T_ok 200 rfl ?_) | (refine guardA (b := false) rfl rfl rfl rfl (fun e => by cases e) (fun _ => ?_); refine go T_ok 200 rfl ?_) | (refine condT rfl rfl ?_; refine go T_ok 200 rfl ?_) | (refine condF rfl rfl ?_; refine go T_ok 200 rfl ?_))
    rw [e2]
    refine call rfl rfl rfl (ok _ (by decide) rfl) (in_any _ _ _ _) ?_
    rintro x w' ⟨rfl, rfl⟩
    refine go T_ok 200 rfl ?_
    refine cond rfl (fun h => ?_) (fun h => ?_)
    · have h : ¬ (0 ≤ a ∧ a ≤ v.nz * v.sz) := fun hh => by simp [hh] at h
      refine go T_ok 200 rfl ?_
      exact ret (ret1 (v := .bool false) Try.results60 rfl ⟨congrArg Value.bool (decide_eq_false fun hr => h (hr.1 a (List.mem_of_getElem? ha))).symm, q1.trans q2⟩)
    · have h : 0 ≤ a ∧ a ≤ v.nz * v.sz := by simpa using h
      refine go T_ok 200 rfl ?_
      have e3 : w64 ((j : Int) + 1) = ((j + 1 : Nat) : Int) := w64_id (by omega) (by omega)
      rw [e3]
      refine round ⟨j + 1, rfl, ⟨by omega, q2, fun b hb => ?_⟩, by omega⟩
      rw [take_snoc ha, List.mem_append, List.mem_singleton] at hb
      rcases hb with hb | rfl
      · exact hI b hb
      · exact h
  · have hj3 : j = g.length := by omega
    subst hj3
    rw [List.take_length] at hI
    refine go T_ok 200 rfl ?_
    repeat (first | (refine ld T_ok rfl rfl rfl rfl (Bk.get B2 rfl) ?_; refine go T_ok 200 rfl ?_) | (refine guardA (b := true) rfl rfl rfl rfl (fun _ => ?_) (fun e => by cases e); refine go T_ok 200 rfl ?_) | (refine guardA (b := false) rfl rfl rfl rfl (fun e => by cases e) (fun _ => ?_); refine go T_ok 200 rfl ?_) | (refine condT rfl rfl ?_; refine go T_ok 200 rfl ?_) | (refine condF rfl rfl ?_; refine go T_ok 200 rfl ?_))
    rw [e1]
    refine ret (ret1 (v := .bool _) Try.results60 rfl ⟨?_, q1.trans q2⟩)
    congr 1
    rw [Bool.eq_iff_iff, decide_eq_true_iff]
    unfold GrOk
    exact ⟨fun h => ⟨hI, by simpa using h⟩, fun h => by simpa using h.2⟩
theorem rGround_any (v : Vo) (g : List Int) (A : Option Addr) (c B : Nat) (w : World) (hv : VoOk v) (hL : g.length ≤ maxLen) (hS : Sl w B 1 A g.length (iL g)) :
    Ret Try.prog 23 [.agg (vL v).toArray, .slice A g.length c] w fun x w' => x = .bool (decide (GrOk v g)) ∧ Chg No w w' := by
  have hL := len63 hL
  have h1 := vo_xy hv
  have h2 := vo_zs hv
  have e2 : w64 (v.nz * v.sz) = v.nz * v.sz := w64_id (by omega) (by omega)
  refine enter Try.func23 rfl Try.ntmps23 rfl ?_
  refine go T_ok 200 rfl ?_
  refine bx rfl rfl rfl (cs := vL v) rfl ?_
  intro g1 u1 hg1 hs1 q1 B1
  refine go T_ok 200 rfl ?_
  refine loop [1, 2, 5] (fun j : Nat => [.slice A g.length c, .pointer (some ⟨g1, 0, none⟩), .int .i64 (j : Int)])
    (fun j w' => j ≤ g.length ∧ Chg No u1 w' ∧ ∀ h ∈ g.take j, 0 ≤ h ∧ h ≤ v.nz * v.sz) (fun j => g.length - j) 0 (fun _ => rfl) rfl ⟨by omega, Chg.refl _ _, fun a h => by simp at h⟩ ?_
  rintro j τ w1 ⟨hj, q2, hI⟩
  have B2 := B1.no q2
  have S2 := (hS.no q1).no q2
  refine go T_ok 200 rfl ?_
  refine condD rfl (fun hlt => ?_) (fun hlt => ?_)
  · have hlt : j < g.length := by omega
    obtain ⟨a, ha⟩ : ∃ a, g[j]? = some a := ⟨_, List.getElem?_eq_getElem hlt⟩
    obtain ⟨b, o, rfl, hb, hc⟩ := S2.elI ha
    have hb' : b < w1.heap.size := Nat.lt_of_lt_of_le hb S2.2.1
    refine go T_ok 200 rfl ?_
    refine draw mixed (fun w' => Chg No w1 w') ([0,1,2,3,4,5,6,7,8].map (fun i => (i, true)) ++ [(9, false)] ++ [10].map (fun i => (i, true))) rfl (by kernel_rfl) (Chg.drew _) ?_
    refine goH T_ok 200 rfl ?_
    refine quietH rfl (fun w' hS => r_idx T_ok rfl rfl rfl rfl j rfl hlt) ?_
    refine goH T_ok 200 rfl ?_
    refine quietH rfl (fun w' hS => r_load T_ok rfl rfl rfl ((hS.cell (a := ⟨b, o + j * 1, none⟩) hb' (fun h => h)).trans hc)) ?_
    refine goH T_ok 200 rfl ?_
    refine goH T_ok 200 rfl ?_
    repeat (first | (refine quietH rfl (fun w' hS => r_load T_ok rfl rfl rfl (Bk.get (B2.no hS) rfl)) ?_; refine goH T_ok 200 rfl ?_))
    rw [e2]
    refine callE rfl rfl rfl (ok _ (by decide) rfl) (rin_any _ _ _ _) ?_
    rintro x w' ⟨rfl, rfl⟩
    refine ⟨Chg.drew _, ?_⟩
    refine goH T_ok 200 rfl ?_
    refine endH ?_
    refine go T_ok 200 rfl ?_
    refine cond rfl (fun h => ?_) (fun h => ?_)
    · have h : ¬ (0 ≤ a ∧ a ≤ v.nz * v.sz) := fun hh => by simp [hh] at h
      refine go T_ok 200 rfl ?_
      exact ret (ret1 (v := .bool false) Try.results23 rfl ⟨congrArg Value.bool (decide_eq_false fun hr => h (hr.1 a (List.mem_of_getElem? ha))).symm, q1.trans (q2.trans (Chg.drew _))⟩)
    · have h : 0 ≤ a ∧ a ≤ v.nz * v.sz := by simpa using h
      refine go T_ok 200 rfl ?_
      have e3 : w64 ((j : Int) + 1) = ((j + 1 : Nat) : Int) := w64_id (by omega) (by omega)
      rw [e3]
      refine round ⟨j + 1, rfl, ⟨by omega, q2.trans (Chg.drew _), fun b hb => ?_⟩, by omega⟩
      rw [take_snoc ha, List.mem_append, List.mem_singleton] at hb
      rcases hb with hb | rfl
      · exact hI b hb
      · exact h
  · have hj3 : j = g.length := by omega
    subst hj3
    rw [List.take_length] at hI
    refine go T_ok 200 rfl ?_
    refine ldA T_ok rfl rfl rfl rfl rfl B2.all ?_
    refine go T_ok 200 rfl ?_
    refine call rfl rfl rfl (ok _ (by decide) rfl) (Columns_any v _ hv) ?_
    rintro x w3 ⟨rfl, q3⟩
    refine go T_ok 200 rfl ?_
    refine ret (ret1 (v := .bool _) Try.results23 rfl ⟨?_, q1.trans (q2.trans q3)⟩)
    congr 1
    rw [Bool.eq_iff_iff, decide_eq_true_iff]
    unfold GrOk
    exact ⟨fun h => ⟨hI, by simpa using h⟩, fun h => by simpa using h.2⟩
theorem Check_any (v : Vo) (w : World) : Ret Try.prog 50 [.agg (vL v).toArray] w fun x w' => x = .int .i64 (if VoOk v then 0 else 2) ∧ Chg No w w' := by
  refine enter Try.func50 rfl Try.ntmps50 rfl ?_
  refine go T_ok 200 rfl ?_
  refine bx rfl rfl rfl (cs := vL v) rfl ?_
  intro g0 u0 hg0 hs0 q0 B0
  refine go T_ok 200 rfl ?_
  refine ldA T_ok rfl rfl rfl rfl rfl B0.all ?_
  refine go T_ok 200 rfl ?_
  refine call rfl rfl rfl (ok _ (by decide) rfl) (volume_any v _) ?_
  rintro x w1 ⟨rfl, q1⟩
  refine go T_ok 200 rfl ?_
  refine cond rfl (fun h => ?_) (fun h => ?_)
  · have h : ¬ VoOk v := ndT h
    refine go T_ok 200 rfl ?_
    exact ret (ret1 (v := .int .i64 2) Try.results50 rfl ⟨congrArg I (if_neg h).symm, q0.trans q1⟩)
  · have h : VoOk v := ndF h
    refine go T_ok 200 rfl ?_
    exact ret (ret1 (v := .int .i64 0) Try.results50 rfl ⟨congrArg I (if_pos h).symm, q0.trans q1⟩)
theorem Ticks_any (r : Ra) (w : World) : Ret Try.prog 42 [.agg (rL r).toArray] w fun x w' => x = .tuple #[.int .i64 (if RaOk r then tk r else 0), .int .i64 (if RaOk r then 0 else 2)] ∧ Chg No w w' := by
  refine enter Try.func42 rfl Try.ntmps42 rfl ?_
  refine go T_ok 200 rfl ?_
  refine bx rfl rfl rfl (cs := rL r) rfl ?_
  intro g0 u0 hg0 hs0 q0 B0
  refine go T_ok 200 rfl ?_
  refine ldA T_ok rfl rfl rfl rfl rfl B0.all ?_
  refine go T_ok 200 rfl ?_
  refine call rfl rfl rfl (ok _ (by decide) rfl) (ray_any r _) ?_
  rintro x w1 ⟨rfl, q1⟩
  refine go T_ok 200 rfl ?_
  refine cond rfl (fun h => ?_) (fun h => ?_)
  · have h : ¬ RaOk r := ndT h
    refine go T_ok 200 rfl ?_
    exact ret (ret2 (v := .int .i64 0) (x := .int .i64 2) Try.results42 rfl rfl ⟨by rw [if_neg h, if_neg h], q0.trans q1⟩)
  · have h : RaOk r := ndF h
    have B1 := B0.no q1
    refine go T_ok 200 rfl ?_
    refine ldA T_ok rfl rfl rfl rfl rfl B1.all ?_
    refine go T_ok 200 rfl ?_
    refine call rfl rfl rfl (ok _ (by decide) rfl) (ticks_any r _ h) ?_
    rintro x w2 ⟨rfl, q2⟩
    refine go T_ok 200 rfl ?_
    exact ret (ret2 (v := .int .i64 _) (x := .int .i64 0) Try.results42 rfl rfl ⟨by rw [if_pos h, if_pos h], (q0.trans q1).trans q2⟩)
theorem bldR {n : Nat} {ρ : Env} {es : Nat} {ps : List (Nat × Operand)} {zs cs : List Value} (h : rowOk n ρ es 0 ps = true) (hz : zs.length = ps.length * es) (hc : flatC n ρ ps = cs) :
    Instr.fill (fun i => some (i * es, es)) zs.toArray (ps.map fun p => (p.1, ev n ρ p.2)) = some cs.toArray := by
  have := (rowOk_fill ps 0 [] zs h (by simp) hz).1
  simp only [List.nil_append] at this
  rw [this, hc]
set_option maxHeartbeats 4000000 in
theorem through_any (v : Vo) (r : Ra) (w : World) (hr : RaOk r) : Ret Try.prog 61 [.agg (vL v).toArray, .agg (rL r).toArray] w fun x w' => x = .agg (wL v r).toArray ∧ Chg No w w' := by
  refine enter Try.func61 rfl Try.ntmps61 rfl ?_
  refine go T_ok 200 rfl ?_
  refine bx rfl rfl rfl (cs := vL v) rfl ?_
  intro g1 u1 hg1 hs1 q1 B1
  refine go T_ok 200 rfl ?_
  refine bx rfl rfl rfl (cs := rL r) rfl ?_
  intro g2 u2 hg2 hs2 q2 B2
  refine go T_ok 200 rfl ?_
  refine nw rfl rfl (z := .agg #[I 0, I 0, I 0, I 0, I 0, I 0, I 0, I 0, I 0, I 0, I 0, I 0, I 0, I 0]) (by kernel_rfl) (cs := [I 0, I 0, I 0, I 0, I 0, I 0, I 0, I 0, I 0, I 0, I 0, I 0, I 0, I 0]) rfl ?_
  intro g3 u3 hg3 hs3 q3 B3
  have B1 := (B1.no q2).no q3
  have B2 := B2.no q3
  refine go T_ok 200 rfl ?_
  refine draw mixed (fun w' => Chg No u3 w') ([0,1,2,3,4,5,6,7,8,9,10,11,12,13,14,15,16,17,18,19,20,21,22,23].map (fun i => (i, true)) ++ [(24, false)] ++ [25].map (fun i => (i, true)) ++ [(26, false)]) rfl (by kernel_rfl) (Chg.drew _) ?_
  refine goH T_ok 200 rfl ?_
  refine quietH rfl (fun w' hS => r_loadA T_ok rfl rfl rfl rfl (B1.no hS).all) ?_
  refine goH T_ok 200 rfl ?_
  repeat (first | (refine quietH rfl (fun w' hS => r_load T_ok rfl rfl rfl (Bk.get (B1.no hS) rfl)) ?_; refine goH T_ok 200 rfl ?_) | (refine quietH rfl (fun w' hS => r_load T_ok rfl rfl rfl (Bk.get (B2.no hS) rfl)) ?_; refine goH T_ok 200 rfl ?_))
  refine quietH rfl (fun w' hS => r_bldA T_ok rfl rfl (z := .agg #[I 0, I 0, I 0, I 0, I 0, I 0, I 0, I 0, I 0]) (by kernel_rfl) (bldR (zs := [I 0, I 0, I 0, I 0, I 0, I 0, I 0, I 0, I 0]) rfl rfl (cs := aL v r) rfl)) ?_
  refine goH T_ok 200 rfl ?_
  refine quietH rfl (fun w' hS => r_loadA T_ok rfl rfl rfl rfl (B2.no hS).all) ?_
  refine goH T_ok 200 rfl ?_
  refine callE rfl rfl rfl (ok _ (by decide) rfl) (ticks_any r _ hr) ?_
  rintro x u4 ⟨rfl, q4⟩
  have q34 : Chg No u3 u4 := (Chg.drew _).trans q4
  refine ⟨q34, ?_⟩
  refine goH T_ok 200 rfl ?_
  refine stAL T_ok rfl rfl rfl rfl (vs := wL v r) rfl rfl rfl (B3.no q34) rfl (by kernel_rfl) ?_
  intro u5 q5 B5 hs5
  refine goH T_ok 200 rfl ?_
  refine endH ?_
  refine go T_ok 200 rfl ?_
  have B6 : Bk u5 g3 103 (wL v r) := B5
  refine ret (retR1 Try.results61 (resA T_ok rfl rfl rfl B6.all) ⟨rfl, ?_⟩)
  exact (((q1.trans q2).trans q3).trans q34).step q5 (fun k hk e => by have := q1.size; have := q2.size; omega)
end Go.Proofs.Ytkkjfjeniaiaiaa
