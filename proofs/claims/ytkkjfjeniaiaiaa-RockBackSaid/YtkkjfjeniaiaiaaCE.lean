/- The contracts of Grounds, Clash. -/
import Derived.Test.YtkkjfjeniaiaiaaCD
namespace Go.Proofs.Ytkkjfjeniaiaiaa
open Go.Ev Go.Proofs Go.Rock
attribute [local irreducible] At AtH

theorem gt_any (a b : Int) (w : World) : Ret Try.prog 74 [.int .i64 a, .int .i64 b] w fun x w' => x = .bool ((fun a b => decide (b < a)) a b) ∧ Chg No w w' := by
  refine enter Try.func74 rfl Try.ntmps74 rfl ?_
  refine go T_ok 200 rfl ?_
  exact ret (ret1 (v := .bool _) Try.results74 rfl ⟨rfl, Chg.refl _ _⟩)
theorem lt_any (a b : Int) (w : World) : Ret Try.prog 76 [.int .i64 a, .int .i64 b] w fun x w' => x = .bool ((fun a b => decide (a < b)) a b) ∧ Chg No w w' := by
  refine enter Try.func76 rfl Try.ntmps76 rfl ?_
  refine go T_ok 200 rfl ?_
  exact ret (ret1 (v := .bool _) Try.results76 rfl ⟨rfl, Chg.refl _ _⟩)
theorem best_lst (v : Vo) (st : Int) (l : List Su) (c : Int) : bestC (lowS v st) (fun a b => decide (b < a)) 0 l c = lstC v st l c := by
  unfold bestC lstC
  congr 1
  funext h s
  by_cases e : h < lowS v st s c
  · rw [if_pos (by simpa using e)]; omega
  · rw [if_neg (by simpa using e)]; omega
theorem best_mst (v : Vo) (st : Int) (l : List Su) (c : Int) : bestC (highS v st) (fun a b => decide (a < b)) (v.nz * v.sz) l c = mstC v st l c := by
  unfold bestC mstC
  congr 1
  funext h s
  by_cases e : highS v st s c < h
  · rw [if_pos (by simpa using e)]; omega
  · rw [if_neg (by simpa using e)]; omega
theorem wrE_ok {v : Vo} {st : Int} {l : List Su} (h : wrE v st l = 0) : l.length ≤ 50 ∧ VoOk v ∧ LdOk v st l := by
  unfold wrE at h
  split at h
  · omega
  · split at h
    · rename_i h1 h2
      exact ⟨by omega, h2⟩
    · omega
def clR (v : Vo) (st : Int) (l : List Su) : Int × Int × Int := if wrE v st l ≠ 0 then (0, 0, wrE v st l) else match clsh v st l with
  | none => (0, 0, 5)
  | some (i, k) => ((i : Int), (k : Int), 0)
def gdR (v : Vo) (st : Int) (l : List Su) : Int × List Int × List Int := if wrE v st l ≠ 0 then (wrE v st l, [], []) else match clsh v st l with
  | none => (0, lst v st l, mst v st l)
  | some _ => (7, [], [])
set_option maxHeartbeats 4000000 in
theorem Clash_any (v : Vo) (st : Int) (l : List Su) (A : Option Addr) (c B : Nat) (w : World) (hL : l.length ≤ maxLen) (hS : Sl w B 3 A l.length (l.flatMap sL)) :
    Ret Try.prog 30 [.agg (vL v).toArray, .int .i64 st, .slice A l.length c] w fun x w' => x = .tuple #[.int .i64 (clR v st l).1, .int .i64 (clR v st l).2.1, .int .i64 (clR v st l).2.2] ∧ Chg No w w' := by
  refine enter Try.func30 rfl Try.ntmps30 rfl ?_
  refine go T_ok 200 rfl ?_
  refine bx rfl rfl rfl (cs := vL v) rfl ?_
  intro g1 u1 hg1 hs1 q1 B1
  refine go T_ok 200 rfl ?_
  refine ldA T_ok rfl rfl rfl rfl rfl B1.all ?_
  refine go T_ok 200 rfl ?_
  refine nw rfl rfl (z := .agg #[I 0, I 0, I 0, I 0, I 0, .slice none 0 0]) (by kernel_rfl) (cs := [I 0, I 0, I 0, I 0, I 0, .slice none 0 0]) rfl ?_
  intro g2 u2 hg2 hs2 q2 B2
  refine go T_ok 200 rfl ?_
  refine stA T_ok rfl rfl rfl rfl (vs := ldL v st A l.length c) rfl rfl rfl B2 rfl ?_
  intro u3 q3 B3 hs3
  have B3 : Bk u3 g2 115 (ldL v st A l.length c) := B3
  have B1 := (B1.no q2).keep q3 (by omega)
  have q03 : Chg No w u3 := (q1.trans q2).step q3 (fun k hk e => by have := q1.size; omega)
  refine go T_ok 200 rfl ?_
  refine ldA T_ok rfl rfl rfl rfl rfl B3.all ?_
  refine go T_ok 200 rfl ?_
  refine call rfl rfl rfl (ok _ (by decide) rfl) (wrong_any v st l A c B _ hL (hS.no q03)) ?_
  rintro x u4 ⟨rfl, q4⟩
  have B1 := B1.no q4
  have B3 := B3.no q4
  have q04 := q03.trans q4
  refine go T_ok 200 rfl ?_
  refine cond rfl (fun he => ?_) (fun he => ?_)
  · have he : wrE v st l ≠ 0 := by simpa using he
    have hR : clR v st l = (0, 0, wrE v st l) := by unfold clR; rw [if_pos he]
    rw [hR]
    refine go T_ok 200 rfl ?_
    exact ret (ret3 (v := .int .i64 0) (x := .int .i64 0) (y := .int .i64 _) Try.results30 rfl rfl rfl ⟨rfl, q04⟩)
  · have he : wrE v st l = 0 := by simpa using he
    obtain ⟨h50, hv, hl⟩ := wrE_ok he
    have hR : clR v st l = match clsh v st l with | none => (0, 0, 5) | some (i, k) => ((i : Int), (k : Int), 0) := by unfold clR; rw [if_neg (by omega)]
    refine go T_ok 200 rfl ?_
    refine ldA T_ok rfl rfl rfl rfl rfl B3.all ?_
    refine go T_ok 200 rfl ?_
    refine call rfl rfl rfl (ok _ (by decide) rfl) (clash_any v st l A c B _ hv hl h50 (hS.no q04)) ?_
    rintro x u5 ⟨rfl, q5⟩
    cases hcl : clsh v st l with
    | none =>
      rw [hcl] at hR
      rw [hR]
      refine go T_ok 200 rfl ?_
      refine condT rfl rfl ?_
      refine go T_ok 200 rfl ?_
      exact ret (ret3 (v := .int .i64 0) (x := .int .i64 0) (y := .int .i64 5) Try.results30 rfl rfl rfl ⟨rfl, q04.trans q5⟩)
    | some p =>
      obtain ⟨i, k⟩ := p
      rw [hcl] at hR
      rw [hR]
      refine go T_ok 200 rfl ?_
      refine condF rfl rfl ?_
      refine go T_ok 200 rfl ?_
      exact ret (ret3 (v := .int .i64 _) (x := .int .i64 _) (y := .int .i64 0) Try.results30 rfl rfl rfl ⟨rfl, q04.trans q5⟩)
set_option maxHeartbeats 4000000 in
theorem Grounds_any (v : Vo) (st : Int) (l : List Su) (A : Option Addr) (c B : Nat) (w : World) (hL : l.length ≤ maxLen) (hS : Sl w B 3 A l.length (l.flatMap sL)) :
    Ret Try.prog 29 [.agg (vL v).toArray, .int .i64 st, .slice A l.length c] w fun x w' => ∃ A1 c1 A2 c2 e a b, x = .tuple #[.slice A1 a.length c1, .slice A2 b.length c2, .int .i64 e] ∧ Sl w' w'.heap.size 1 A1 a.length (iL a) ∧ Sl w' w'.heap.size 1 A2 b.length (iL b) ∧ Chg No w w' ∧ (e, a, b) = gdR v st l := by
  refine enter Try.func29 rfl Try.ntmps29 rfl ?_
  refine go T_ok 200 rfl ?_
  refine bx rfl rfl rfl (cs := vL v) rfl ?_
  intro g1 u1 hg1 hs1 q1 B1
  refine go T_ok 200 rfl ?_
  refine ldA T_ok rfl rfl rfl rfl rfl B1.all ?_
  refine go T_ok 200 rfl ?_
  refine nw rfl rfl (z := .agg #[I 0, I 0, I 0, I 0, I 0, .slice none 0 0]) (by kernel_rfl) (cs := [I 0, I 0, I 0, I 0, I 0, .slice none 0 0]) rfl ?_
  intro g2 u2 hg2 hs2 q2 B2
  refine go T_ok 200 rfl ?_
  refine stA T_ok rfl rfl rfl rfl (vs := ldL v st A l.length c) rfl rfl rfl B2 rfl ?_
  intro u3 q3 B3 hs3
  have B3 : Bk u3 g2 115 (ldL v st A l.length c) := B3
  have B1 := (B1.no q2).keep q3 (by omega)
  have q03 : Chg No w u3 := (q1.trans q2).step q3 (fun k hk e => by have := q1.size; omega)
  refine go T_ok 200 rfl ?_
  refine ldA T_ok rfl rfl rfl rfl rfl B3.all ?_
  refine go T_ok 200 rfl ?_
  refine call rfl rfl rfl (ok _ (by decide) rfl) (wrong_any v st l A c B _ hL (hS.no q03)) ?_
  rintro x u4 ⟨rfl, q4⟩
  have B1 := B1.no q4
  have B3 := B3.no q4
  have q04 := q03.trans q4
  refine go T_ok 200 rfl ?_
  refine cond rfl (fun he => ?_) (fun he => ?_)
  · have he : wrE v st l ≠ 0 := by simpa using he
    refine go T_ok 200 rfl ?_
    exact ret (ret3 (v := .slice none 0 0) (x := .slice none 0 0) (y := .int .i64 _) Try.results29 rfl rfl rfl ⟨none, 0, none, 0, _, [], [], rfl, slNil _ _ _, slNil _ _ _, q04, by unfold gdR; rw [if_pos he]⟩)
  · have he : wrE v st l = 0 := by simpa using he
    obtain ⟨h50, hv, hl⟩ := wrE_ok he
    have hxy := vo_xy hv
    have hzs := vo_zs hv
    have hR : gdR v st l = match clsh v st l with | none => (0, lst v st l, mst v st l) | some _ => (7, [], []) := by unfold gdR; rw [if_neg (by omega)]
    refine go T_ok 200 rfl ?_
    refine ldA T_ok rfl rfl rfl rfl rfl B3.all ?_
    refine go T_ok 200 rfl ?_
    refine call rfl rfl rfl (ok _ (by decide) rfl) (clash_any v st l A c B _ hv hl h50 (hS.no q04)) ?_
    rintro x u5 ⟨rfl, q5⟩
    have q05 := q04.trans q5
    have B1 := B1.no q5
    have B3 := B3.no q5
    cases hcl : clsh v st l with
    | some p =>
      obtain ⟨i, k⟩ := p
      rw [hcl] at hR
      refine go T_ok 200 rfl ?_
      refine condT rfl rfl ?_
      refine go T_ok 200 rfl ?_
      exact ret (ret3 (v := .slice none 0 0) (x := .slice none 0 0) (y := .int .i64 7) Try.results29 rfl rfl rfl ⟨none, 0, none, 0, 7, [], [], rfl, slNil _ _ _, slNil _ _ _, q05, hR.symm⟩)
    | none =>
      rw [hcl] at hR
      refine go T_ok 200 rfl ?_
      refine condF rfl rfl ?_
      have e1 : w64 (v.nx * v.ny) = (((v.nx * v.ny).toNat : Nat) : Int) := by rw [w64_id (by omega) (by omega)]; omega
      have e2 : w64 (v.nz * v.sz) = v.nz * v.sz := w64_id (by omega) (by omega)
      refine go T_ok 200 rfl ?_
      repeat (first | (refine ld T_ok rfl rfl rfl rfl (Bk.get B1 rfl) ?_; refine go T_ok 200 rfl ?_) | (refine guardA (b := true) rfl rfl rfl rfl (fun _ => ?_) (fun e => by cases e); refine go T_ok 200 rfl ?_) | (refine guardA (b := false) rfl rfl rfl rfl (fun e => by cases e) (fun _ => ?_); refine go T_ok 200 rfl ?_) | (refine condT rfl rfl ?_; refine go T_ok 200 rfl ?_) | (refine condF rfl rfl ?_; refine go T_ok 200 rfl ?_))
      rw [e1]
      refine draw mixed (fun w' => Chg No u5 w') ([0,1,2,3,5,6,7,8,9,10,11,12,13].map (fun i => (i, true)) ++ [(4, false)] ++ [(14, false)] ++ [15,16,17].map (fun i => (i, true))) rfl (by kernel_rfl) (Chg.drew _) ?_
      refine goH T_ok 200 rfl ?_
      refine quietH rfl (fun w' hS => r_loadA T_ok rfl rfl rfl rfl (B3.no hS).all) ?_
      refine goH T_ok 200 rfl ?_
      repeat (first | (refine quietH rfl (fun w' hS => r_load T_ok rfl rfl rfl (Bk.get (B1.no hS) rfl)) ?_; refine goH T_ok 200 rfl ?_))
      rw [e2]
      refine quietH rfl (fun w' hS => r_loadA T_ok rfl rfl rfl rfl (B3.no hS).all) ?_
      refine goH T_ok 200 rfl ?_
      have hsL : ∀ (F : Su → Int → Int) (fn : Nat), (∀ (s : Su) (b : Int) (w : World), SuOk v s → 0 ≤ b → b < v.nx * v.ny → Ret Try.prog fn [.agg (ldL v st A l.length c).toArray, .agg (sL s).toArray, .int .i64 b] w fun x w' => x = .int .i64 (F s b) ∧ Chg No w w') →
          ∀ s ∈ l, ∀ i : Nat, i < (v.nx * v.ny).toNat → ∀ w', Ret Try.prog fn ([.agg (ldL v st A l.length c).toArray] ++ [.agg (sL s).toArray, .int .i64 (i : Int)]) w' fun x w'' => x = .int .i64 (F s (i : Int)) ∧ Chg No w' w'' :=
        fun F fn h s hs i hi w' => h s (i : Int) w' (hl.1 s hs) (by omega) (by omega)
      refine callE rfl rfl rfl (ok _ (by decide) rfl) (best_any (lowS v st) (fun a b => decide (b < a)) 73 [.agg (ldL v st A l.length c).toArray] 74 (v.nx * v.ny).toNat 0 l A c B _ (by omega) h50 ((hS.no q05).no (Chg.drew _)) (ok _ (by decide) rfl) (ok _ (by decide) rfl) (hsL _ 73 fun s b w h1 h2 h3 => low_any v st s b A l.length c w hv hl.2.1 hl.2.2 h1 h2 h3) gt_any) ?_
      rintro x u6 ⟨A6, c6, rfl, S6, q6⟩
      have q56 := (Chg.drew u5).trans q6
      refine ⟨q56, ?_⟩
      refine goH T_ok 200 rfl ?_
      refine callE rfl rfl rfl (ok _ (by decide) rfl) (best_any (highS v st) (fun a b => decide (a < b)) 75 [.agg (ldL v st A l.length c).toArray] 76 (v.nx * v.ny).toNat (v.nz * v.sz) l A c B _ (by omega) h50 ((hS.no q05).no q56) (ok _ (by decide) rfl) (ok _ (by decide) rfl) (hsL _ 75 fun s b w h1 h2 h3 => high_any v st s b A l.length c w hv hl.2.1 hl.2.2 h1 h2 h3) lt_any) ?_
      rintro x u7 ⟨A7, c7, rfl, S7, q7⟩
      have q57 := q56.trans q7
      refine ⟨q57, ?_⟩
      refine goH T_ok 200 rfl ?_
      refine endH ?_
      refine go T_ok 200 rfl ?_
      have hla : ((List.range (v.nx * v.ny).toNat).map fun (i : Nat) => bestC (lowS v st) (fun a b => decide (b < a)) 0 l (i : Int)) = lst v st l := by
        unfold lst
        exact List.map_congr_left fun i _ => best_lst v st l _
      have hlb : ((List.range (v.nx * v.ny).toNat).map fun (i : Nat) => bestC (highS v st) (fun a b => decide (a < b)) (v.nz * v.sz) l (i : Int)) = mst v st l := by
        unfold mst
        exact List.map_congr_left fun i _ => best_mst v st l _
      rw [hla] at S6
      rw [hlb] at S7
      have hl1 : (v.nx * v.ny).toNat = (lst v st l).length := by simp [lst]
      have hl2 : (v.nx * v.ny).toNat = (mst v st l).length := by simp [mst]
      refine ret (ret3 (v := .slice _ _ _) (x := .slice _ _ _) (y := .int .i64 0) Try.results29 rfl rfl rfl ⟨A6, c6, A7, c7, 0, lst v st l, mst v st l, ?_, ?_, ?_, q05.trans q57, hR.symm⟩)
      · rw [← hl1, ← hl2]
      · rw [← hl1]; exact (S6.no q7).more q7.size (Nat.le_refl _)
      · rw [← hl2]; exact S7
end Go.Proofs.Ytkkjfjeniaiaiaa
