/- The contracts of the specification's Set and Compare, All, few, example and whole. -/
import Derived.Test.YtocolpbakaibnaaR6
namespace Go.Proofs.Ytocolpbakaibnaa
open Go.Ev Go.Proofs Go.Cnt
attribute [local irreducible] At AtH

set_option maxRecDepth 20000 in
theorem rSet_any (xs : List Bool) (D : Nat) (lv : Int) (A : Option Addr) (c B : Nat) (w : World) (hSl : Sl w B 1 A xs.length (boolVs xs)) (hd0 : 2 ≤ D) (hd1 : D ≤ 1000) (hn : xs.length ≤ 4000) (hl0 : 0 ≤ lv) (hl1 : lv ≤ 8000000000000) :
    Ret Try.prog 38 [.slice A xs.length c, .int .i64 D, .int .i64 lv] w fun v w' => v = .tuple #[.agg #[.int .i64 (hullL (rkeptL D lv xs)).1, .int .i64 (hullL (rkeptL D lv xs)).2], .bool (!(rkeptL D lv xs).isEmpty)] ∧ Chg No w w' := by
  refine enter Try.func38 rfl Try.ntmps38 rfl ?_
  refine go T_ok 100 rfl ?_
  refine nw rfl rfl (z := .agg #[.int .i64 0, .int .i64 0]) (by kernel_rfl) (cs := [.int .i64 0, .int .i64 0]) rfl ?_
  intro a w1 hg hg1 q1 B1
  refine go T_ok 100 rfl ?_
  refine call rfl rfl rfl (ok _ (by decide) rfl) (rKept_any xs D lv A c B w1 (hSl.no q1) hd0 hd1 hn hl0 hl1) ?_
  rintro v w2 ⟨A', c', rfl, q2, hown⟩
  refine go T_ok 100 rfl ?_
  have hlen : (rkeptL D lv xs).length ≤ D + 1 := spansTo_len _ _
  generalize rkeptL D lv xs = l at hown hlen ⊢
  have B2 := B1.no q2
  refine cond rfl (fun he => ?_) (fun he => ?_)
  · have he : l = [] := List.length_eq_zero_iff.1 (by have := beq_iff_eq.1 he; omega)
    refine go T_ok 100 rfl ?_
    refine stA (vs := [.int .i64 0, .int .i64 0]) T_ok rfl rfl rfl rfl rfl rfl rfl B2 rfl ?_
    intro w3 q3 B3 _
    refine go T_ok 100 rfl ?_
    refine ret (retR2 (v := .agg #[.int .i64 0, .int .i64 0]) (x := .bool false) Try.results38 (resA T_ok rfl rfl (cs := [.int .i64 0, .int .i64 0]) rfl B3.all) rfl ⟨?_, (q1.trans q2).step q3 (fun k hk e => absurd e (by omega))⟩)
    rw [he]
    rfl
  · have hne : l ≠ [] := by intro e; rw [e] at he; cases he
    have hl0 : 0 < l.length := List.length_pos_iff.2 hne
    refine go T_ok 100 rfl ?_
    obtain ⟨_, _, hA⟩ := own_sl hown
    obtain ⟨r, off, rfl, hr, hcells⟩ := hA hl0
    obtain ⟨s, hs⟩ : ∃ s, l[0]? = some s := ⟨l[0], List.getElem?_eq_getElem hl0⟩
    obtain ⟨t, ht⟩ : ∃ t, l[l.length - 1]? = some t := ⟨l[l.length - 1], List.getElem?_eq_getElem (by omega)⟩
    have L1 := hcells 0 _ (spL_get hs).1
    have L2 := hcells (2 * (l.length - 1) + 1) _ (spL_get ht).2
    have el : w64 ((l.length : Int) - 1) = ((l.length - 1 : Nat) : Int) := w64_id (by omega) (by omega) |>.trans (by omega)
    have e0 : off + 0 * 2 = off + 0 := by omega
    have e3 : off + (l.length - 1) * 2 + 1 = off + (2 * (l.length - 1) + 1) := by omega
    have hB : ∀ {w' : World}, Chg (fun x => x = a) w2 w' → w'.cell? ⟨r, off + 0, none⟩ = some (.int .i64 s.1) ∧ w'.cell? ⟨r, off + (2 * (l.length - 1) + 1), none⟩ = some (.int .i64 t.2) := by
      intro w' h
      have hra : ¬ (fun x => x = a) r := by
        intro e
        have h1 : w1.heap.size ≤ r := own_ge hown rfl
        have e : r = a := e
        omega
      exact ⟨(h.cell (a := ⟨r, off + 0, none⟩) hr hra).trans L1, (h.cell (a := ⟨r, _, none⟩) hr hra).trans L2⟩
    refine draw mixed (fun w' => Chg (fun x => x = a) w2 w') ([0,1,2,3,4,5,6,7,8,9,10,11].map (fun i => (i, true)) ++ [(12, false)] ++ [13].map (fun i => (i, true))) rfl (by kernel_rfl) ((Chg.refl _ _).no (Chg.drew _)) ?_
    refine goH T_ok 100 rfl ?_
    refine quietH rfl (fun w' hS => r_idx T_ok rfl rfl rfl rfl 0 rfl (by omega)) ?_
    refine goH T_ok 100 rfl ?_
    rw [e0]
    refine quietH rfl (fun w' hS => r_load T_ok rfl rfl rfl (hB hS).1) ?_
    refine goH T_ok 100 rfl ?_
    rw [el]
    refine quietH rfl (fun w' hS => r_idx T_ok rfl rfl rfl rfl (l.length - 1) rfl (by omega)) ?_
    refine goH T_ok 100 rfl ?_
    rw [e3]
    refine quietH rfl (fun w' hS => r_load T_ok rfl rfl rfl (hB hS).2) ?_
    refine goH T_ok 100 rfl ?_
    refine stAE (vs := [.int .i64 s.1, .int .i64 t.2]) T_ok rfl rfl rfl rfl rfl rfl rfl (B2.no (Chg.drew _)) rfl ?_
    intro w3 q3 B3 _
    refine ⟨((Chg.refl _ _).no (Chg.drew _)).trans q3, ?_⟩
    refine goH T_ok 100 rfl ?_
    refine endH ?_
    refine go T_ok 100 rfl ?_
    refine ret (retR2 (v := .agg #[.int .i64 s.1, .int .i64 t.2]) (x := .bool true) Try.results38 (resA T_ok rfl rfl (cs := [.int .i64 s.1, .int .i64 t.2]) rfl B3.all) rfl ⟨?_, ?_⟩)
    · have h1 : l.headD (0, 0) = s := by
        cases l with
        | nil => simp at hs
        | cons x l => simpa using hs
      have h2 : l.getLastD (0, 0) = t := by
        rw [List.getLastD_eq_getLast?, List.getLast?_eq_getElem?, ht]
        rfl
      have h3 : l.isEmpty = false := by cases l with
        | nil => exact absurd rfl hne
        | cons x l => rfl
      simp only [hullL, h1, h2, h3]
      rfl
    · exact ((q1.trans q2).no (Chg.drew _)).step q3 fun k hk e => absurd e (by omega)
theorem few_any (A : Option Addr) (n c : Nat) (D m : Int) (w : World) : Ret Try.prog 30 [.slice A n c, .int .i64 D, .int .i64 m] w fun v w' =>
    v = .bool ((decide ((n : Int) ≤ m) || (decide (4000 < (n : Int)) && decide ((n : Int) ≤ 4010))) && (decide (D ≤ 40) || decide (1000 < D))) ∧ w = w' := by
  refine enter Try.func30 rfl Try.ntmps30 rfl ?_
  refine go T_ok 100 rfl ?_
  refine guardD rfl rfl rfl (fun h1 => ?_) (fun h1 => ?_)
  · refine go T_ok 100 rfl ?_
    refine guardD rfl rfl rfl (fun h4 => ?_) (fun h4 => ?_)
    · refine go T_ok 100 rfl ?_
      exact ret (ret1 (v := .bool _) Try.results30 rfl ⟨by simp [h1, h4], rfl⟩)
    · refine go T_ok 100 rfl ?_
      exact ret (ret1 (v := .bool _) Try.results30 rfl ⟨by simp [h1, h4], rfl⟩)
  · refine go T_ok 100 rfl ?_
    refine guardD rfl rfl rfl (fun h2 => ?_) (fun h2 => ?_)
    · refine go T_ok 100 rfl ?_
      refine guardD rfl rfl rfl (fun h3 => ?_) (fun h3 => ?_)
      · refine go T_ok 100 rfl ?_
        refine guardD rfl rfl rfl (fun h4 => ?_) (fun h4 => ?_)
        · refine go T_ok 100 rfl ?_
          exact ret (ret1 (v := .bool _) Try.results30 rfl ⟨by simp [h1, h2, h3, h4], rfl⟩)
        · refine go T_ok 100 rfl ?_
          exact ret (ret1 (v := .bool _) Try.results30 rfl ⟨by simp [h1, h2, h3, h4], rfl⟩)
      · refine go T_ok 100 rfl ?_
        exact ret (ret1 (v := .bool _) Try.results30 rfl ⟨by simp [h1, h2, h3], rfl⟩)
    · refine go T_ok 100 rfl ?_
      exact ret (ret1 (v := .bool _) Try.results30 rfl ⟨by simp [h1, h2], rfl⟩)
end Go.Proofs.Ytocolpbakaibnaa
