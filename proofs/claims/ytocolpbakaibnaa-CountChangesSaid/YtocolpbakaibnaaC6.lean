/- The contracts of Kept, Set, Excluded and Decide. -/
import Derived.Test.YtocolpbakaibnaaC5
namespace Go.Proofs.Ytocolpbakaibnaa
open Go.Ev Go.Proofs Go.Cnt
attribute [local irreducible] At AtH

theorem listedE_zero {n : Nat} {D : Int} {b : Bool} (h : listedE n D b = 0) : ∃ d : Nat, D = d ∧ 2 ≤ d ∧ d ≤ 1000 ∧ n ≤ 4000 ∧ b = true := by
  unfold listedE at h
  split at h
  · omega
  · rename_i h1
    rw [Bool.not_eq_false, inB_iff] at h1
    split at h
    · omega
    · split at h
      · rename_i hb
        exact ⟨D.toNat, by omega, by omega, by omega, by omega, hb⟩
      · omega
/-- the states of all rates after some slots -/
def sts (D : Nat) (lv : Int) (xs : List Bool) : Nat → BS := fun j => bst D lv j xs
/-- the runs of kept rates -/
def keptL (D : Nat) (lv : Int) (xs : List Bool) : List (Nat × Nat) := spansTo (kp (sts D lv xs)) (D + 1)
theorem keptL_len (D : Nat) (lv : Int) (xs : List Bool) : (keptL D lv xs).length ≤ D + 1 := spansTo_len _ _
theorem Kept_any (xs : List Bool) (D lv : Int) (A : Option Addr) (c B : Nat) (w : World) (hSl : Sl w B 1 A xs.length (boolVs xs)) :
    Ret Try.prog 21 [.slice A xs.length c, .int .i64 D, .int .i64 lv] w fun v w' => Chg No w w' ∧
      (listedE xs.length D (inB lv 2 900000) ≠ 0 ∧ v = .tuple #[.slice none 0 0, .int .i64 (listedE xs.length D (inB lv 2 900000))] ∨
       listedE xs.length D (inB lv 2 900000) = 0 ∧ ∃ A' c', v = .tuple #[.slice A' (keptL D.toNat lv xs).length c', .int .i64 0] ∧ w'.ownsRow w.heap.size 65 2 (.slice A' (keptL D.toNat lv xs).length c') (keptL D.toNat lv xs).length (spL (keptL D.toNat lv xs))) := by
  refine enter Try.func21 rfl Try.ntmps21 rfl ?_
  refine go T_ok 100 rfl ?_
  refine bx rfl rfl rfl (cs := [.int .i64 lv]) rfl ?_
  intro g1 w1 hg1 hs1 q1 B1
  refine go T_ok 100 rfl ?_
  refine call rfl rfl rfl (ok _ (by decide) rfl) (listed_any A xs.length c D 52 [.pointer (some ⟨g1, 0, none⟩)] (ok _ (by decide) rfl) _ w1 (lev52 lv g1 w1 B1)) ?_
  rintro v w2 ⟨rfl, rfl⟩
  refine go T_ok 100 rfl ?_
  refine cond rfl (fun h => ?_) (fun h => ?_)
  · have h : listedE xs.length D (inB lv 2 900000) ≠ 0 := by simpa using h
    refine go T_ok 100 rfl ?_
    exact ret (ret2 (v := .slice _ _ _) (x := .int .i64 _) Try.results21 rfl rfl ⟨q1, .inl ⟨h, rfl⟩⟩)
  · have h : listedE xs.length D (inB lv 2 900000) = 0 := by simpa using h
    obtain ⟨d, rfl, hd0, hd1, hn, hlv⟩ := listedE_zero h
    rw [inB_iff] at hlv
    refine go T_ok 100 rfl ?_
    refine ld T_ok rfl rfl rfl rfl (B1.get rfl) ?_
    refine go T_ok 100 rfl ?_
    refine call rfl rfl rfl (ok _ (by decide) rfl) (begin_any d lv w1 hd0 hd1) ?_
    rintro v w2 ⟨b, g, rfl, hb, hg, q2, H⟩
    refine go T_ok 100 rfl ?_
    have hB := hSl.2.1
    have hs := q1.size
    refine call rfl rfl rfl (ok _ (by decide) rfl) (run_any xs d lv b g B c A w2 ((hSl.no q1).no q2) (by omega) (by omega) H hn hd0 hd1 (by omega) (by omega)) ?_
    rintro v w3 ⟨rfl, q3, H3⟩
    refine go T_ok 100 rfl ?_
    refine call rfl rfl rfl (ok _ (by decide) rfl) (spans_any b g d lv (sts d lv xs) w3 H3 hd1) ?_
    rintro v w4 ⟨A', c', rfl, q4, hown⟩
    refine go T_ok 100 rfl ?_
    have q13 : Chg No w w3 := (q1.trans q2).step q3 (fun k hk h => by rcases h with h | h <;> omega)
    exact ret (ret2 (v := .slice _ _ _) (x := .int .i64 _) Try.results21 rfl rfl ⟨q13.trans q4, .inr ⟨h, A', c', rfl, own_base hown (q13.size)⟩⟩)

theorem kept_cnt {D : Nat} {S : Nat → BS} : ((cnt (fun j => !(S j).out) (D + 1) : Int) == 0) = (spansTo (kp S) (D + 1)).isEmpty := by
  rw [Bool.eq_iff_iff]
  simp only [beq_iff_eq, List.isEmpty_iff]
  constructor
  · intro h
    have h : cnt (fun j => !(S j).out) (D + 1) = 0 := by omega
    rw [cnt_zero] at h
    cases hl : spansTo (kp S) (D + 1) with
    | nil => rfl
    | cons s l =>
      have hs : s ∈ spansTo (kp S) (D + 1) := by rw [hl]; exact List.mem_cons_self
      obtain ⟨h1, h2, h3⟩ := spansTo_run hs
      have h4 := h3 s.1 (Nat.le_refl _) h1
      have h5 := h s.1 (by omega)
      simp only [kp] at h4
      rw [h5] at h4
      cases h4
  · intro h
    have : cnt (fun j => !(S j).out) (D + 1) = 0 := by
      rw [cnt_zero]
      intro j hj
      cases hp : (!(S j).out) with
      | false => rfl
      | true =>
        obtain ⟨s, hs, _⟩ := spansTo_has (p := kp S) hj hp
        rw [h] at hs
        cases hs
    omega
set_option maxRecDepth 20000 in
theorem Set_any (xs : List Bool) (D lv : Int) (A : Option Addr) (c B : Nat) (w : World) (hSl : Sl w B 1 A xs.length (boolVs xs)) :
    Ret Try.prog 37 [.slice A xs.length c, .int .i64 D, .int .i64 lv] w fun v w' => Chg No w w' ∧
      v = .tuple #[(if listedE xs.length D (inB lv 2 900000) = 0 then .agg #[.int .i64 (hullL (keptL D.toNat lv xs)).1, .int .i64 (hullL (keptL D.toNat lv xs)).2] else .agg #[.int .i64 0, .int .i64 0]),
        .int .i64 (if listedE xs.length D (inB lv 2 900000) = 0 then (if (keptL D.toNat lv xs).isEmpty then 5 else 0) else listedE xs.length D (inB lv 2 900000))] := by
  refine enter Try.func37 rfl Try.ntmps37 rfl ?_
  refine go T_ok 100 rfl ?_
  refine bx rfl rfl rfl (cs := [.int .i64 lv]) rfl ?_
  intro g1 w1 hg1 hs1 q1 B1
  refine go T_ok 100 rfl ?_
  refine nw rfl rfl (z := .agg #[.int .i64 0, .int .i64 0]) (by kernel_rfl) (cs := [.int .i64 0, .int .i64 0]) rfl ?_
  intro a wa hga hsa qa Ba
  have B1 := B1.no qa
  refine go T_ok 100 rfl ?_
  refine call rfl rfl rfl (ok _ (by decide) rfl) (listed_any A xs.length c D 66 [.pointer (some ⟨g1, 0, none⟩)] (ok _ (by decide) rfl) _ wa (lev66 lv g1 wa B1)) ?_
  rintro v w2 ⟨rfl, rfl⟩
  refine go T_ok 100 rfl ?_
  refine cond rfl (fun h => ?_) (fun h => ?_)
  · have h : listedE xs.length D (inB lv 2 900000) ≠ 0 := by simpa using h
    refine go T_ok 100 rfl ?_
    refine stA (vs := [.int .i64 0, .int .i64 0]) T_ok rfl rfl rfl rfl rfl rfl rfl Ba rfl ?_
    intro w3 q3 B3 _
    refine go T_ok 100 rfl ?_
    refine ret (retR2 (v := .agg #[.int .i64 0, .int .i64 0]) (x := .int .i64 _) Try.results37 (resA T_ok rfl rfl (cs := [.int .i64 0, .int .i64 0]) rfl B3.all) rfl ⟨(q1.trans qa).step q3 (fun k hk e => absurd e (by omega)), ?_⟩)
    rw [if_neg h, if_neg h]
  · have h : listedE xs.length D (inB lv 2 900000) = 0 := by simpa using h
    obtain ⟨d, rfl, hd0, hd1, hn, hlv⟩ := listedE_zero h
    rw [inB_iff] at hlv
    rw [if_pos h, if_pos h]
    refine go T_ok 100 rfl ?_
    refine ld T_ok rfl rfl rfl rfl (B1.get rfl) ?_
    refine go T_ok 100 rfl ?_
    refine call rfl rfl rfl (ok _ (by decide) rfl) (begin_any d lv wa hd0 hd1) ?_
    rintro v w2 ⟨b, g, rfl, hb, hg, q2, H⟩
    refine go T_ok 100 rfl ?_
    have hB := hSl.2.1
    have hs := q1.size
    refine call rfl rfl rfl (ok _ (by decide) rfl) (run_any xs d lv b g B c A w2 (((hSl.no q1).no qa).no q2) (by omega) (by omega) H hn hd0 hd1 (by omega) (by omega)) ?_
    rintro v w3 ⟨rfl, q3, H3⟩
    refine go T_ok 100 rfl ?_
    have q13 : Chg No w w3 := ((q1.trans qa).trans q2).step q3 (fun k hk h => by rcases h with h | h <;> omega)
    have Ba3 := (Ba.no q2).keep q3 (by omega)
    obtain ⟨f, cap, Rb, a0, a1, a2, a3, a4, a5⟩ := id H3.par
    refine ld T_ok rfl rfl rfl rfl ((Rb.cell (i := 0 + 1004) (by omega)).trans (congrArg some a3)) ?_
    refine go T_ok 100 rfl ?_
    refine cond rfl (fun he => ?_) (fun he => ?_)
    · rw [kept_cnt] at he
      have he : (keptL d lv xs).isEmpty = true := he
      refine go T_ok 100 rfl ?_
      refine stA (vs := [.int .i64 0, .int .i64 0]) T_ok rfl rfl rfl rfl rfl rfl rfl Ba3 rfl ?_
      intro w4 q4 B4 _
      refine go T_ok 100 rfl ?_
      refine ret (retR2 (v := .agg #[.int .i64 0, .int .i64 0]) (x := .int .i64 _) Try.results37 (resA T_ok rfl rfl (cs := [.int .i64 0, .int .i64 0]) rfl B4.all) rfl ⟨q13.step q4 (fun k hk e => absurd e (by omega)), ?_⟩)
      rw [Int.toNat_natCast, he, List.isEmpty_iff.1 he]
      rfl
    · rw [kept_cnt] at he
      have he : (keptL d lv xs).isEmpty = false := he
      refine go T_ok 100 rfl ?_
      refine call rfl rfl rfl (ok _ (by decide) rfl) (hull_any b g d lv (sts d lv xs) w3 H3 hd1 (by intro e; rw [keptL, e] at he; cases he)) ?_
      rintro v w4 ⟨rfl, q4⟩
      refine go T_ok 100 rfl ?_
      refine stA (vs := [.int .i64 _, .int .i64 _]) T_ok rfl rfl rfl rfl rfl rfl rfl (Ba3.no q4) rfl ?_
      intro w5 q5 B5 _
      refine go T_ok 100 rfl ?_
      refine ret (retR2 (v := .agg #[.int .i64 _, .int .i64 _]) (x := .int .i64 _) Try.results37 (resA T_ok rfl rfl (cs := [.int .i64 _, .int .i64 _]) rfl B5.all) rfl ⟨(q13.trans q4).step q5 (fun k hk e => absurd e (by omega)), ?_⟩)
      rw [Int.toNat_natCast, he]
      rfl
end Go.Proofs.Ytocolpbakaibnaa
