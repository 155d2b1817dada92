/- The contracts of Excluded and Decide. -/
import Derived.Test.YtocolpbakaibnaaC6
namespace Go.Proofs.Ytocolpbakaibnaa
open Go.Ev Go.Proofs Go.Cnt
attribute [local irreducible] At AtH

theorem inB_nat {x D : Int} (h : inB x 0 D = true) : ∃ k : Nat, x = k ∧ (k : Int) ≤ D := by
  rw [inB_iff] at h
  exact ⟨x.toNat, by omega, by omega⟩
/-- what Excluded answers -/
def exclE (n : Nat) (D lv x : Int) : Int := listedE n D (inB lv 2 900000 && inB x 0 D)
theorem Excluded_any (xs : List Bool) (D lv x : Int) (A : Option Addr) (c B : Nat) (w : World) (hSl : Sl w B 1 A xs.length (boolVs xs)) :
    Ret Try.prog 32 [.slice A xs.length c, .int .i64 D, .int .i64 lv, .int .i64 x] w fun v w' => Chg No w w' ∧
      v = .tuple #[.int .i64 (if exclE xs.length D lv x = 0 ∧ (bst D lv x xs).out = true then (bst D lv x xs).at_ else 0), .int .i64 (if exclE xs.length D lv x = 0 then (if (bst D lv x xs).out then 0 else 5) else exclE xs.length D lv x)] := by
  refine enter Try.func32 rfl Try.ntmps32 rfl ?_
  refine go T_ok 100 rfl ?_
  refine bx rfl rfl rfl (cs := [.int .i64 D]) rfl ?_
  intro g1 w1 hg1 hs1 q1 B1
  refine go T_ok 100 rfl ?_
  refine bx rfl rfl rfl (cs := [.int .i64 lv]) rfl ?_
  intro g2 w2 hg2 hs2 q2 B2
  refine go T_ok 100 rfl ?_
  refine bx rfl rfl rfl (cs := [.int .i64 x]) rfl ?_
  intro g3 w3 hg3 hs3 q3 B3
  have B1 := (B1.no q2).no q3
  have B2 := B2.no q3
  have q := (q1.trans q2).trans q3
  refine go T_ok 100 rfl ?_
  refine ld T_ok rfl rfl rfl rfl (B1.get rfl) ?_
  refine go T_ok 100 rfl ?_
  refine call rfl rfl rfl (ok _ (by decide) rfl) (listed_any A xs.length c D 65 [.pointer (some ⟨g2, 0, none⟩), .pointer (some ⟨g3, 0, none⟩), .pointer (some ⟨g1, 0, none⟩)] (ok _ (by decide) rfl) _ w3 (lev65 lv x D g2 g3 g1 w3 B2 B3 B1)) ?_
  rintro v w4 ⟨rfl, rfl⟩
  refine go T_ok 100 rfl ?_
  refine cond rfl (fun h => ?_) (fun h => ?_)
  · have h : exclE xs.length D lv x ≠ 0 := by simpa [exclE] using h
    refine go T_ok 100 rfl ?_
    refine ret (ret2 (v := .int .i64 _) (x := .int .i64 _) Try.results32 rfl rfl ⟨q, ?_⟩)
    rw [if_neg (fun e => h e.1), if_neg h]
    rfl
  · have h : exclE xs.length D lv x = 0 := by simpa [exclE] using h
    rw [if_pos h]
    have hcond : (exclE xs.length D lv x = 0 ∧ (bst D lv x xs).out = true) = ((bst D lv x xs).out = true) := by simp [h]
    simp only [hcond]
    obtain ⟨d, rfl, hd0, hd1, hn, hlv⟩ := listedE_zero h
    simp only [Bool.and_eq_true] at hlv
    obtain ⟨hlv, hx⟩ := hlv
    rw [inB_iff] at hlv
    obtain ⟨k, rfl, hk⟩ := inB_nat hx
    refine go T_ok 100 rfl ?_
    refine ld T_ok rfl rfl rfl rfl (B1.get rfl) ?_
    refine go T_ok 100 rfl ?_
    refine ld T_ok rfl rfl rfl rfl (B2.get rfl) ?_
    refine go T_ok 100 rfl ?_
    refine call rfl rfl rfl (ok _ (by decide) rfl) (begin_any d lv w3 hd0 hd1) ?_
    rintro v w4 ⟨b, g, rfl, hb, hg, q4, H⟩
    refine go T_ok 100 rfl ?_
    have hB := hSl.2.1
    have hs := q.size
    refine call rfl rfl rfl (ok _ (by decide) rfl) (run_any xs d lv b g B c A w4 ((hSl.no q).no q4) (by omega) (by omega) H hn hd0 hd1 (by omega) (by omega)) ?_
    rintro v w5 ⟨rfl, q5, H5⟩
    refine go T_ok 100 rfl ?_
    have q15 : Chg No w w5 := (q.trans q4).step q5 (fun k hk h => by rcases h with h | h <;> omega)
    have B35 := (B3.no q4).keep q5 (by omega)
    obtain ⟨f, cap, Rb, a0, a1, a2, a3, a4, a5⟩ := id H5.par
    have e3 : 0 + 3 + k * 1 = 3 + k := by omega
    have e5 : 0 + 1005 + k * 1 = 1005 + k := by omega
    refine draw mixed (fun w' => w' = w5.drew) ([0,1,2,3,4,5,6].map (fun i => (i, true))) rfl (by kernel_rfl) rfl ?_
    refine goH T_ok 100 rfl ?_
    refine quietH rfl (fun w' hS => r_load T_ok rfl rfl rfl (by rw [hS]; exact B35.get rfl)) ?_
    refine goH T_ok 100 rfl ?_
    refine quietH rfl (fun w' hS => r_idxA T_ok rfl rfl rfl rfl k rfl (by omega)) ?_
    refine goH T_ok 100 rfl ?_
    rw [e3]
    refine quietH rfl (fun w' hS => r_load T_ok rfl rfl rfl (by rw [hS]; exact (Rb.cell (i := 3 + k) (by omega)).trans (congrArg some (a4 k (by omega))))) ?_
    refine goH T_ok 100 rfl ?_
    refine endH ?_
    refine go T_ok 100 rfl ?_
    cases ho : (bst d lv k xs).out with
    | false =>
      refine condT rfl rfl ?_
      refine go T_ok 100 rfl ?_
      exact ret (ret2 (v := .int .i64 _) (x := .int .i64 _) Try.results32 rfl rfl ⟨q15.no (Chg.drew _), rfl⟩)
    | true =>
      refine condF rfl rfl ?_
      refine go T_ok 100 rfl ?_
      refine draw mixed (fun w' => w' = w5.drew.drew) ([0,1,2,3,4,5,6,7].map (fun i => (i, true))) rfl (by kernel_rfl) rfl ?_
      refine goH T_ok 100 rfl ?_
      refine quietH rfl (fun w' hS => r_load T_ok rfl rfl rfl (by rw [hS]; exact B35.get rfl)) ?_
      refine goH T_ok 100 rfl ?_
      refine quietH rfl (fun w' hS => r_idxA T_ok rfl rfl rfl rfl k rfl (by omega)) ?_
      refine goH T_ok 100 rfl ?_
      rw [e5]
      refine quietH rfl (fun w' hS => r_load T_ok rfl rfl rfl (by rw [hS]; exact (Rb.cell (i := 1005 + k) (by omega)).trans (congrArg some (a5 k (by omega) ho)))) ?_
      refine goH T_ok 100 rfl ?_
      refine endH ?_
      refine go T_ok 100 rfl ?_
      exact ret (ret2 (v := .int .i64 _) (x := .int .i64 _) Try.results32 rfl rfl ⟨(q15.no (Chg.drew _)).no (Chg.drew _), rfl⟩)

/-- what Decide answers -/
def decE (n : Nat) (D lv lo hi : Int) : Int := listedE n D (decB lv lo hi D)
theorem Decide_any (xs : List Bool) (D lv lo hi : Int) (A : Option Addr) (c B : Nat) (w : World) (hSl : Sl w B 1 A xs.length (boolVs xs)) (hb : -9223372036854775808 < hi ∧ hi ≤ 9223372036854775807) :
    Ret Try.prog 24 [.slice A xs.length c, .int .i64 D, .int .i64 lv, .int .i64 lo, .int .i64 hi] w fun v w' => Chg No w w' ∧
      v = .tuple #[.int .i64 (if decE xs.length D lv lo hi = 0 then (decS (sts D.toNat lv xs) D.toNat lo.toNat hi.toNat).1 else 0), .int .i64 (if decE xs.length D lv lo hi = 0 then (decS (sts D.toNat lv xs) D.toNat lo.toNat hi.toNat).2 else 0), .int .i64 (decE xs.length D lv lo hi)] := by
  refine enter Try.func24 rfl Try.ntmps24 rfl ?_
  refine go T_ok 100 rfl ?_
  refine bx rfl rfl rfl (cs := [.int .i64 D]) rfl ?_
  intro g1 w1 hg1 hs1 q1 B1
  refine go T_ok 100 rfl ?_
  refine bx rfl rfl rfl (cs := [.int .i64 lv]) rfl ?_
  intro g2 w2 hg2 hs2 q2 B2
  refine go T_ok 100 rfl ?_
  refine bx rfl rfl rfl (cs := [.int .i64 lo]) rfl ?_
  intro g3 w3 hg3 hs3 q3 B3
  refine go T_ok 100 rfl ?_
  refine bx rfl rfl rfl (cs := [.int .i64 hi]) rfl ?_
  intro g4 w4 hg4 hs4 q4 B4
  have B1 := ((B1.no q2).no q3).no q4
  have B2 := (B2.no q3).no q4
  have B3 := B3.no q4
  have q := ((q1.trans q2).trans q3).trans q4
  refine go T_ok 100 rfl ?_
  refine ld T_ok rfl rfl rfl rfl (B1.get rfl) ?_
  refine go T_ok 100 rfl ?_
  refine call rfl rfl rfl (ok _ (by decide) rfl) (listed_any A xs.length c D 57 [.pointer (some ⟨g2, 0, none⟩), .pointer (some ⟨g3, 0, none⟩), .pointer (some ⟨g4, 0, none⟩), .pointer (some ⟨g1, 0, none⟩)] (ok _ (by decide) rfl) _ w4 (lev57 lv lo hi D g2 g3 g4 g1 w4 B2 B3 B4 B1 hb)) ?_
  rintro v w5 ⟨rfl, rfl⟩
  refine go T_ok 100 rfl ?_
  refine cond rfl (fun h => ?_) (fun h => ?_)
  · have h : decE xs.length D lv lo hi ≠ 0 := by simpa [decE] using h
    refine go T_ok 100 rfl ?_
    refine ret (ret3 (v := .int .i64 _) (x := .int .i64 _) (y := .int .i64 _) Try.results24 rfl rfl rfl ⟨q, ?_⟩)
    rw [if_neg h, if_neg h]
    rfl
  · have h : decE xs.length D lv lo hi = 0 := by simpa [decE] using h
    rw [if_pos h, if_pos h]
    obtain ⟨d, rfl, hd0, hd1, hn, hlv⟩ := listedE_zero h
    simp only [decB, Bool.and_eq_true, decide_eq_true_eq] at hlv
    obtain ⟨hlv, hlo, hhi⟩ := hlv
    rw [inB_iff] at hlv
    obtain ⟨lo, rfl, hlo⟩ := inB_nat hlo
    obtain ⟨hi, rfl⟩ : ∃ k : Nat, hi = k := ⟨hi.toNat, by omega⟩
    refine go T_ok 100 rfl ?_
    have hB := hSl.2.1
    have hs := q.size
    refine draw mixed (fun w' => Chg No w4 w') ([0,1,3,5,6].map (fun i => (i, true)) ++ [(2, false)] ++ [(4, false)] ++ [(7, false)] ++ [8,9,10,11,12].map (fun i => (i, true))) rfl (by kernel_rfl) (Chg.drew _) ?_
    refine goH T_ok 100 rfl ?_
    refine quietH rfl (fun w' hS => r_load T_ok rfl rfl rfl ((B1.no hS).get rfl)) ?_
    refine goH T_ok 100 rfl ?_
    refine quietH rfl (fun w' hS => r_load T_ok rfl rfl rfl ((B2.no hS).get rfl)) ?_
    refine goH T_ok 100 rfl ?_
    refine quietH rfl (fun w' hS => r_load T_ok rfl rfl rfl ((B3.no hS).get rfl)) ?_
    refine goH T_ok 100 rfl ?_
    refine quietH rfl (fun w' hS => r_load T_ok rfl rfl rfl ((B4.no hS).get rfl)) ?_
    refine goH T_ok 100 rfl ?_
    refine callE rfl rfl rfl (ok _ (by decide) rfl) (begin_any d lv w4.drew hd0 hd1) ?_
    rintro v w5 ⟨b, g, rfl, hb', hg, q5, H⟩
    have hdr : w4.drew.heap.size = w4.heap.size := rfl
    have q45 : Chg No w4 w5 := (Chg.drew w4).trans q5
    refine ⟨q45, ?_⟩
    refine goH T_ok 100 rfl ?_
    refine callE rfl rfl rfl (ok _ (by decide) rfl) (run_any xs d lv b g B c A w5 ((hSl.no q).no q45) (by omega) (by omega) H hn hd0 hd1 (by omega) (by omega)) ?_
    rintro v w6 ⟨rfl, q6, H6⟩
    have q46 : Chg No w4 w6 := q45.step q6 (fun k hk h => by rcases h with h | h <;> omega)
    refine ⟨q46, ?_⟩
    refine goH T_ok 100 rfl ?_
    refine callE rfl rfl rfl (ok _ (by decide) rfl) (decide_any b g d lv (sts d lv xs) w6 H6 hd1 lo hi (by omega) (by omega)) ?_
    rintro v w7 ⟨rfl, rfl⟩
    refine ⟨q46, ?_⟩
    refine goH T_ok 100 rfl ?_
    refine endH ?_
    refine go T_ok 100 rfl ?_
    refine ret (ret3 (v := .int .i64 _) (x := .int .i64 _) (y := .int .i64 _) Try.results24 rfl rfl rfl ⟨q.trans q46, ?_⟩)
    rw [h]
    rfl
end Go.Proofs.Ytocolpbakaibnaa
