/- The contract of known. -/
import Derived.Test.YtkkjfjeniaiaiaaCE
namespace Go.Proofs.Ytkkjfjeniaiaiaa
open Go.Ev Go.Proofs Go.Rock
attribute [local irreducible] At AtH

def kV : Vo := ⟨3, 1, 2, 10⟩
def kR : Ra := ⟨0, 5, 0, 3, 0, 2⟩
def kS : Ra := ⟨0, 5, 6, 10, 0, 0⟩
def kL : List Su := [⟨0, 5, 6⟩, ⟨2, 15, 20⟩]
theorem k_ch : chR kV kR = (0, [(0, 20), (1, 10), (4, 10), (5, 20)]) := by decide +kernel
theorem k_un : unR kV kR [5, 12, 15] = (0, [(0, 15), (1, 10), (4, 6), (5, 5)]) := by decide +kernel
theorem k_op : opR kV kR [5, 12, 15] [2, 2, 2, 2, 2, 3] = (77, 0) := by decide +kernel
theorem k_cl : clR kV 4 kL = (1, 0, 0) := by decide +kernel
theorem k_gd : gdR kV 5 kL = (0, [5, 10, 15], [6, 11, 16]) := by decide +kernel
theorem k_hz : hzR kV kS [5, 12, 15] = (6, 0) := by decide +kernel
theorem V_any (w : World) : Ret Try.prog 56 [] w fun x w' => x = .agg (vL kV).toArray ∧ Chg No w w' := by
  refine enter Try.func56 rfl Try.ntmps56 rfl ?_
  refine go T_ok 200 rfl ?_
  refine nw rfl rfl (z := .agg #[I 0, I 0, I 0, I 0]) (by kernel_rfl) (cs := [I 0, I 0, I 0, I 0]) rfl ?_
  intro g1 u1 hg1 hs1 q1 B1
  refine go T_ok 200 rfl ?_
  refine stA T_ok rfl rfl rfl rfl (vs := vL kV) rfl rfl rfl B1 rfl ?_
  intro u2 q2 B2 hs2
  have B2 : Bk u2 g1 23 (vL kV) := B2
  refine go T_ok 200 rfl ?_
  exact ret (retR1 Try.results56 (resA T_ok rfl rfl rfl B2.all) ⟨rfl, q1.step q2 (fun k hk e => by omega)⟩)
theorem R_any (w : World) : Ret Try.prog 57 [] w fun x w' => x = .agg (rL kR).toArray ∧ Chg No w w' := by
  refine enter Try.func57 rfl Try.ntmps57 rfl ?_
  refine go T_ok 200 rfl ?_
  refine nw rfl rfl (z := .agg #[I 0, I 0, I 0, I 0, I 0, I 0]) (by kernel_rfl) (cs := [I 0, I 0, I 0, I 0, I 0, I 0]) rfl ?_
  intro g1 u1 hg1 hs1 q1 B1
  refine go T_ok 200 rfl ?_
  refine stA T_ok rfl rfl rfl rfl (vs := rL kR) rfl rfl rfl B1 rfl ?_
  intro u2 q2 B2 hs2
  have B2 : Bk u2 g1 26 (rL kR) := B2
  refine go T_ok 200 rfl ?_
  exact ret (retR1 Try.results57 (resA T_ok rfl rfl rfl B2.all) ⟨rfl, q1.step q2 (fun k hk e => by omega)⟩)
set_option maxRecDepth 20000 in
set_option maxHeartbeats 8000000 in
theorem known_any (w : World) : Ret Try.prog 18 [] w fun x w' => x = .bool true ∧ Chg No w w' := by
  refine enter Try.func18 rfl Try.ntmps18 rfl ?_
  refine go T_ok 200 rfl ?_
  refine call rfl rfl rfl (ok _ (by decide) rfl) (V_any _) ?_
  rintro x w1 ⟨rfl, q1⟩
  refine go T_ok 200 rfl ?_
  refine call rfl rfl rfl (ok _ (by decide) rfl) (R_any _) ?_
  rintro x w2 ⟨rfl, q2⟩
  refine go T_ok 200 rfl ?_
  refine call rfl rfl rfl (ok _ (by decide) rfl) (Chords_any kV kR _) ?_
  rintro x w3 ⟨A3, c3, e3, l3, rfl, S3, q3, h3⟩
  rw [k_ch] at h3
  cases h3
  have q03 := (q1.trans q2).trans q3
  refine go T_ok 200 rfl ?_
  refine call rfl rfl rfl (ok _ (by decide) rfl) (V_any _) ?_
  rintro x w4 ⟨rfl, q4⟩
  refine go T_ok 200 rfl ?_
  refine row T_ok rfl rfl rfl rfl rfl rfl (cs := iL [5, 12, 15]) rfl ?_
  intro g5 w5 hg5 hs5 q5 B5 _
  refine go T_ok 200 rfl ?_
  refine call rfl rfl rfl (ok _ (by decide) rfl) (R_any _) ?_
  rintro x w6 ⟨rfl, q6⟩
  refine go T_ok 200 rfl ?_
  refine call rfl rfl rfl (ok _ (by decide) rfl) (Under_any kV kR [5, 12, 15] _ 3 _ _ (by unfold maxLen; decide) ((B5.sl (sz := 1) (m := 3) rfl).no q6)) ?_
  rintro x w7 ⟨A7, c7, e7, l7, rfl, S7, q7, h7⟩
  rw [k_un] at h7
  cases h7
  have q37 := ((q4.trans q5).trans q6).trans q7
  refine go T_ok 200 rfl ?_
  refine call rfl rfl rfl (ok _ (by decide) rfl) (V_any _) ?_
  rintro x w8 ⟨rfl, q8⟩
  refine go T_ok 200 rfl ?_
  refine row T_ok rfl rfl rfl rfl rfl rfl (cs := iL [5, 12, 15]) rfl ?_
  intro g9 w9 hg9 hs9 q9 B9 _
  refine go T_ok 200 rfl ?_
  refine row T_ok rfl rfl rfl rfl rfl rfl (cs := iL [2, 2, 2, 2, 2, 3]) rfl ?_
  intro g10 w10 hg10 hs10 q10 B10 _
  refine go T_ok 200 rfl ?_
  refine call rfl rfl rfl (ok _ (by decide) rfl) (R_any _) ?_
  rintro x w11 ⟨rfl, q11⟩
  refine go T_ok 200 rfl ?_
  refine call rfl rfl rfl (ok _ (by decide) rfl) (Opacity_any kV kR [5, 12, 15] [2, 2, 2, 2, 2, 3] _ _ 3 6 _ _ _ (by unfold maxLen; decide) (((B9.sl (sz := 1) (m := 3) rfl).no q10).no q11) (by unfold maxLen; decide) ((B10.sl (sz := 1) (m := 6) rfl).no q11)) ?_
  rintro x w12 ⟨rfl, q12⟩
  rw [k_op]
  have q712 := (((q8.trans q9).trans q10).trans q11).trans q12
  refine go T_ok 200 rfl ?_
  refine row T_ok rfl rfl rfl rfl rfl rfl (cs := kL.flatMap sL) rfl ?_
  intro g13 w13 hg13 hs13 q13 B13 _
  refine go T_ok 200 rfl ?_
  refine call rfl rfl rfl (ok _ (by decide) rfl) (V_any _) ?_
  rintro x w14 ⟨rfl, q14⟩
  have SL := (B13.sl (sz := 3) (m := kL.length) rfl).no q14
  refine go T_ok 200 rfl ?_
  refine call rfl rfl rfl (ok _ (by decide) rfl) (Clash_any kV 4 kL _ 2 _ _ (by unfold maxLen; decide) SL) ?_
  rintro x w15 ⟨rfl, q15⟩
  rw [k_cl]
  have SL := SL.no q15
  refine go T_ok 200 rfl ?_
  refine call rfl rfl rfl (ok _ (by decide) rfl) (V_any _) ?_
  rintro x w16 ⟨rfl, q16⟩
  have SL := SL.no q16
  refine go T_ok 200 rfl ?_
  refine call rfl rfl rfl (ok _ (by decide) rfl) (Grounds_any kV 5 kL _ 2 _ _ (by unfold maxLen; decide) SL) ?_
  rintro x w17 ⟨A17, c17, B17, d17, e17, a17, b17, rfl, S17, T17, q17, h17⟩
  rw [k_gd] at h17
  cases h17
  have q1217 := (((q13.trans q14).trans q15).trans q16).trans q17
  refine go T_ok 200 rfl ?_
  refine call rfl rfl rfl (ok _ (by decide) rfl) (V_any _) ?_
  rintro x w18 ⟨rfl, q18⟩
  refine go T_ok 200 rfl ?_
  refine row T_ok rfl rfl rfl rfl rfl rfl (cs := iL [5, 12, 15]) rfl ?_
  intro g19 w19 hg19 hs19 q19 B19 _
  refine go T_ok 200 rfl ?_
  refine call rfl rfl rfl (ok _ (by decide) rfl) (Horizon_any kV kS [5, 12, 15] _ 3 _ _ (by unfold maxLen; decide) (B19.sl (sz := 1) (m := 3) rfl)) ?_
  rintro x w20 ⟨rfl, q20⟩
  rw [k_hz]
  have q1720 := (q18.trans q19).trans q20
  have q020 := (((q03.trans q37).trans q712).trans q1217).trans q1720
  have S3 := S3.no (((q37.trans q712).trans q1217).trans q1720)
  have S7 := S7.no ((q712.trans q1217).trans q1720)
  have S17 := S17.no q1720
  have T17 := T17.no q1720
  refine go T_ok 200 rfl ?_
  repeat (first | (refine guardA (b := true) rfl rfl rfl rfl (fun _ => ?_) (fun e => by cases e); refine go T_ok 200 rfl ?_) | (refine guardA (b := false) rfl rfl rfl rfl (fun e => by cases e) (fun _ => ?_); refine go T_ok 200 rfl ?_) | (refine condT rfl rfl ?_; refine go T_ok 200 rfl ?_) | (refine condF rfl rfl ?_; refine go T_ok 200 rfl ?_))
  refine row T_ok rfl rfl rfl rfl rfl rfl (cs := [((0 : Int), (20 : Int)), (1, 10), (4, 10), (5, 20)].flatMap cL) rfl ?_
  intro g21 w21 hg21 hs21 q21 B21 _
  refine go T_ok 200 rfl ?_
  refine call rfl rfl rfl (ok _ (by decide) rfl) (SameChords_any [(0, 20), (1, 10), (4, 10), (5, 20)] [(0, 20), (1, 10), (4, 10), (5, 20)] _ _ _ _ _ _ _ (by unfold maxLen; decide) (S3.no q21) (B21.sl (sz := 2) (m := 4) rfl)) ?_
  rintro x w22 ⟨rfl, q22⟩
  rw [decide_eq_true rfl]
  refine go T_ok 200 rfl ?_
  repeat (first | (refine guardA (b := true) rfl rfl rfl rfl (fun _ => ?_) (fun e => by cases e); refine go T_ok 200 rfl ?_) | (refine guardA (b := false) rfl rfl rfl rfl (fun e => by cases e) (fun _ => ?_); refine go T_ok 200 rfl ?_) | (refine condT rfl rfl ?_; refine go T_ok 200 rfl ?_) | (refine condF rfl rfl ?_; refine go T_ok 200 rfl ?_))
  refine row T_ok rfl rfl rfl rfl rfl rfl (cs := [((0 : Int), (15 : Int)), (1, 10), (4, 6), (5, 5)].flatMap cL) rfl ?_
  intro g23 w23 hg23 hs23 q23 B23 _
  have q2023 := (q21.trans q22).trans q23
  refine go T_ok 200 rfl ?_
  refine call rfl rfl rfl (ok _ (by decide) rfl) (SameChords_any [(0, 15), (1, 10), (4, 6), (5, 5)] [(0, 15), (1, 10), (4, 6), (5, 5)] _ _ _ _ _ _ _ (by unfold maxLen; decide) (S7.no q2023) (B23.sl (sz := 2) (m := 4) rfl)) ?_
  rintro x w24 ⟨rfl, q24⟩
  rw [decide_eq_true rfl]
  refine go T_ok 200 rfl ?_
  repeat (first | (refine guardA (b := true) rfl rfl rfl rfl (fun _ => ?_) (fun e => by cases e); refine go T_ok 200 rfl ?_) | (refine guardA (b := false) rfl rfl rfl rfl (fun e => by cases e) (fun _ => ?_); refine go T_ok 200 rfl ?_) | (refine condT rfl rfl ?_; refine go T_ok 200 rfl ?_) | (refine condF rfl rfl ?_; refine go T_ok 200 rfl ?_))
  refine row T_ok rfl rfl rfl rfl rfl rfl (cs := iL [5, 10, 15]) rfl ?_
  intro g25 w25 hg25 hs25 q25 B25 _
  have q2025 := (q2023.trans q24).trans q25
  refine go T_ok 200 rfl ?_
  refine call rfl rfl rfl (ok _ (by decide) rfl) (Same_any [5, 10, 15] [5, 10, 15] _ _ _ _ _ _ _ (by unfold maxLen; decide) (S17.no q2025) (B25.sl (sz := 1) (m := 3) rfl)) ?_
  rintro x w26 ⟨rfl, q26⟩
  rw [decide_eq_true rfl]
  refine go T_ok 200 rfl ?_
  repeat (first | (refine guardA (b := true) rfl rfl rfl rfl (fun _ => ?_) (fun e => by cases e); refine go T_ok 200 rfl ?_) | (refine guardA (b := false) rfl rfl rfl rfl (fun e => by cases e) (fun _ => ?_); refine go T_ok 200 rfl ?_) | (refine condT rfl rfl ?_; refine go T_ok 200 rfl ?_) | (refine condF rfl rfl ?_; refine go T_ok 200 rfl ?_))
  refine row T_ok rfl rfl rfl rfl rfl rfl (cs := iL [6, 11, 16]) rfl ?_
  intro g27 w27 hg27 hs27 q27 B27 _
  have q2027 := (q2025.trans q26).trans q27
  refine go T_ok 200 rfl ?_
  refine call rfl rfl rfl (ok _ (by decide) rfl) (Same_any [6, 11, 16] [6, 11, 16] _ _ _ _ _ _ _ (by unfold maxLen; decide) (T17.no q2027) (B27.sl (sz := 1) (m := 3) rfl)) ?_
  rintro x w28 ⟨rfl, q28⟩
  rw [decide_eq_true rfl]
  refine go T_ok 200 rfl ?_
  exact ret (ret1 (v := .bool true) Try.results18 rfl ⟨rfl, (q020.trans q2027).trans q28⟩)
end Go.Proofs.Ytkkjfjeniaiaiaa
