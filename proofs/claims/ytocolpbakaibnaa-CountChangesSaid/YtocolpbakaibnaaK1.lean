/- The contract of known: the document's examples. -/
import Derived.Test.YtocolpbakaibnaaC15
import Derived.Test.YtocolpbakaibnaaEy
namespace Go.Proofs.Ytocolpbakaibnaa
open Go.Ev Go.Proofs Go.Cnt
attribute [local irreducible] At AtH

def exL : List Bool := [true, false, true, true]
theorem k_bet : (if betOk 1048576 0 0 4 1 = true then Value.tuple #[.int .i64 (hitC 1048576 0 0 4 1), .int .i64 (missC 1048576 0 0 4 1), .int .i64 0] else .tuple #[.int .i64 0, .int .i64 0, .int .i64 2]) = .tuple #[.int .i64 2097152, .int .i64 699050, .int .i64 0] := by kernel_rfl
theorem k_cap0 : capE exL.length 4 1 = 0 := by decide +kernel
theorem k_cap : capV 4 1 exL (exL.length + 1) = [1048576, 2097152, 932067, 1864134, 4473921].map (.int .i64) := by kernel_rfl
theorem k_kept0 : listedE exL.length 4 (inB 4 2 900000) = 0 := by decide +kernel
theorem k_kept : keptL (4 : Int).toNat 4 exL = [(2, 3)] := by decide +kernel
theorem k_dec : decE exL.length 4 4 1 3 = 0 := by decide +kernel
theorem k_dec1 : (decS (sts (4 : Int).toNat 4 exL) (4 : Int).toNat (1 : Int).toNat (3 : Int).toNat) = (3, 4) := by decide +kernel
theorem k_stop : exclE exL.length 4 4 1 = 0 := by decide +kernel
theorem k_stop1 : stopN (4 : Int).toNat 4 1 exL = some 4 := by decide +kernel
theorem k_tail : tailE 4 4 1 3 = 0 := by decide +kernel
theorem k_tail1 : tailF 4 1 3 (outsN (4 : Int).toNat (2 ^ (4 : Int).toNat)) = 13 := by decide +kernel
theorem k_pow : powE 1 4 2 1 0 4 = 0 := by decide +kernel
theorem k_pow1 : powL 1 4 2 1 0 4 = [.int .i64 3, .int .i64 1, .int .i64 0, .int .i64 4] := by kernel_rfl
set_option maxRecDepth 20000 in
theorem known_any (w : World) : Ret Try.prog 17 [] w fun v w' => v = .bool true ∧ Chg No w w' := by
  refine enter Try.func17 rfl Try.ntmps17 rfl ?_
  refine go T2_ok 100 rfl ?_
  refine call rfl rfl rfl (ok _ (by decide) rfl) (Bet_any _ _ _ _ _ _) ?_
  rintro v w1 ⟨rfl, q1⟩
  rw [k_bet]
  refine go T2_ok 100 rfl ?_
  refine call rfl rfl rfl (ok _ (by decide) rfl) (example_any _) ?_
  rintro v w2 ⟨g2, rfl, q2, o2⟩
  refine go T2_ok 100 rfl ?_
  refine call rfl rfl rfl (ok _ (by decide) rfl) (Capital_any exL 4 1 (some ⟨g2, 0, none⟩) 4 _ w2 (own_sl o2)) ?_
  rintro v w3 ⟨q3, h3⟩
  rcases h3 with ⟨h, _⟩ | ⟨_, A3, c3, rfl, o3⟩
  · exact absurd k_cap0 h
  refine go T2_ok 100 rfl ?_
  refine call rfl rfl rfl (ok _ (by decide) rfl) (example_any _) ?_
  rintro v w4 ⟨g4, rfl, q4, o4⟩
  refine go T2_ok 100 rfl ?_
  refine call rfl rfl rfl (ok _ (by decide) rfl) (Kept_any exL 4 4 (some ⟨g4, 0, none⟩) 4 _ w4 (own_sl o4)) ?_
  rintro v w5 ⟨q5, h5⟩
  rcases h5 with ⟨h, _⟩ | ⟨_, A5, c5, rfl, o5⟩
  · exact absurd k_kept0 h
  refine go T2_ok 100 rfl ?_
  refine call rfl rfl rfl (ok _ (by decide) rfl) (example_any _) ?_
  rintro v w6 ⟨g6, rfl, q6, o6⟩
  refine go T2_ok 100 rfl ?_
  refine call rfl rfl rfl (ok _ (by decide) rfl) (Decide_any exL 4 4 1 3 (some ⟨g6, 0, none⟩) 4 _ w6 (own_sl o6) (by omega)) ?_
  rintro v w7 ⟨q7, rfl⟩
  rw [k_dec, if_pos rfl, if_pos rfl, k_dec1]
  refine go T2_ok 100 rfl ?_
  refine call rfl rfl rfl (ok _ (by decide) rfl) (example_any _) ?_
  rintro v w8 ⟨g8, rfl, q8, o8⟩
  refine go T2_ok 100 rfl ?_
  refine call rfl rfl rfl (ok _ (by decide) rfl) (Stop_any exL 4 4 1 (some ⟨g8, 0, none⟩) 4 _ w8 (own_sl o8)) ?_
  rintro v w9 ⟨q9, rfl⟩
  rw [k_stop, if_pos rfl, if_pos rfl, k_stop1]
  refine go T2_ok 100 rfl ?_
  refine call rfl rfl rfl (ok _ (by decide) rfl) (Tail_any 4 4 1 3 w9) ?_
  rintro v w10 ⟨q10, rfl⟩
  rw [k_tail, if_pos rfl, k_tail1]
  refine go T2_ok 100 rfl ?_
  refine call rfl rfl rfl (ok _ (by decide) rfl) (Power_any 1 4 2 1 0 4 w10 (by omega)) ?_
  rintro v w11 ⟨q11, rfl⟩
  rw [k_pow, if_pos rfl, k_pow1]
  refine go T2_ok 100 rfl ?_
  refine nw rfl rfl (z := .agg #[.int .i64 0, .int .i64 0, .int .i64 0, .int .i64 0]) (by kernel_rfl) (cs := [.int .i64 0, .int .i64 0, .int .i64 0, .int .i64 0]) rfl ?_
  intro g12 w12 hg12 hs12 q12 B12
  refine go T2_ok 100 rfl ?_
  refine stA (vs := [.int .i64 3, .int .i64 1, .int .i64 0, .int .i64 4]) T2_ok rfl rfl rfl rfl rfl rfl rfl B12 rfl ?_
  intro w13 q13 B13 hs13
  refine go T2_ok 100 rfl ?_
  refine guard (b := false) rfl rfl rfl (fun h => by cases h) (fun _ => ?_)
  refine go T2_ok 100 rfl ?_
  refine guard (b := false) rfl rfl rfl (fun h => by cases h) (fun _ => ?_)
  refine go T2_ok 100 rfl ?_
  refine guard (b := false) rfl rfl rfl (fun h => by cases h) (fun _ => ?_)
  refine go T2_ok 100 rfl ?_
  refine guard (b := false) rfl rfl rfl (fun h => by cases h) (fun _ => ?_)
  refine go T2_ok 100 rfl ?_
  refine guard (b := false) rfl rfl rfl (fun h => by cases h) (fun _ => ?_)
  refine go T2_ok 100 rfl ?_
  refine guard (b := false) rfl rfl rfl (fun h => by cases h) (fun _ => ?_)
  refine go T2_ok 100 rfl ?_
  refine condF rfl rfl ?_
  refine go T2_ok 100 rfl ?_
  refine guard (b := true) rfl rfl rfl (fun _ => ?_) (fun h => by cases h)
  refine go T2_ok 100 rfl ?_
  refine guard (b := true) rfl rfl rfl (fun _ => ?_) (fun h => by cases h)
  refine go T2_ok 100 rfl ?_
  refine row T2_ok rfl rfl rfl rfl rfl rfl (cs := [1048576, 2097152, 932067, 1864134, 4473921].map (.int .i64)) rfl ?_
  intro g14 w14 hg14 hs14 q14 B14 _
  refine go T2_ok 100 rfl ?_
  have q3_13 : Chg No w3 w13 := (((((((((q4.trans q5).trans q6).trans q7).trans q8).trans q9).trans q10).trans q11).trans q12).step q13 (fun k hk e => by
    have := ((((((((q4.trans q5).trans q6).trans q7).trans q8).trans q9).trans q10).trans q11)).size
    omega))
  have S3 : Sl w14 w3.heap.size 1 A3 5 ([1048576, 2097152, 932067, 1864134, 4473921].map (.int .i64)) := by
    rw [k_cap] at o3
    exact ((own_sl o3).no q3_13).no q14
  have S14 : Sl w14 w14.heap.size 1 (some ⟨g14, 0, none⟩) 5 ([1048576, 2097152, 932067, 1864134, 4473921].map (.int .i64)) := ⟨rfl, Nat.le_refl _, fun _ => ⟨g14, 0, rfl, B14.lt, B14.all⟩⟩
  refine call rfl rfl rfl (ok _ (by decide) rfl) (Same_any [1048576, 2097152, 932067, 1864134, 4473921] [1048576, 2097152, 932067, 1864134, 4473921] A3 (some ⟨g14, 0, none⟩) c3 5 _ _ w14 S3 S14 (by decide)) ?_
  rintro v w15 ⟨rfl, q15⟩
  refine go T2_ok 100 rfl ?_
  refine guard (b := true) rfl rfl rfl (fun _ => ?_) (fun h => by cases h)
  refine go T2_ok 100 rfl ?_
  refine row T2_ok rfl rfl rfl rfl rfl rfl (cs := [.int .i64 2, .int .i64 3]) rfl ?_
  intro g16 w16 hg16 hs16 q16 B16 _
  refine go T2_ok 100 rfl ?_
  have q5_13 : Chg No w5 w13 := (((((((q6.trans q7).trans q8).trans q9).trans q10).trans q11).trans q12).step q13 (fun k hk e => by
    have := ((((((q6.trans q7).trans q8).trans q9).trans q10).trans q11)).size
    omega))
  have S5 : Sl w16 w5.heap.size 2 A5 1 (spL [(2, 3)]) := by
    rw [k_kept] at o5
    exact (((((own_sl o5).no q5_13).no q14).no q15).no q16)
  have S16 : Sl w16 w16.heap.size 2 (some ⟨g16, 0, none⟩) 1 (spL [(2, 3)]) := ⟨rfl, Nat.le_refl _, fun _ => ⟨g16, 0, rfl, B16.lt, B16.all⟩⟩
  rw [k_kept]
  refine call rfl rfl rfl (ok _ (by decide) rfl) (SameSpans_any [(2, 3)] [(2, 3)] A5 (some ⟨g16, 0, none⟩) c5 1 _ _ w16 S5 S16 (by decide)) ?_
  rintro v w17 ⟨rfl, q17⟩
  refine go T2_ok 100 rfl ?_
  refine guard (b := true) rfl rfl rfl (fun _ => ?_) (fun h => by cases h)
  refine go T2_ok 100 rfl ?_
  refine guard (b := true) rfl rfl rfl (fun _ => ?_) (fun h => by cases h)
  refine go T2_ok 100 rfl ?_
  refine guard (b := true) rfl rfl rfl (fun _ => ?_) (fun h => by cases h)
  refine go T2_ok 100 rfl ?_
  refine guard (b := true) rfl rfl rfl (fun _ => ?_) (fun h => by cases h)
  refine go T2_ok 100 rfl ?_
  refine guard (b := true) rfl rfl rfl (fun _ => ?_) (fun h => by cases h)
  refine go T2_ok 100 rfl ?_
  have B13' : Bk w17 g12 49 [.int .i64 3, .int .i64 1, .int .i64 0, .int .i64 4] := (((((show Bk w13 g12 49 [.int .i64 3, .int .i64 1, .int .i64 0, .int .i64 4] from B13).no q14).no q15).no q16).no q17)
  refine ldA T2_ok rfl rfl rfl rfl rfl B13'.all ?_
  refine go T2_ok 100 rfl ?_
  refine op_val rfl (r_eqS (t := 49) (l := [3, 1, 0, 4]) (m := [3, 1, 0, 4]) rfl (by kernel_rfl) rfl rfl rfl) (dec' := [110]) ?_
  refine go T2_ok 100 rfl ?_
  refine ret (ret1 (v := .bool true) Try.results17 rfl ⟨rfl, ?_⟩)
  have q02 := (((((((((q1.trans q2).trans q3).trans q4).trans q5).trans q6).trans q7).trans q8).trans q9).trans q10).trans q11
  exact (((((q02.trans q12).step q13 (fun k hk e => by have := q02.size; omega)).trans q14).trans q15).trans q16).trans q17
end Go.Proofs.Ytocolpbakaibnaa
