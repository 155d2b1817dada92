/- The walk of CountKept. -/
import Derived.Test.YtocolpbakaibnaaK2
import Derived.Test.YtocolpbakaibnaaE1
namespace Go.Proofs.Ytocolpbakaibnaa
open Go.Ev Go.Proofs Go.Cnt
attribute [local irreducible] At AtH

theorem keptL_less {d : Nat} {lv k : Int} (xs ys : List Bool) (h : hasL (keptL d lv (xs ++ ys)) k = true) : hasL (keptL d lv xs) k = true := by
  unfold keptL at *
  rw [hasL_iff] at h ⊢
  obtain ⟨j, rfl, h1, h2⟩ := h
  exact ⟨j, rfl, h1, kp_less xs ys j h2⟩
set_option maxRecDepth 20000 in
set_option maxHeartbeats 4000000 in
theorem walk_CountKept (xs : List Bool) (A : Option Addr) (c : Nat) (D lv k : Int) (w : World) (hL : xs.length ≤ c) (hSl : Sl w w.heap.size 1 A xs.length (boolVs xs)) (_hD : -9223372036854775808 ≤ D ∧ D ≤ 9223372036854775807) (_hlv : -9223372036854775808 ≤ lv ∧ lv ≤ 9223372036854775807) (_hk : -9223372036854775808 ≤ k ∧ k ≤ 9223372036854775807) :
    Ret Try.prog 10 [.slice A xs.length c, .int .i64 D, .int .i64 lv, .int .i64 k] w fun v w' => v = .bool true ∧ Chg No w w' := by
  refine enter Try.func10 rfl Try.ntmps10 rfl ?_
  refine go T2_ok 200 rfl ?_
  refine call rfl rfl rfl (ok _ (by decide) rfl) (few_any A xs.length c D 60 w) ?_
  rintro v w0 ⟨rfl, rfl⟩
  refine go T2_ok 200 rfl ?_
  refine cond rfl (fun hf => ?_) (fun hf => ?_)
  · refine go T2_ok 200 rfl ?_
    refine call rfl rfl rfl (ok _ (by decide) rfl) (known_any _) ?_
    rintro v wk ⟨rfl, qk⟩
    refine go T2_ok 200 rfl ?_
    exact ret (ret1 (v := .bool true) Try.results10 rfl ⟨rfl, qk⟩)
  clear hf
  refine go T2_ok 200 rfl ?_
  refine call rfl rfl rfl (ok _ (by decide) rfl) (Kept_any xs D lv A c _ w hSl) ?_
  rintro v w1 ⟨q1, h1⟩
  by_cases hE : listedE xs.length D (inB lv 2 900000) = 0
  · rcases h1 with ⟨h, _⟩ | ⟨_, A1, c1, rfl, o1⟩
    · exact absurd hE h
    obtain ⟨d, rfl, hd0, hd1, hn, hl⟩ := listedE_zero hE
    have hlb := (inB_iff _ _ _).1 hl
    rw [Int.toNat_natCast] at o1 ⊢
    refine go T2_ok 200 rfl ?_
    refine call rfl rfl rfl (ok _ (by decide) rfl) (Set_any xs d lv A c _ w1 (hSl.no q1)) ?_
    rintro v w2 ⟨q2, rfl⟩
    rw [hE, if_pos rfl, if_pos rfl, Int.toNat_natCast]
    refine go T2_ok 200 rfl ?_
    refine nw rfl rfl (z := .agg #[.int .i64 0, .int .i64 0]) (by kernel_rfl) (cs := [.int .i64 0, .int .i64 0]) rfl ?_
    intro g3 w3 hg3 hs3 q3 B3
    refine go T2_ok 200 rfl ?_
    refine stA (vs := [.int .i64 _, .int .i64 _]) T2_ok rfl rfl rfl rfl rfl rfl rfl B3 rfl ?_
    intro w4 q4 B4 hs4
    have z1 := q1.size
    have z2 := q2.size
    have q04 : Chg No w w4 := ((q1.trans q2).trans q3).step q4 (fun x hx e => by omega)
    refine go T2_ok 200 rfl ?_
    refine call rfl rfl rfl (ok _ (by decide) rfl) (wrong_any A xs.length c d w4) ?_
    rintro v w5 ⟨rfl, rfl⟩
    rw [wrong_small hd0 hd1 hn]
    refine go T2_ok 200 rfl ?_
    repeat (first | (refine guardA (b := true) rfl rfl rfl rfl (fun _ => ?_) (fun e => by cases e); refine go T2_ok 200 rfl ?_) | (refine guardA (b := false) rfl rfl rfl rfl (fun e => by cases e) (fun _ => ?_); refine go T2_ok 200 rfl ?_) | (refine condT rfl rfl ?_; refine go T2_ok 200 rfl ?_) | (refine condF rfl rfl ?_; refine go T2_ok 200 rfl ?_))
    refine call rfl rfl rfl (ok _ (by decide) rfl) (level_any lv 900000 w4) ?_
    rintro v w5 ⟨rfl, rfl⟩
    rw [hl]
    refine go T2_ok 200 rfl ?_
    repeat (first | (refine guardA (b := true) rfl rfl rfl rfl (fun _ => ?_) (fun e => by cases e); refine go T2_ok 200 rfl ?_) | (refine guardA (b := false) rfl rfl rfl rfl (fun e => by cases e) (fun _ => ?_); refine go T2_ok 200 rfl ?_) | (refine condT rfl rfl ?_; refine go T2_ok 200 rfl ?_) | (refine condF rfl rfl ?_; refine go T2_ok 200 rfl ?_))
    refine call rfl rfl rfl (ok _ (by decide) rfl) (rSet_any xs d lv A c _ w4 (hSl.no q04) hd0 hd1 hn (by omega) (by omega)) ?_
    rintro v w6 ⟨rfl, q6⟩
    rw [← kept_rkept hlb.1]
    refine go T2_ok 200 rfl ?_
    refine nw rfl rfl (z := .agg #[.int .i64 0, .int .i64 0]) (by kernel_rfl) (cs := [.int .i64 0, .int .i64 0]) rfl ?_
    intro g7 w7 hg7 hs7 q7 B7
    refine go T2_ok 200 rfl ?_
    refine stA (vs := [.int .i64 _, .int .i64 _]) T2_ok rfl rfl rfl rfl rfl rfl rfl B7 rfl ?_
    intro w8 q8 B8 hs8
    have z6 := q6.size
    have z4 := q04.size
    have l4 := B4.lt
    have q48 : Chg No w4 w8 := (q6.trans q7).step q8 (fun x hx e => by omega)
    refine go T2_ok 200 rfl ?_
    repeat (first | (refine guardA (b := true) rfl rfl rfl rfl (fun _ => ?_) (fun e => by cases e); refine go T2_ok 200 rfl ?_) | (refine guardA (b := false) rfl rfl rfl rfl (fun e => by cases e) (fun _ => ?_); refine go T2_ok 200 rfl ?_) | (refine condT rfl rfl ?_; refine go T2_ok 200 rfl ?_) | (refine condF rfl rfl ?_; refine go T2_ok 200 rfl ?_))
    refine call rfl rfl rfl (ok _ (by decide) rfl) (rKept_any xs d lv A c _ w8 ((hSl.no q04).no q48) hd0 hd1 hn (by omega) (by omega)) ?_
    rintro v w9 ⟨A9, c9, rfl, q9, o9⟩
    rw [← kept_rkept hlb.1] at o9 ⊢
    refine go T2_ok 200 rfl ?_
    have q19 : Chg No w1 w9 := (((q2.trans q3).step q4 (fun x hx e => by omega)).trans q48).trans q9
    refine call rfl rfl rfl (ok _ (by decide) rfl) (SameSpans_any (keptL d lv xs) (keptL d lv xs) A1 A9 c1 c9 _ _ w9 ((own_sl o1).no q19) (own_sl o9) (by have := keptL_len d lv xs; omega)) ?_
    rintro v w10 ⟨rfl, q10⟩
    rw [decide_eq_true rfl]
    have q010 : Chg No w w10 := (q1.trans q19).trans q10
    have B4' : Bk w10 g3 65 [.int .i64 (hullL (keptL d lv xs)).1, .int .i64 (hullL (keptL d lv xs)).2] := ((B4.no q48).no q9).no q10
    have B8' : Bk w10 g7 65 [.int .i64 (hullL (keptL d lv xs)).1, .int .i64 (hullL (keptL d lv xs)).2] := (B8.no q9).no q10
    cases he : (keptL d lv xs).isEmpty with
    | true =>
      have hz : hullL (keptL d lv xs) = (0, 0) := by
        have : keptL d lv xs = [] := by simpa using he
        rw [this]; rfl
      rw [hz] at B4'
      rw [if_pos rfl]
      refine go T2_ok 200 rfl ?_
      repeat (first | (refine guardA (b := true) rfl rfl rfl rfl (fun _ => ?_) (fun e => by cases e); refine go T2_ok 200 rfl ?_) | (refine guardA (b := false) rfl rfl rfl rfl (fun e => by cases e) (fun _ => ?_); refine go T2_ok 200 rfl ?_) | (refine condT rfl rfl ?_; refine go T2_ok 200 rfl ?_) | (refine condF rfl rfl ?_; refine go T2_ok 200 rfl ?_))
      refine ldA T2_ok rfl rfl rfl rfl rfl B4'.all ?_
      refine go T2_ok 200 rfl ?_
      refine neqS (l' := [0, 0]) (m := [0, 0]) rfl rfl (by kernel_rfl) rfl rfl rfl ?_
      refine go T2_ok 200 rfl ?_
      repeat (first | (refine guardA (b := true) rfl rfl rfl rfl (fun _ => ?_) (fun e => by cases e); refine go T2_ok 200 rfl ?_) | (refine guardA (b := false) rfl rfl rfl rfl (fun e => by cases e) (fun _ => ?_); refine go T2_ok 200 rfl ?_) | (refine condT rfl rfl ?_; refine go T2_ok 200 rfl ?_) | (refine condF rfl rfl ?_; refine go T2_ok 200 rfl ?_))
      refine guard rfl rfl rfl (fun p => ?_) (fun p => ?_)
      · refine go T2_ok 200 rfl ?_
        repeat (first | (refine guardA (b := true) rfl rfl rfl rfl (fun _ => ?_) (fun e => by cases e); refine go T2_ok 200 rfl ?_) | (refine guardA (b := false) rfl rfl rfl rfl (fun e => by cases e) (fun _ => ?_); refine go T2_ok 200 rfl ?_) | (refine condT rfl rfl ?_; refine go T2_ok 200 rfl ?_) | (refine condF rfl rfl ?_; refine go T2_ok 200 rfl ?_))
        refine call rfl rfl rfl (ok _ (by decide) rfl) (known_any _) ?_
        rintro v wk ⟨rfl, qk⟩
        refine go T2_ok 200 rfl ?_
        exact ret (ret1 (v := .bool true) Try.results10 rfl ⟨rfl, (q010).trans qk⟩)
      · refine go T2_ok 200 rfl ?_
        refine guardD rfl rfl rfl (fun p1 => ?_) (fun p1 => ?_)
        · refine go T2_ok 200 rfl ?_
          repeat (first | (refine guardA (b := true) rfl rfl rfl rfl (fun _ => ?_) (fun e => by cases e); refine go T2_ok 200 rfl ?_) | (refine guardA (b := false) rfl rfl rfl rfl (fun e => by cases e) (fun _ => ?_); refine go T2_ok 200 rfl ?_) | (refine condT rfl rfl ?_; refine go T2_ok 200 rfl ?_) | (refine condF rfl rfl ?_; refine go T2_ok 200 rfl ?_))
          refine call rfl rfl rfl (ok _ (by decide) rfl) (known_any _) ?_
          rintro v wk ⟨rfl, qk⟩
          refine go T2_ok 200 rfl ?_
          exact ret (ret1 (v := .bool true) Try.results10 rfl ⟨rfl, (q010).trans qk⟩)
        · refine go T2_ok 200 rfl ?_
          refine condD rfl (fun p2 => ?_) (fun p2 => ?_)
          · refine go T2_ok 200 rfl ?_
            refine call rfl rfl rfl (ok _ (by decide) rfl) (known_any _) ?_
            rintro v wk ⟨rfl, qk⟩
            refine go T2_ok 200 rfl ?_
            exact ret (ret1 (v := .bool true) Try.results10 rfl ⟨rfl, (q010).trans qk⟩)
          · refine go T2_ok 200 rfl ?_
            have hpos : 0 < xs.length := by
              have : ¬ (xs.length : Int) = 0 := by simpa using p
              omega
            have ew : w64 ((xs.length : Int) - 1) = ((xs.dropLast.length : Nat) : Int) := by rw [List.length_dropLast]; rw [w64_id (by omega) (by omega)]; omega
            refine slcHi T2_ok rfl rfl rfl rfl rfl xs.dropLast.length ew (by rw [List.length_dropLast]; omega) ?_
            refine go T2_ok 200 rfl ?_
            have hSl2 : Sl w10 w.heap.size 1 A xs.dropLast.length (boolVs xs.dropLast) := by
              have := ((hSl.no q010)).take xs.dropLast.length (by rw [List.length_dropLast]; omega)
              have e : (boolVs xs).take (xs.dropLast.length * 1) = boolVs xs.dropLast := by
                rw [Nat.mul_one, List.length_dropLast, List.dropLast_eq_take, boolVs, boolVs, List.map_take]
              rwa [e] at this
            refine call rfl rfl rfl (ok _ (by decide) rfl) (Kept_any xs.dropLast d lv A c _ w10 hSl2) ?_
            rintro v w11 ⟨q11, h11⟩
            have hE2 : listedE xs.dropLast.length d (inB lv 2 900000) = 0 := by rw [listed_wrong, wrong_small hd0 hd1 (by rw [List.length_dropLast]; omega), hl]; rfl
            rcases h11 with ⟨h, _⟩ | ⟨_, A11, c11, rfl, o11⟩
            · exact absurd hE2 h
            rw [Int.toNat_natCast] at o11 ⊢
            refine go T2_ok 200 rfl ?_
            repeat (first | (refine guardA (b := true) rfl rfl rfl rfl (fun _ => ?_) (fun e => by cases e); refine go T2_ok 200 rfl ?_) | (refine guardA (b := false) rfl rfl rfl rfl (fun e => by cases e) (fun _ => ?_); refine go T2_ok 200 rfl ?_) | (refine condT rfl rfl ?_; refine go T2_ok 200 rfl ?_) | (refine condF rfl rfl ?_; refine go T2_ok 200 rfl ?_))
            have q1_11 : Chg No w1 w11 := (q19.trans q10).trans q11
            refine call rfl rfl rfl (ok _ (by decide) rfl) (has_any (keptL d lv xs) k A1 c1 _ w11 ((own_sl o1).no q1_11) (by have := keptL_len d lv xs; omega)) ?_
            rintro v w12 ⟨rfl, rfl⟩
            refine go T2_ok 200 rfl ?_
            refine guardN rfl rfl rfl (fun hh => ?_) (fun hh => ?_)
            · refine go T2_ok 200 rfl ?_
              repeat (first | (refine guardA (b := true) rfl rfl rfl rfl (fun _ => ?_) (fun e => by cases e); refine go T2_ok 200 rfl ?_) | (refine guardA (b := false) rfl rfl rfl rfl (fun e => by cases e) (fun _ => ?_); refine go T2_ok 200 rfl ?_) | (refine condT rfl rfl ?_; refine go T2_ok 200 rfl ?_) | (refine condF rfl rfl ?_; refine go T2_ok 200 rfl ?_))
              refine call rfl rfl rfl (ok _ (by decide) rfl) (known_any _) ?_
              rintro v wk ⟨rfl, qk⟩
              refine go T2_ok 200 rfl ?_
              exact ret (ret1 (v := .bool true) Try.results10 rfl ⟨rfl, (q010.trans q11).trans qk⟩)
            · refine go T2_ok 200 rfl ?_
              refine call rfl rfl rfl (ok _ (by decide) rfl) (has_any (keptL d lv xs.dropLast) k A11 c11 _ w11 (own_sl o11) (by have := keptL_len d lv xs.dropLast; omega)) ?_
              rintro v w12 ⟨rfl, rfl⟩
              have hne : xs ≠ [] := by intro e; rw [e] at hpos; simp at hpos
              have hh2 : hasL (keptL d lv xs.dropLast) k = true := by
                refine keptL_less xs.dropLast [xs.getLast hne] ?_
                rw [List.dropLast_concat_getLast hne]
                exact hh
              rw [hh2]
              refine go T2_ok 200 rfl ?_
              repeat (first | (refine guardA (b := true) rfl rfl rfl rfl (fun _ => ?_) (fun e => by cases e); refine go T2_ok 200 rfl ?_) | (refine guardA (b := false) rfl rfl rfl rfl (fun e => by cases e) (fun _ => ?_); refine go T2_ok 200 rfl ?_) | (refine condT rfl rfl ?_; refine go T2_ok 200 rfl ?_) | (refine condF rfl rfl ?_; refine go T2_ok 200 rfl ?_))
              refine call rfl rfl rfl (ok _ (by decide) rfl) (known_any _) ?_
              rintro v wk ⟨rfl, qk⟩
              refine go T2_ok 200 rfl ?_
              exact ret (ret1 (v := .bool true) Try.results10 rfl ⟨rfl, (q010.trans q11).trans qk⟩)
    | false =>
      rw [if_neg (by simp)]
      refine go T2_ok 200 rfl ?_
      repeat (first | (refine guardA (b := true) rfl rfl rfl rfl (fun _ => ?_) (fun e => by cases e); refine go T2_ok 200 rfl ?_) | (refine guardA (b := false) rfl rfl rfl rfl (fun e => by cases e) (fun _ => ?_); refine go T2_ok 200 rfl ?_) | (refine condT rfl rfl ?_; refine go T2_ok 200 rfl ?_) | (refine condF rfl rfl ?_; refine go T2_ok 200 rfl ?_))
      refine ldA T2_ok rfl rfl rfl rfl rfl B4'.all ?_
      refine go T2_ok 200 rfl ?_
      refine ldA T2_ok rfl rfl rfl rfl rfl B8'.all ?_
      refine go T2_ok 200 rfl ?_
      refine neqS (l' := [((hullL (keptL d lv xs)).1 : Int), ((hullL (keptL d lv xs)).2 : Int)]) (m := [((hullL (keptL d lv xs)).1 : Int), ((hullL (keptL d lv xs)).2 : Int)]) rfl rfl (by kernel_rfl) rfl rfl rfl ?_
      have eb : (([((hullL (keptL d lv xs)).1 : Int), ((hullL (keptL d lv xs)).2 : Int)] : List Int) == [((hullL (keptL d lv xs)).1 : Int), ((hullL (keptL d lv xs)).2 : Int)]) = true := beq_self_eq_true _
      rw [eb]
      refine go T2_ok 200 rfl ?_
      repeat (first | (refine guardA (b := true) rfl rfl rfl rfl (fun _ => ?_) (fun e => by cases e); refine go T2_ok 200 rfl ?_) | (refine guardA (b := false) rfl rfl rfl rfl (fun e => by cases e) (fun _ => ?_); refine go T2_ok 200 rfl ?_) | (refine condT rfl rfl ?_; refine go T2_ok 200 rfl ?_) | (refine condF rfl rfl ?_; refine go T2_ok 200 rfl ?_))
      refine guard rfl rfl rfl (fun p => ?_) (fun p => ?_)
      · refine go T2_ok 200 rfl ?_
        repeat (first | (refine guardA (b := true) rfl rfl rfl rfl (fun _ => ?_) (fun e => by cases e); refine go T2_ok 200 rfl ?_) | (refine guardA (b := false) rfl rfl rfl rfl (fun e => by cases e) (fun _ => ?_); refine go T2_ok 200 rfl ?_) | (refine condT rfl rfl ?_; refine go T2_ok 200 rfl ?_) | (refine condF rfl rfl ?_; refine go T2_ok 200 rfl ?_))
        refine call rfl rfl rfl (ok _ (by decide) rfl) (known_any _) ?_
        rintro v wk ⟨rfl, qk⟩
        refine go T2_ok 200 rfl ?_
        exact ret (ret1 (v := .bool true) Try.results10 rfl ⟨rfl, (q010).trans qk⟩)
      · refine go T2_ok 200 rfl ?_
        refine guardD rfl rfl rfl (fun p1 => ?_) (fun p1 => ?_)
        · refine go T2_ok 200 rfl ?_
          repeat (first | (refine guardA (b := true) rfl rfl rfl rfl (fun _ => ?_) (fun e => by cases e); refine go T2_ok 200 rfl ?_) | (refine guardA (b := false) rfl rfl rfl rfl (fun e => by cases e) (fun _ => ?_); refine go T2_ok 200 rfl ?_) | (refine condT rfl rfl ?_; refine go T2_ok 200 rfl ?_) | (refine condF rfl rfl ?_; refine go T2_ok 200 rfl ?_))
          refine call rfl rfl rfl (ok _ (by decide) rfl) (known_any _) ?_
          rintro v wk ⟨rfl, qk⟩
          refine go T2_ok 200 rfl ?_
          exact ret (ret1 (v := .bool true) Try.results10 rfl ⟨rfl, (q010).trans qk⟩)
        · refine go T2_ok 200 rfl ?_
          refine condD rfl (fun p2 => ?_) (fun p2 => ?_)
          · refine go T2_ok 200 rfl ?_
            refine call rfl rfl rfl (ok _ (by decide) rfl) (known_any _) ?_
            rintro v wk ⟨rfl, qk⟩
            refine go T2_ok 200 rfl ?_
            exact ret (ret1 (v := .bool true) Try.results10 rfl ⟨rfl, (q010).trans qk⟩)
          · refine go T2_ok 200 rfl ?_
            have hpos : 0 < xs.length := by
              have : ¬ (xs.length : Int) = 0 := by simpa using p
              omega
            have ew : w64 ((xs.length : Int) - 1) = ((xs.dropLast.length : Nat) : Int) := by rw [List.length_dropLast]; rw [w64_id (by omega) (by omega)]; omega
            refine slcHi T2_ok rfl rfl rfl rfl rfl xs.dropLast.length ew (by rw [List.length_dropLast]; omega) ?_
            refine go T2_ok 200 rfl ?_
            have hSl2 : Sl w10 w.heap.size 1 A xs.dropLast.length (boolVs xs.dropLast) := by
              have := ((hSl.no q010)).take xs.dropLast.length (by rw [List.length_dropLast]; omega)
              have e : (boolVs xs).take (xs.dropLast.length * 1) = boolVs xs.dropLast := by
                rw [Nat.mul_one, List.length_dropLast, List.dropLast_eq_take, boolVs, boolVs, List.map_take]
              rwa [e] at this
            refine call rfl rfl rfl (ok _ (by decide) rfl) (Kept_any xs.dropLast d lv A c _ w10 hSl2) ?_
            rintro v w11 ⟨q11, h11⟩
            have hE2 : listedE xs.dropLast.length d (inB lv 2 900000) = 0 := by rw [listed_wrong, wrong_small hd0 hd1 (by rw [List.length_dropLast]; omega), hl]; rfl
            rcases h11 with ⟨h, _⟩ | ⟨_, A11, c11, rfl, o11⟩
            · exact absurd hE2 h
            rw [Int.toNat_natCast] at o11 ⊢
            refine go T2_ok 200 rfl ?_
            repeat (first | (refine guardA (b := true) rfl rfl rfl rfl (fun _ => ?_) (fun e => by cases e); refine go T2_ok 200 rfl ?_) | (refine guardA (b := false) rfl rfl rfl rfl (fun e => by cases e) (fun _ => ?_); refine go T2_ok 200 rfl ?_) | (refine condT rfl rfl ?_; refine go T2_ok 200 rfl ?_) | (refine condF rfl rfl ?_; refine go T2_ok 200 rfl ?_))
            have q1_11 : Chg No w1 w11 := (q19.trans q10).trans q11
            refine call rfl rfl rfl (ok _ (by decide) rfl) (has_any (keptL d lv xs) k A1 c1 _ w11 ((own_sl o1).no q1_11) (by have := keptL_len d lv xs; omega)) ?_
            rintro v w12 ⟨rfl, rfl⟩
            refine go T2_ok 200 rfl ?_
            refine guardN rfl rfl rfl (fun hh => ?_) (fun hh => ?_)
            · refine go T2_ok 200 rfl ?_
              repeat (first | (refine guardA (b := true) rfl rfl rfl rfl (fun _ => ?_) (fun e => by cases e); refine go T2_ok 200 rfl ?_) | (refine guardA (b := false) rfl rfl rfl rfl (fun e => by cases e) (fun _ => ?_); refine go T2_ok 200 rfl ?_) | (refine condT rfl rfl ?_; refine go T2_ok 200 rfl ?_) | (refine condF rfl rfl ?_; refine go T2_ok 200 rfl ?_))
              refine call rfl rfl rfl (ok _ (by decide) rfl) (known_any _) ?_
              rintro v wk ⟨rfl, qk⟩
              refine go T2_ok 200 rfl ?_
              exact ret (ret1 (v := .bool true) Try.results10 rfl ⟨rfl, (q010.trans q11).trans qk⟩)
            · refine go T2_ok 200 rfl ?_
              refine call rfl rfl rfl (ok _ (by decide) rfl) (has_any (keptL d lv xs.dropLast) k A11 c11 _ w11 (own_sl o11) (by have := keptL_len d lv xs.dropLast; omega)) ?_
              rintro v w12 ⟨rfl, rfl⟩
              have hne : xs ≠ [] := by intro e; rw [e] at hpos; simp at hpos
              have hh2 : hasL (keptL d lv xs.dropLast) k = true := by
                refine keptL_less xs.dropLast [xs.getLast hne] ?_
                rw [List.dropLast_concat_getLast hne]
                exact hh
              rw [hh2]
              refine go T2_ok 200 rfl ?_
              repeat (first | (refine guardA (b := true) rfl rfl rfl rfl (fun _ => ?_) (fun e => by cases e); refine go T2_ok 200 rfl ?_) | (refine guardA (b := false) rfl rfl rfl rfl (fun e => by cases e) (fun _ => ?_); refine go T2_ok 200 rfl ?_) | (refine condT rfl rfl ?_; refine go T2_ok 200 rfl ?_) | (refine condF rfl rfl ?_; refine go T2_ok 200 rfl ?_))
              refine call rfl rfl rfl (ok _ (by decide) rfl) (known_any _) ?_
              rintro v wk ⟨rfl, qk⟩
              refine go T2_ok 200 rfl ?_
              exact ret (ret1 (v := .bool true) Try.results10 rfl ⟨rfl, (q010.trans q11).trans qk⟩)
  · rcases h1 with ⟨_, rfl⟩ | ⟨h, _⟩
    rotate_left
    · exact absurd h hE
    refine go T2_ok 200 rfl ?_
    refine call rfl rfl rfl (ok _ (by decide) rfl) (Set_any xs D lv A c _ w1 (hSl.no q1)) ?_
    rintro v w2 ⟨q2, rfl⟩
    rw [if_neg hE, if_neg hE]
    refine go T2_ok 200 rfl ?_
    refine nw rfl rfl (z := .agg #[.int .i64 0, .int .i64 0]) (by kernel_rfl) (cs := [.int .i64 0, .int .i64 0]) rfl ?_
    intro g3 w3 hg3 hs3 q3 B3
    refine go T2_ok 200 rfl ?_
    refine stA (vs := [.int .i64 0, .int .i64 0]) T2_ok rfl rfl rfl rfl rfl rfl rfl B3 rfl ?_
    intro w4 q4 B4 hs4
    have z1 := q1.size
    have z2 := q2.size
    have q04 : Chg No w w4 := ((q1.trans q2).trans q3).step q4 (fun x hx e => by omega)
    have B4 : Bk w4 g3 65 [.int .i64 0, .int .i64 0] := B4
    have hE2 := listed_wrong xs.length D (inB lv 2 900000)
    refine go T2_ok 200 rfl ?_
    refine call rfl rfl rfl (ok _ (by decide) rfl) (wrong_any A xs.length c D w4) ?_
    rintro v w5 ⟨rfl, rfl⟩
    by_cases hw : wrongE xs.length D = 0
    · rw [if_neg (by simp [hw])] at hE2
      have hl : inB lv 2 900000 = false := by
        cases h : inB lv 2 900000 with
        | false => rfl
        | true => rw [h, if_pos rfl] at hE2; rw [h] at hE; exact absurd hE2 hE
      rw [hl, if_neg (by simp)] at hE2
      rw [hw, hl, hE2]
      refine go T2_ok 200 rfl ?_
      repeat (first | (refine guardA (b := true) rfl rfl rfl rfl (fun _ => ?_) (fun e => by cases e); refine go T2_ok 200 rfl ?_) | (refine guardA (b := false) rfl rfl rfl rfl (fun e => by cases e) (fun _ => ?_); refine go T2_ok 200 rfl ?_) | (refine condT rfl rfl ?_; refine go T2_ok 200 rfl ?_) | (refine condF rfl rfl ?_; refine go T2_ok 200 rfl ?_))
      refine call rfl rfl rfl (ok _ (by decide) rfl) (level_any lv 900000 w4) ?_
      rintro v w5 ⟨rfl, rfl⟩
      rw [hl]
      refine go T2_ok 200 rfl ?_
      repeat (first | (refine guardA (b := true) rfl rfl rfl rfl (fun _ => ?_) (fun e => by cases e); refine go T2_ok 200 rfl ?_) | (refine guardA (b := false) rfl rfl rfl rfl (fun e => by cases e) (fun _ => ?_); refine go T2_ok 200 rfl ?_) | (refine condT rfl rfl ?_; refine go T2_ok 200 rfl ?_) | (refine condF rfl rfl ?_; refine go T2_ok 200 rfl ?_))
      refine ldA T2_ok rfl rfl rfl rfl rfl B4.all ?_
      refine go T2_ok 200 rfl ?_
      refine eqS (l' := [0, 0]) (m := [0, 0]) rfl rfl (by kernel_rfl) rfl rfl rfl ?_
      refine go T2_ok 200 rfl ?_
      repeat (first | (refine guardA (b := true) rfl rfl rfl rfl (fun _ => ?_) (fun e => by cases e); refine go T2_ok 200 rfl ?_) | (refine guardA (b := false) rfl rfl rfl rfl (fun e => by cases e) (fun _ => ?_); refine go T2_ok 200 rfl ?_) | (refine condT rfl rfl ?_; refine go T2_ok 200 rfl ?_) | (refine condF rfl rfl ?_; refine go T2_ok 200 rfl ?_))
      refine call rfl rfl rfl (ok _ (by decide) rfl) (known_any _) ?_
      rintro v wk ⟨rfl, qk⟩
      refine go T2_ok 200 rfl ?_
      exact ret (ret1 (v := .bool true) Try.results10 rfl ⟨rfl, (q04).trans qk⟩)
    · rw [if_pos hw] at hE2
      rw [hE2]
      generalize wrongE xs.length D = e0 at hw
      refine go T2_ok 200 rfl ?_
      refine guard (b := false) rfl rfl (congrArg Value.bool (by simp [hw])) (fun e => by cases e) (fun _ => ?_)
      refine go T2_ok 200 rfl ?_
      refine condT rfl (by simpa using hw) ?_
      refine go T2_ok 200 rfl ?_
      refine guard (b := true) rfl rfl (congrArg Value.bool (by simp)) (fun _ => ?_) (fun e => by cases e)
      refine go T2_ok 200 rfl ?_
      refine guard (b := true) rfl rfl (congrArg Value.bool (by simp)) (fun _ => ?_) (fun e => by cases e)
      refine go T2_ok 200 rfl ?_
      repeat (first | (refine guardA (b := true) rfl rfl rfl rfl (fun _ => ?_) (fun e => by cases e); refine go T2_ok 200 rfl ?_) | (refine guardA (b := false) rfl rfl rfl rfl (fun e => by cases e) (fun _ => ?_); refine go T2_ok 200 rfl ?_) | (refine condT rfl rfl ?_; refine go T2_ok 200 rfl ?_) | (refine condF rfl rfl ?_; refine go T2_ok 200 rfl ?_))
      refine ldA T2_ok rfl rfl rfl rfl rfl B4.all ?_
      refine go T2_ok 200 rfl ?_
      refine eqS (l' := [0, 0]) (m := [0, 0]) rfl rfl (by kernel_rfl) rfl rfl rfl ?_
      refine go T2_ok 200 rfl ?_
      repeat (first | (refine guardA (b := true) rfl rfl rfl rfl (fun _ => ?_) (fun e => by cases e); refine go T2_ok 200 rfl ?_) | (refine guardA (b := false) rfl rfl rfl rfl (fun e => by cases e) (fun _ => ?_); refine go T2_ok 200 rfl ?_) | (refine condT rfl rfl ?_; refine go T2_ok 200 rfl ?_) | (refine condF rfl rfl ?_; refine go T2_ok 200 rfl ?_))
      refine call rfl rfl rfl (ok _ (by decide) rfl) (known_any _) ?_
      rintro v wk ⟨rfl, qk⟩
      refine go T2_ok 200 rfl ?_
      exact ret (ret1 (v := .bool true) Try.results10 rfl ⟨rfl, (q04).trans qk⟩)
end Go.Proofs.Ytocolpbakaibnaa
