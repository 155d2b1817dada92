/- The walk of CountTurns. -/
import Derived.Test.YtocolpbakaibnaaP4
import Derived.Test.YtocolpbakaibnaaE1
namespace Go.Proofs.Ytocolpbakaibnaa
open Go.Ev Go.Proofs Go.Cnt
attribute [local irreducible] At AtH

set_option maxRecDepth 20000 in
set_option maxHeartbeats 4000000 in
theorem walk_CountTurns (xs : List Bool) (A : Option Addr) (c : Nat) (D lv gr : Int) (w : World) (_hL : xs.length ≤ c) (hSl : Sl w w.heap.size 1 A xs.length (boolVs xs)) (_hD : -9223372036854775808 ≤ D ∧ D ≤ 9223372036854775807) (_hlv : -9223372036854775808 ≤ lv ∧ lv ≤ 9223372036854775807) (_hgr : -9223372036854775808 ≤ gr ∧ gr ≤ 9223372036854775807) :
    Ret Try.prog 8 [.slice A xs.length c, .int .i64 D, .int .i64 lv, .int .i64 gr] w fun v w' => v = .bool true ∧ Chg No w w' := by
  refine enter Try.func8 rfl Try.ntmps8 rfl ?_
  refine go T2_ok 200 rfl ?_
  refine guardD rfl rfl rfl (fun p => ?_) (fun hn => ?_)
  · refine go T2_ok 200 rfl ?_
    repeat (first | (refine guardA (b := true) rfl rfl rfl rfl (fun _ => ?_) (fun e => by cases e); refine go T2_ok 200 rfl ?_) | (refine guardA (b := false) rfl rfl rfl rfl (fun e => by cases e) (fun _ => ?_); refine go T2_ok 200 rfl ?_) | (refine condT rfl rfl ?_; refine go T2_ok 200 rfl ?_) | (refine condF rfl rfl ?_; refine go T2_ok 200 rfl ?_))
    refine call rfl rfl rfl (ok _ (by decide) rfl) (known_any _) ?_
    rintro v wk ⟨rfl, qk⟩
    refine go T2_ok 200 rfl ?_
    exact ret (ret1 (v := .bool true) Try.results8 rfl ⟨rfl, qk⟩)
  refine go T2_ok 200 rfl ?_
  refine guardD rfl rfl rfl (fun p => ?_) (fun hd0 => ?_)
  · refine go T2_ok 200 rfl ?_
    repeat (first | (refine guardA (b := true) rfl rfl rfl rfl (fun _ => ?_) (fun e => by cases e); refine go T2_ok 200 rfl ?_) | (refine guardA (b := false) rfl rfl rfl rfl (fun e => by cases e) (fun _ => ?_); refine go T2_ok 200 rfl ?_) | (refine condT rfl rfl ?_; refine go T2_ok 200 rfl ?_) | (refine condF rfl rfl ?_; refine go T2_ok 200 rfl ?_))
    refine call rfl rfl rfl (ok _ (by decide) rfl) (known_any _) ?_
    rintro v wk ⟨rfl, qk⟩
    refine go T2_ok 200 rfl ?_
    exact ret (ret1 (v := .bool true) Try.results8 rfl ⟨rfl, qk⟩)
  refine go T2_ok 200 rfl ?_
  refine guardD rfl rfl rfl (fun p => ?_) (fun hd1 => ?_)
  · refine go T2_ok 200 rfl ?_
    repeat (first | (refine guardA (b := true) rfl rfl rfl rfl (fun _ => ?_) (fun e => by cases e); refine go T2_ok 200 rfl ?_) | (refine guardA (b := false) rfl rfl rfl rfl (fun e => by cases e) (fun _ => ?_); refine go T2_ok 200 rfl ?_) | (refine condT rfl rfl ?_; refine go T2_ok 200 rfl ?_) | (refine condF rfl rfl ?_; refine go T2_ok 200 rfl ?_))
    refine call rfl rfl rfl (ok _ (by decide) rfl) (known_any _) ?_
    rintro v wk ⟨rfl, qk⟩
    refine go T2_ok 200 rfl ?_
    exact ret (ret1 (v := .bool true) Try.results8 rfl ⟨rfl, qk⟩)
  refine go T2_ok 200 rfl ?_
  refine call rfl rfl rfl (ok _ (by decide) rfl) (level_any lv 900000 w) ?_
  rintro v w0 ⟨rfl, rfl⟩
  refine go T2_ok 200 rfl ?_
  refine guardN rfl rfl rfl (fun p => ?_) (fun hl => ?_)
  · refine go T2_ok 200 rfl ?_
    repeat (first | (refine guardA (b := true) rfl rfl rfl rfl (fun _ => ?_) (fun e => by cases e); refine go T2_ok 200 rfl ?_) | (refine guardA (b := false) rfl rfl rfl rfl (fun e => by cases e) (fun _ => ?_); refine go T2_ok 200 rfl ?_) | (refine condT rfl rfl ?_; refine go T2_ok 200 rfl ?_) | (refine condF rfl rfl ?_; refine go T2_ok 200 rfl ?_))
    refine call rfl rfl rfl (ok _ (by decide) rfl) (known_any _) ?_
    rintro v wk ⟨rfl, qk⟩
    refine go T2_ok 200 rfl ?_
    exact ret (ret1 (v := .bool true) Try.results8 rfl ⟨rfl, qk⟩)
  refine go T2_ok 200 rfl ?_
  refine call rfl rfl rfl (ok _ (by decide) rfl) (level_any gr 900000 w) ?_
  rintro v w0 ⟨rfl, rfl⟩
  refine go T2_ok 200 rfl ?_
  refine guardN rfl rfl rfl (fun p => ?_) (fun hg => ?_)
  · refine go T2_ok 200 rfl ?_
    repeat (first | (refine guardA (b := true) rfl rfl rfl rfl (fun _ => ?_) (fun e => by cases e); refine go T2_ok 200 rfl ?_) | (refine guardA (b := false) rfl rfl rfl rfl (fun e => by cases e) (fun _ => ?_); refine go T2_ok 200 rfl ?_) | (refine condT rfl rfl ?_; refine go T2_ok 200 rfl ?_) | (refine condF rfl rfl ?_; refine go T2_ok 200 rfl ?_))
    refine call rfl rfl rfl (ok _ (by decide) rfl) (known_any _) ?_
    rintro v wk ⟨rfl, qk⟩
    refine go T2_ok 200 rfl ?_
    exact ret (ret1 (v := .bool true) Try.results8 rfl ⟨rfl, qk⟩)
  refine go T2_ok 200 rfl ?_
  refine condD rfl (fun p => ?_) (fun hlg => ?_)
  · refine go T2_ok 200 rfl ?_
    refine call rfl rfl rfl (ok _ (by decide) rfl) (known_any _) ?_
    rintro v wk ⟨rfl, qk⟩
    refine go T2_ok 200 rfl ?_
    exact ret (ret1 (v := .bool true) Try.results8 rfl ⟨rfl, qk⟩)
  obtain ⟨d, rfl⟩ : ∃ d : Nat, D = d := ⟨D.toNat, by omega⟩
  have hlb := (inB_iff _ _ _).1 hl
  have hgb := (inB_iff _ _ _).1 hg
  have hw : wrongE xs.length d = 0 := wrong_small (by omega) (by omega) (by omega)
  have hE1 : listedE xs.length d (inB lv 2 900000) = 0 := by rw [listed_wrong, hw, hl]; rfl
  have hE2 : listedE xs.length d (inB gr 2 900000) = 0 := by rw [listed_wrong, hw, hg]; rfl
  refine go T2_ok 200 rfl ?_
  refine call rfl rfl rfl (ok _ (by decide) rfl) (Kept_any xs d lv A c _ w hSl) ?_
  rintro v w1 ⟨q1, h1⟩
  rcases h1 with ⟨h, _⟩ | ⟨_, A1, c1, rfl, o1⟩
  · exact absurd hE1 h
  rw [Int.toNat_natCast] at o1 ⊢
  refine go T2_ok 200 rfl ?_
  refine call rfl rfl rfl (ok _ (by decide) rfl) (Kept_any xs d gr A c _ w1 (hSl.no q1)) ?_
  rintro v w2 ⟨q2, h2⟩
  rcases h2 with ⟨h, _⟩ | ⟨_, A2, c2, rfl, o2⟩
  · exact absurd hE2 h
  rw [Int.toNat_natCast] at o2 ⊢
  refine go T2_ok 200 rfl ?_
  refine call rfl rfl rfl (ok _ (by decide) rfl) (Turned_any xs A c _ w2 ((hSl.no q1).no q2) (by omega)) ?_
  rintro v w3 ⟨A3, c3, rfl, q3, o3⟩
  refine go T2_ok 200 rfl ?_
  have S3 : Sl w3 w3.heap.size 1 A3 (xs.map (!·)).length (boolVs (xs.map (!·))) := by
    rw [List.length_map]; exact own_sl o3
  have K3 := Kept_any (xs.map (!·)) d lv A3 c3 _ w3 S3
  rw [List.length_map] at K3
  refine call rfl rfl rfl (ok _ (by decide) rfl) (K3) ?_
  rintro v w4 ⟨q4, h4⟩
  rcases h4 with ⟨h, _⟩ | ⟨_, A4, c4, rfl, o4⟩
  · exact absurd hE1 h
  rw [Int.toNat_natCast] at o4 ⊢
  refine go T2_ok 200 rfl ?_
  repeat (first | (refine guardA (b := true) rfl rfl rfl rfl (fun _ => ?_) (fun e => by cases e); refine go T2_ok 200 rfl ?_) | (refine guardA (b := false) rfl rfl rfl rfl (fun e => by cases e) (fun _ => ?_); refine go T2_ok 200 rfl ?_) | (refine condT rfl rfl ?_; refine go T2_ok 200 rfl ?_) | (refine condF rfl rfl ?_; refine go T2_ok 200 rfl ?_))
  have q04 := ((q1.trans q2).trans q3).trans q4
  have T1 := (own_sl o1).no ((q2.trans q3).trans q4)
  have T2' := (own_sl o2).no (q3.trans q4)
  have T4 := own_sl o4
  have len1 : (keptL d lv xs).length ≤ 4000 := by have := keptL_len d lv xs; omega
  have len2 : (keptL d gr xs).length ≤ 4000 := by have := keptL_len d gr xs; omega
  have len4 : (keptL d lv (xs.map (!·))).length ≤ 4000 := by have := keptL_len d lv (xs.map (!·)); omega
  refine loop [1, 9, 11, 13, 15] (fun k : Nat => [.int .i64 d, .slice A1 (keptL d lv xs).length c1, .slice A2 (keptL d gr xs).length c2, .slice A4 (keptL d lv (xs.map (!·))).length c4, .int .i64 (k : Int)])
    (fun k w' => w4 = w' ∧ k ≤ d + 1) (fun k => d + 1 - k) 0 (fun _ => rfl) rfl ⟨rfl, by omega⟩ ?_
  rintro k τ w' ⟨rfl, hk⟩
  refine go T2_ok 200 rfl ?_
  refine condD rfl (fun hlt => ?_) (fun hlt => ?_)
  · have hlt : k ≤ d := by omega
    refine go T2_ok 200 rfl ?_
    refine call rfl rfl rfl (ok _ (by decide) rfl) (has_any (keptL d lv xs) k A1 c1 _ w4 T1 len1) ?_
    rintro v w5 ⟨rfl, rfl⟩
    rw [has_keptL hlt]
    refine go T2_ok 200 rfl ?_
    have ed : w64 ((d : Int) - k) = ((d - k : Nat) : Int) := by rw [w64_id (by omega) (by omega)]; omega
    have ek : w64 ((k : Int) + 1) = ((k + 1 : Nat) : Int) := w64_id (by omega) (by omega)
    have key := kp_turn (lv := lv) (D := d) hlb.1 (by omega) xs k hlt
    cases hkp : kp (sts d lv xs) k with
    | true =>
      refine guard (b := true) rfl rfl rfl (fun _ => ?_) (fun e => by cases e)
      refine go T2_ok 200 rfl ?_
      refine call rfl rfl rfl (ok _ (by decide) rfl) (has_any (keptL d gr xs) k A2 c2 _ w4 T2' len2) ?_
      rintro v w5 ⟨rfl, rfl⟩
      rw [has_keptL hlt, kp_greater hlb.1 (by omega) xs k hkp]
      refine go T2_ok 200 rfl ?_
      repeat (first | (refine guardA (b := true) rfl rfl rfl rfl (fun _ => ?_) (fun e => by cases e); refine go T2_ok 200 rfl ?_) | (refine guardA (b := false) rfl rfl rfl rfl (fun e => by cases e) (fun _ => ?_); refine go T2_ok 200 rfl ?_) | (refine condT rfl rfl ?_; refine go T2_ok 200 rfl ?_) | (refine condF rfl rfl ?_; refine go T2_ok 200 rfl ?_))
      refine call rfl rfl rfl (ok _ (by decide) rfl) (has_any (keptL d lv xs) k A1 c1 _ w4 T1 len1) ?_
      rintro v w5 ⟨rfl, rfl⟩
      rw [has_keptL hlt, hkp]
      refine go T2_ok 200 rfl ?_
      rw [ed]
      refine call rfl rfl rfl (ok _ (by decide) rfl) (has_any (keptL d lv (xs.map (!·))) ((d - k : Nat) : Int) A4 c4 _ w4 T4 len4) ?_
      rintro v w5 ⟨rfl, rfl⟩
      rw [has_keptL (by omega), key, hkp]
      refine go T2_ok 200 rfl ?_
      refine neqB (a := true) (b := true) rfl rfl (by kernel_rfl) rfl rfl ?_
      refine go T2_ok 200 rfl ?_
      repeat (first | (refine guardA (b := true) rfl rfl rfl rfl (fun _ => ?_) (fun e => by cases e); refine go T2_ok 200 rfl ?_) | (refine guardA (b := false) rfl rfl rfl rfl (fun e => by cases e) (fun _ => ?_); refine go T2_ok 200 rfl ?_) | (refine condT rfl rfl ?_; refine go T2_ok 200 rfl ?_) | (refine condF rfl rfl ?_; refine go T2_ok 200 rfl ?_))
      rw [ek]
      exact round ⟨k + 1, rfl, ⟨rfl, by omega⟩, by omega⟩
    | false =>
      refine guard (b := false) rfl rfl rfl (fun e => by cases e) (fun _ => ?_)
      refine go T2_ok 200 rfl ?_
      refine go T2_ok 200 rfl ?_
      repeat (first | (refine guardA (b := true) rfl rfl rfl rfl (fun _ => ?_) (fun e => by cases e); refine go T2_ok 200 rfl ?_) | (refine guardA (b := false) rfl rfl rfl rfl (fun e => by cases e) (fun _ => ?_); refine go T2_ok 200 rfl ?_) | (refine condT rfl rfl ?_; refine go T2_ok 200 rfl ?_) | (refine condF rfl rfl ?_; refine go T2_ok 200 rfl ?_))
      refine call rfl rfl rfl (ok _ (by decide) rfl) (has_any (keptL d lv xs) k A1 c1 _ w4 T1 len1) ?_
      rintro v w5 ⟨rfl, rfl⟩
      rw [has_keptL hlt, hkp]
      refine go T2_ok 200 rfl ?_
      rw [ed]
      refine call rfl rfl rfl (ok _ (by decide) rfl) (has_any (keptL d lv (xs.map (!·))) ((d - k : Nat) : Int) A4 c4 _ w4 T4 len4) ?_
      rintro v w5 ⟨rfl, rfl⟩
      rw [has_keptL (by omega), key, hkp]
      refine go T2_ok 200 rfl ?_
      refine neqB (a := false) (b := false) rfl rfl (by kernel_rfl) rfl rfl ?_
      refine go T2_ok 200 rfl ?_
      repeat (first | (refine guardA (b := true) rfl rfl rfl rfl (fun _ => ?_) (fun e => by cases e); refine go T2_ok 200 rfl ?_) | (refine guardA (b := false) rfl rfl rfl rfl (fun e => by cases e) (fun _ => ?_); refine go T2_ok 200 rfl ?_) | (refine condT rfl rfl ?_; refine go T2_ok 200 rfl ?_) | (refine condF rfl rfl ?_; refine go T2_ok 200 rfl ?_))
      rw [ek]
      exact round ⟨k + 1, rfl, ⟨rfl, by omega⟩, by omega⟩
  · refine go T2_ok 200 rfl ?_
    refine call rfl rfl rfl (ok _ (by decide) rfl) (known_any _) ?_
    rintro v wk ⟨rfl, qk⟩
    refine go T2_ok 200 rfl ?_
    exact ret (ret1 (v := .bool true) Try.results8 rfl ⟨rfl, (q04).trans qk⟩)
end Go.Proofs.Ytocolpbakaibnaa
