/- The walk of RockPoints. -/
import Derived.Test.YtkkjfjeniaiaiaaL3
import Derived.Test.YtkkjfjeniaiaiaaS7
import Derived.Test.YtkkjfjeniaiaiaaE6
namespace Go.Proofs.Ytkkjfjeniaiaiaa
open Go.Ev Go.Proofs Go.Rock
attribute [local irreducible] At AtH
theorem within_any (t b d at_ sz x : Int) (w : World) (ht : 0 < t) (ht' : t ≤ 216000) (hb : -100000 ≤ b) (hb' : b ≤ 100000) (hd : -60 ≤ d) (hd' : d ≤ 60) (ha : 0 ≤ at_) (ha' : at_ ≤ 100000000000) (hs : 1 ≤ sz) (hs' : sz ≤ 1000) (hx : 0 ≤ x) (hx' : x ≤ 12) :
    Ret Try.prog 44 [.int .i64 t, .int .i64 b, .int .i64 d, .int .i64 at_, .int .i64 sz, .int .i64 x] w fun y w' => y = .bool (decide (wtn t sz b d at_ x)) ∧ w = w' := by
  have n0 : (2 * t * b).natAbs ≤ 432000 * 100000 := by
    rw [Int.natAbs_mul]
    exact Nat.mul_le_mul (by omega) (by omega)
  have n1 : (d * (2 * at_ + 1)).natAbs ≤ 60 * 200000000001 := by
    rw [Int.natAbs_mul]
    exact Nat.mul_le_mul (by omega) (by omega)
  have m1 := mul_bd (a := 2 * t) (b := sz) (by omega) (by omega) (by omega : 2 * t ≤ 432000) hs'
  have m2 := mul_bd (a := 2 * t * sz) (b := x) (B := 12) m1.1 hx m1.2 hx'
  have m3 := mul_bd (a := 2 * t * sz) (b := x + 1) (B := 13) m1.1 (by omega) m1.2 (by omega)
  have e1 : w64 (2 * t) = 2 * t := w64_id (by omega) (by omega)
  have e2 : w64 (2 * t * b) = 2 * t * b := w64_id (by omega) (by omega)
  have e3 : w64 (2 * at_) = 2 * at_ := w64_id (by omega) (by omega)
  have e3' : w64 (2 * at_ + 1) = 2 * at_ + 1 := w64_id (by omega) (by omega)
  have e4 : w64 (d * (2 * at_ + 1)) = d * (2 * at_ + 1) := w64_id (by omega) (by omega)
  have e5 : w64 (2 * t * b + d * (2 * at_ + 1)) = 2 * t * b + d * (2 * at_ + 1) := w64_id (by omega) (by omega)
  have e6 : w64 (2 * t * sz) = 2 * t * sz := w64_id (by omega) (by omega)
  have e7 : w64 (2 * t * sz * x) = 2 * t * sz * x := w64_id (by omega) (by omega)
  have e8 : w64 (x + 1) = x + 1 := w64_id (by omega) (by omega)
  have e9 : w64 (2 * t * sz * (x + 1)) = 2 * t * sz * (x + 1) := w64_id (by omega) (by omega)
  refine enter Try.func44 rfl Try.ntmps44 rfl ?_
  refine go T_ok 200 rfl ?_
  rw [e1, e2, e3, e3', e4, e5, e6, e7]
  refine guardD rfl rfl rfl (fun h1 => ?_) (fun h1 => ?_)
  · refine go T_ok 200 rfl ?_
    rw [e1, e6, e8, e9]
    refine ret (ret1 (v := .bool _) Try.results44 rfl ⟨congrArg Value.bool ?_, rfl⟩)
    rw [Bool.eq_iff_iff, decide_eq_true_iff, decide_eq_true_iff]
    unfold wtn
    exact ⟨fun h => ⟨h1, h⟩, fun h => h.2⟩
  · refine go T_ok 200 rfl ?_
    exact ret (ret1 (v := .bool false) Try.results44 rfl ⟨congrArg Value.bool (decide_eq_false fun h => h1 h.1).symm, rfl⟩)
set_option maxRecDepth 20000 in
set_option maxHeartbeats 8000000 in
theorem walk_RockPoints (v : Vo) (r : Ra) (at_ : Int) (w0 : World) (_hv : VoI v) (_hr : RaI r) (_ha : I64 at_) :
    Ret Try.prog 10 [.agg (vL v).toArray, .agg (rL r).toArray, .int .i64 at_] w0 fun x w' => x = .bool true ∧ Chg No w0 w' := by
  refine enter Try.func10 rfl Try.ntmps10 rfl ?_
  refine go T_ok 200 rfl ?_
  refine bx rfl rfl rfl (cs := vL v) rfl ?_
  intro g1 u1 hg1 hs1 q1 B1
  refine go T_ok 200 rfl ?_
  refine bx rfl rfl rfl (cs := rL r) rfl ?_
  intro g2 u2 hg2 hs2 q2 B2
  have B1 := B1.no q2
  have q := q1.trans q2
  refine go T_ok 200 rfl ?_
  repeat (first | (refine ldA T_ok rfl rfl rfl rfl rfl (Bk.all B1) ?_; refine go T_ok 200 rfl ?_) | (refine ldA T_ok rfl rfl rfl rfl rfl (Bk.all B2) ?_; refine go T_ok 200 rfl ?_) | (refine ld T_ok rfl rfl rfl rfl (Bk.get B1 rfl) ?_; refine go T_ok 200 rfl ?_) | (refine ld T_ok rfl rfl rfl rfl (Bk.get B2 rfl) ?_; refine go T_ok 200 rfl ?_) | (refine guardA (b := true) rfl rfl rfl rfl (fun _ => ?_) (fun e => by cases e); refine go T_ok 200 rfl ?_) | (refine guardA (b := false) rfl rfl rfl rfl (fun e => by cases e) (fun _ => ?_); refine go T_ok 200 rfl ?_) | (refine condT rfl rfl ?_; refine go T_ok 200 rfl ?_) | (refine condF rfl rfl ?_; refine go T_ok 200 rfl ?_))
  refine call rfl rfl rfl (ok _ (by decide) rfl) (rVolume_any v _) ?_
  rintro x w ⟨rfl, qk⟩
  have B1 := B1.no qk
  have B2 := B2.no qk
  have q := q.trans qk
  by_cases hv : VoOk v
  case neg =>
    rw [decide_eq_false hv]
    refine go T_ok 200 rfl ?_
    repeat (first | (refine guardA (b := true) rfl rfl rfl rfl (fun _ => ?_) (fun e => by cases e); refine go T_ok 200 rfl ?_) | (refine guardA (b := false) rfl rfl rfl rfl (fun e => by cases e) (fun _ => ?_); refine go T_ok 200 rfl ?_) | (refine condT rfl rfl ?_; refine go T_ok 200 rfl ?_) | (refine condF rfl rfl ?_; refine go T_ok 200 rfl ?_))
    refine call rfl rfl rfl (ok _ (by decide) rfl) (known_any _) ?_
    rintro v wk ⟨rfl, qk⟩
    refine go T_ok 200 rfl ?_
    exact ret (ret1 (v := .bool true) Try.results10 rfl ⟨rfl, q.trans qk⟩)
  rw [decide_eq_true hv]
  refine go T_ok 200 rfl ?_
  repeat (first | (refine ldA T_ok rfl rfl rfl rfl rfl (Bk.all B1) ?_; refine go T_ok 200 rfl ?_) | (refine ldA T_ok rfl rfl rfl rfl rfl (Bk.all B2) ?_; refine go T_ok 200 rfl ?_) | (refine ld T_ok rfl rfl rfl rfl (Bk.get B1 rfl) ?_; refine go T_ok 200 rfl ?_) | (refine ld T_ok rfl rfl rfl rfl (Bk.get B2 rfl) ?_; refine go T_ok 200 rfl ?_) | (refine guardA (b := true) rfl rfl rfl rfl (fun _ => ?_) (fun e => by cases e); refine go T_ok 200 rfl ?_) | (refine guardA (b := false) rfl rfl rfl rfl (fun e => by cases e) (fun _ => ?_); refine go T_ok 200 rfl ?_) | (refine condT rfl rfl ?_; refine go T_ok 200 rfl ?_) | (refine condF rfl rfl ?_; refine go T_ok 200 rfl ?_))
  refine call rfl rfl rfl (ok _ (by decide) rfl) (rRay_any r _) ?_
  rintro x w ⟨rfl, qk⟩
  have B1 := B1.no qk
  have B2 := B2.no qk
  have q := q.trans qk
  by_cases hr : RaOk r
  case neg =>
    rw [decide_eq_false hr]
    refine go T_ok 200 rfl ?_
    repeat (first | (refine guardA (b := true) rfl rfl rfl rfl (fun _ => ?_) (fun e => by cases e); refine go T_ok 200 rfl ?_) | (refine guardA (b := false) rfl rfl rfl rfl (fun e => by cases e) (fun _ => ?_); refine go T_ok 200 rfl ?_) | (refine condT rfl rfl ?_; refine go T_ok 200 rfl ?_) | (refine condF rfl rfl ?_; refine go T_ok 200 rfl ?_))
    refine call rfl rfl rfl (ok _ (by decide) rfl) (known_any _) ?_
    rintro v wk ⟨rfl, qk⟩
    refine go T_ok 200 rfl ?_
    exact ret (ret1 (v := .bool true) Try.results10 rfl ⟨rfl, q.trans qk⟩)
  rw [decide_eq_true hr]
  refine go T_ok 200 rfl ?_
  repeat (first | (refine ldA T_ok rfl rfl rfl rfl rfl (Bk.all B1) ?_; refine go T_ok 200 rfl ?_) | (refine ldA T_ok rfl rfl rfl rfl rfl (Bk.all B2) ?_; refine go T_ok 200 rfl ?_) | (refine ld T_ok rfl rfl rfl rfl (Bk.get B1 rfl) ?_; refine go T_ok 200 rfl ?_) | (refine ld T_ok rfl rfl rfl rfl (Bk.get B2 rfl) ?_; refine go T_ok 200 rfl ?_) | (refine guardA (b := true) rfl rfl rfl rfl (fun _ => ?_) (fun e => by cases e); refine go T_ok 200 rfl ?_) | (refine guardA (b := false) rfl rfl rfl rfl (fun e => by cases e) (fun _ => ?_); refine go T_ok 200 rfl ?_) | (refine condT rfl rfl ?_; refine go T_ok 200 rfl ?_) | (refine condF rfl rfl ?_; refine go T_ok 200 rfl ?_))
  refine guardD rfl rfl rfl (fun h1 => ?_) (fun h1 => ?_)
  · skip
    refine go T_ok 200 rfl ?_
    repeat (first | (refine guardA (b := true) rfl rfl rfl rfl (fun _ => ?_) (fun e => by cases e); refine go T_ok 200 rfl ?_) | (refine guardA (b := false) rfl rfl rfl rfl (fun e => by cases e) (fun _ => ?_); refine go T_ok 200 rfl ?_) | (refine condT rfl rfl ?_; refine go T_ok 200 rfl ?_) | (refine condF rfl rfl ?_; refine go T_ok 200 rfl ?_))
    refine call rfl rfl rfl (ok _ (by decide) rfl) (known_any _) ?_
    rintro v wk ⟨rfl, qk⟩
    refine go T_ok 200 rfl ?_
    exact ret (ret1 (v := .bool true) Try.results10 rfl ⟨rfl, q.trans qk⟩)
  refine go T_ok 200 rfl ?_
  repeat (first | (refine ldA T_ok rfl rfl rfl rfl rfl (Bk.all B1) ?_; refine go T_ok 200 rfl ?_) | (refine ldA T_ok rfl rfl rfl rfl rfl (Bk.all B2) ?_; refine go T_ok 200 rfl ?_) | (refine ld T_ok rfl rfl rfl rfl (Bk.get B1 rfl) ?_; refine go T_ok 200 rfl ?_) | (refine ld T_ok rfl rfl rfl rfl (Bk.get B2 rfl) ?_; refine go T_ok 200 rfl ?_) | (refine guardA (b := true) rfl rfl rfl rfl (fun _ => ?_) (fun e => by cases e); refine go T_ok 200 rfl ?_) | (refine guardA (b := false) rfl rfl rfl rfl (fun e => by cases e) (fun _ => ?_); refine go T_ok 200 rfl ?_) | (refine condT rfl rfl ?_; refine go T_ok 200 rfl ?_) | (refine condF rfl rfl ?_; refine go T_ok 200 rfl ?_))
  refine condD rfl (fun h2 => ?_) (fun h2 => ?_)
  · refine go T_ok 200 rfl ?_
    refine call rfl rfl rfl (ok _ (by decide) rfl) (known_any _) ?_
    rintro v wk ⟨rfl, qk⟩
    refine go T_ok 200 rfl ?_
    exact ret (ret1 (v := .bool true) Try.results10 rfl ⟨rfl, q.trans qk⟩)
  have hvo := hv
  unfold VoOk at hvo
  have hro := hr
  unfold RaOk at hro
  have t0 := tk_pos r
  have t1 := tk_le hr
  have hxyz := vo_xyz hv
  have k5 : chR v r = (0, chs (pcs v r)) := by unfold chR; rw [if_pos ⟨hv, hr⟩]
  have k6 : thR v r = thrL (pcs v r) := by unfold thR; rw [if_pos ⟨hv, hr⟩]
  refine go T_ok 200 rfl ?_
  repeat (first | (refine ldA T_ok rfl rfl rfl rfl rfl (Bk.all B1) ?_; refine go T_ok 200 rfl ?_) | (refine ldA T_ok rfl rfl rfl rfl rfl (Bk.all B2) ?_; refine go T_ok 200 rfl ?_) | (refine ld T_ok rfl rfl rfl rfl (Bk.get B1 rfl) ?_; refine go T_ok 200 rfl ?_) | (refine ld T_ok rfl rfl rfl rfl (Bk.get B2 rfl) ?_; refine go T_ok 200 rfl ?_) | (refine guardA (b := true) rfl rfl rfl rfl (fun _ => ?_) (fun e => by cases e); refine go T_ok 200 rfl ?_) | (refine guardA (b := false) rfl rfl rfl rfl (fun e => by cases e) (fun _ => ?_); refine go T_ok 200 rfl ?_) | (refine condT rfl rfl ?_; refine go T_ok 200 rfl ?_) | (refine condF rfl rfl ?_; refine go T_ok 200 rfl ?_))
  refine call rfl rfl rfl (ok _ (by decide) rfl) (Ticks_any r _) ?_
  rintro x w ⟨rfl, qk⟩
  have B1 := B1.no qk
  have B2 := B2.no qk
  have q := q.trans qk
  rw [if_pos hr, if_pos hr]
  refine go T_ok 200 rfl ?_
  repeat (first | (refine ldA T_ok rfl rfl rfl rfl rfl (Bk.all B1) ?_; refine go T_ok 200 rfl ?_) | (refine ldA T_ok rfl rfl rfl rfl rfl (Bk.all B2) ?_; refine go T_ok 200 rfl ?_) | (refine ld T_ok rfl rfl rfl rfl (Bk.get B1 rfl) ?_; refine go T_ok 200 rfl ?_) | (refine ld T_ok rfl rfl rfl rfl (Bk.get B2 rfl) ?_; refine go T_ok 200 rfl ?_) | (refine guardA (b := true) rfl rfl rfl rfl (fun _ => ?_) (fun e => by cases e); refine go T_ok 200 rfl ?_) | (refine guardA (b := false) rfl rfl rfl rfl (fun e => by cases e) (fun _ => ?_); refine go T_ok 200 rfl ?_) | (refine condT rfl rfl ?_; refine go T_ok 200 rfl ?_) | (refine condF rfl rfl ?_; refine go T_ok 200 rfl ?_))
  refine call rfl rfl rfl (ok _ (by decide) rfl) (Chords_any v r _) ?_
  rintro x w ⟨A1, c1, e1, l1, rfl, S1, qk, j1⟩
  have B1 := B1.no qk
  have B2 := B2.no qk
  have q := q.trans qk
  rw [k5] at j1
  cases j1
  refine go T_ok 200 rfl ?_
  repeat (first | (refine guardA (b := true) rfl rfl rfl rfl (fun _ => ?_) (fun e => by cases e); refine go T_ok 200 rfl ?_) | (refine guardA (b := false) rfl rfl rfl rfl (fun e => by cases e) (fun _ => ?_); refine go T_ok 200 rfl ?_) | (refine condT rfl rfl ?_; refine go T_ok 200 rfl ?_) | (refine condF rfl rfl ?_; refine go T_ok 200 rfl ?_))
  refine guardA (b := false) rfl rfl rfl (congrArg Value.bool (decide_eq_false (by omega))) (fun e => by cases e) (fun _ => ?_)
  refine go T_ok 200 rfl ?_
  refine condF rfl (decide_eq_false (by omega)) ?_
  refine go T_ok 200 rfl ?_
  repeat (first | (refine ldA T_ok rfl rfl rfl rfl rfl (Bk.all B1) ?_; refine go T_ok 200 rfl ?_) | (refine ldA T_ok rfl rfl rfl rfl rfl (Bk.all B2) ?_; refine go T_ok 200 rfl ?_) | (refine ld T_ok rfl rfl rfl rfl (Bk.get B1 rfl) ?_; refine go T_ok 200 rfl ?_) | (refine ld T_ok rfl rfl rfl rfl (Bk.get B2 rfl) ?_; refine go T_ok 200 rfl ?_) | (refine guardA (b := true) rfl rfl rfl rfl (fun _ => ?_) (fun e => by cases e); refine go T_ok 200 rfl ?_) | (refine guardA (b := false) rfl rfl rfl rfl (fun e => by cases e) (fun _ => ?_); refine go T_ok 200 rfl ?_) | (refine condT rfl rfl ?_; refine go T_ok 200 rfl ?_) | (refine condF rfl rfl ?_; refine go T_ok 200 rfl ?_))
  refine call rfl rfl rfl (ok _ (by decide) rfl) (Through_any v r _) ?_
  rintro x w ⟨rfl, qk⟩
  have B1 := B1.no qk
  have B2 := B2.no qk
  have S1 := S1.no qk
  have q := q.trans qk
  rw [k6]
  have hcl : (chs (pcs v r)).length = (pcs v r).length := chs_len _
  have hlen := pcs_len r hv
  have hce := told_ce hv hr (at_ := at_) (by omega)
  have hpz := posP_zero (pcs v r)
  have hpe := posP_end (pcs v r) (thrL (pcs v r)).2.1
  have hps : ∀ (j : Nat) (p : Pc), (pcs v r)[j]? = some p → posP (pcs v r) (thrL (pcs v r)).2.1 j = p.a ∧ posP (pcs v r) (thrL (pcs v r)).2.1 (j + 1) = p.u := fun j p h => ⟨posP_get h, posP_step hv hr h⟩
  have hco : ∀ (j : Nat) (p q : Pc), (pcs v r)[j]? = some p → (pcs v r)[j + 1]? = some q → p.c ≠ q.c := fun j p q h1 h2 => (pcs_contig hv hr h1 h2).2
  have hmem : ∀ p ∈ pcs v r, 0 ≤ p.c ∧ p.c < v.nx * v.ny * v.nz ∧ 0 ≤ p.a ∧ p.a < p.u ∧ p.u ≤ 24192000000 := fun p hp => by
    have := mem_pcs hv hp
    have := (ts_bd hv hr this.2.2.2.2.2.2).2
    omega
  have hth : (thrL (pcs v r)).1 ≤ 24192000000 ∧ 0 ≤ (thrL (pcs v r)).1 := by
    generalize pcs v r = L at hmem
    cases L with
    | nil => exact ⟨by decide, by decide⟩
    | cons p L => have := hmem p (by simp); show p.a ≤ _ ∧ 0 ≤ p.a; omega
  generalize pcs v r = L at *
  have hgetc : ∀ (j : Nat) (p : Pc), L[j]? = some p → (chs L)[j]? = some (p.c, p.u - p.a) := fun j p h => by unfold chs; rw [List.getElem?_map, h]; rfl
  refine go T_ok 8 rfl ?_
  refine join [2, 3, 4, 7, 9, 11, 12] (fun _ : Unit => [.int .i64 at_, .pointer (some ⟨g1, 0, none⟩), .pointer (some ⟨g2, 0, none⟩), .int .i64 (tk r), .slice A1 (chs L).length c1, .int .i64 (thrL L).1, .int .i64 (thrL L).2.1])
    (fun _ w' => w' = w) (fun _ => rfl) ?_ ?_
  · refine go T_ok 200 rfl ?_
    cases L with
    | nil =>
      refine go T_ok 200 rfl ?_
      repeat (first | (refine guardA (b := true) rfl rfl rfl rfl (fun _ => ?_) (fun e => by cases e); refine go T_ok 200 rfl ?_) | (refine guardA (b := false) rfl rfl rfl rfl (fun e => by cases e) (fun _ => ?_); refine go T_ok 200 rfl ?_) | (refine condT rfl rfl ?_; refine go T_ok 200 rfl ?_) | (refine condF rfl rfl ?_; refine go T_ok 200 rfl ?_))
      exact round ⟨(), rfl, rfl⟩
    | cons p L =>
      have h5 := hth.2
      refine condF rfl (by simp [chs]; omega) ?_
      refine go T_ok 200 rfl ?_
      repeat (first | (refine guardA (b := true) rfl rfl rfl rfl (fun _ => ?_) (fun e => by cases e); refine go T_ok 200 rfl ?_) | (refine guardA (b := false) rfl rfl rfl rfl (fun e => by cases e) (fun _ => ?_); refine go T_ok 200 rfl ?_) | (refine condT rfl rfl ?_; refine go T_ok 200 rfl ?_) | (refine condF rfl rfl ?_; refine go T_ok 200 rfl ?_))
      refine condF rfl (decide_eq_false (by show ¬ p.a < 0; exact Int.not_lt.2 h5)) ?_
      refine go T_ok 200 rfl ?_
      repeat (first | (refine guardA (b := true) rfl rfl rfl rfl (fun _ => ?_) (fun e => by cases e); refine go T_ok 200 rfl ?_) | (refine guardA (b := false) rfl rfl rfl rfl (fun e => by cases e) (fun _ => ?_); refine go T_ok 200 rfl ?_) | (refine condT rfl rfl ?_; refine go T_ok 200 rfl ?_) | (refine condF rfl rfl ?_; refine go T_ok 200 rfl ?_))
      exact round ⟨(), rfl, rfl⟩
  rintro ⟨⟩ τ w' rfl
  have wq := q
  generalize (thrL L).2.1 = b at *
  generalize (thrL L).1 = a at *
  obtain rfl : a = posP L b 0 := hpz.symm
  refine go T_ok 200 rfl ?_
  refine loop [2, 3, 4, 7, 9, 12, 14, 15, 16] (fun j : Nat => [.int .i64 at_, .pointer (some ⟨g1, 0, none⟩), .pointer (some ⟨g2, 0, none⟩), .int .i64 (tk r), .slice A1 (chs L).length c1, .int .i64 b, .int .i64 (posP L b j), .int .i64 (toldF at_ (L.take j)), .int .i64 (j : Int)])
    (fun j w'' => j ≤ L.length ∧ Chg No w' w'') (fun j => L.length - j) 0 (fun _ => rfl) rfl ⟨by omega, Chg.refl _ _⟩ ?_
  rintro j τ w ⟨hj, qk⟩
  have p := qk
  have B1 := B1.no qk
  have B2 := B2.no qk
  have S1 := S1.no qk
  have q := q.trans qk
  refine go T_ok 200 rfl ?_
  refine condD rfl (fun hlt => ?_) (fun hlt => ?_)
  · have hlt : j < L.length := by omega
    obtain ⟨z, hz⟩ : ∃ s, L[j]? = some s := ⟨_, List.getElem?_eq_getElem hlt⟩
    have hzc := hgetc j z hz
    obtain ⟨bb, o, hA, hb, hc⟩ := S1.el cL_len hzc
    have hlb : bb < w.heap.size := Nat.lt_of_lt_of_le hb S1.2.1
    have hm := hmem z (List.mem_of_getElem? hz)
    obtain ⟨hp1, hp2⟩ := hps j z hz
    have hlt2 : j < (chs L).length := by omega
    have k0 : ∀ (n : Nat) (x : Value), nth? (cL (z.c, z.u - z.a)) n = some x → ∀ w', Chg No w w' → w'.cell? ⟨bb, o + j * 2 + n, none⟩ = some x := fun n x hx w' hS => (hS.cell (a := ⟨bb, o + j * 2 + n, none⟩) hlb (fun h => h)).trans (hc.get hx)
    have e8 : w64 ((j : Int) + 1) = ((j + 1 : Nat) : Int) := w64_id (by omega) (by omega)
    have e9 : w64 (z.a + (z.u - z.a)) = z.u := by rw [w64_id (by omega) (by omega)]; omega
    have hsn : toldF at_ (L.take (j + 1)) = if z.a ≤ at_ ∧ at_ < z.u then z.c else toldF at_ (L.take j) := by rw [take_snoc hz, toldF_snoc]
    have kq : ∀ j', j = j' + 1 → ∃ y : Pc, y.c ≠ z.c ∧ ∀ w', Chg No w w' → w'.cell? ⟨bb, o + j' * 2 + 0, none⟩ = some (I y.c) := by
      rintro j' rfl
      obtain ⟨y, hy⟩ : ∃ s, L[j']? = some s := ⟨_, List.getElem?_eq_getElem (by omega)⟩
      obtain ⟨bb', o', hA', hb', hc'⟩ := S1.el cL_len (hgetc j' y hy)
      rw [hA] at hA'
      simp only [Option.some.injEq, Addr.mk.injEq, and_true] at hA'
      obtain ⟨rfl, rfl⟩ := hA'
      exact ⟨y, hco j' y z hy hz, fun w' hS => (hS.cell (a := ⟨bb, o + j' * 2 + 0, none⟩) hlb (fun h => h)).trans (hc'.get (i := 0) rfl)⟩
    rw [hA, hp1]
    refine go T_ok 200 rfl ?_
    refine draw mixed (fun w' => Chg No w w') ([0,1,2,3,4,5,6,7,8,9,10,11,12,13,14,15,16,17,18,19,20].map (fun i => (i, true)) ++ [(21, false)] ++ [22,23,24,25,26,27,28,29,30,31,32,33,34,35,36,37,38,39,40,41].map (fun i => (i, true))) rfl (by kernel_rfl) (Chg.drew _) ?_
    refine goH T_ok 200 rfl ?_
    refine quietH rfl (fun w' hS => r_idx T_ok rfl rfl rfl rfl j rfl hlt2) ?_
    refine goH T_ok 200 rfl ?_
    refine quietH rfl (fun w' hS => r_load T_ok rfl rfl rfl (k0 1 _ rfl w' hS)) ?_
    refine goH T_ok 200 rfl ?_
    refine guardHA (b := false) rfl rfl rfl (congrArg Value.bool (decide_eq_false (by omega))) (fun h => by cases h) (fun _ => ?_)
    refine goH T_ok 200 rfl ?_
    refine quietH rfl (fun w' hS => r_idx T_ok rfl rfl rfl rfl j rfl hlt2) ?_
    refine goH T_ok 200 rfl ?_
    refine quietH rfl (fun w' hS => r_load T_ok rfl rfl rfl (k0 0 _ rfl w' hS)) ?_
    refine goH T_ok 200 rfl ?_
    refine guardHA (b := false) rfl rfl rfl (congrArg Value.bool (decide_eq_false (by show ¬ z.c < 0; omega))) (fun h => by cases h) (fun _ => ?_)
    refine goH T_ok 200 rfl ?_
    refine quietH rfl (fun w' hS => r_idx T_ok rfl rfl rfl rfl j rfl hlt2) ?_
    refine goH T_ok 200 rfl ?_
    refine quietH rfl (fun w' hS => r_load T_ok rfl rfl rfl (k0 0 _ rfl w' hS)) ?_
    refine goH T_ok 200 rfl ?_
    refine quietH rfl (fun w' hS => r_loadA T_ok rfl rfl rfl rfl (B1.no hS).all) ?_
    refine goH T_ok 200 rfl ?_
    refine callE rfl rfl rfl (ok _ (by decide) rfl) (Cells_any v _ hv) ?_
    rintro x w2 ⟨rfl, q2'⟩
    have qk := (Chg.drew w).trans q2'
    refine ⟨qk, ?_⟩
    refine goH T_ok 200 rfl ?_
    refine guardHA (b := false) rfl rfl rfl (congrArg Value.bool (decide_eq_false (by show ¬ v.nx * v.ny * v.nz ≤ z.c; omega))) (fun h => by cases h) (fun _ => ?_)
    refine goH T_ok 200 rfl ?_
    by_cases hj0 : j = 0
    · refine guardHA (b := false) rfl rfl rfl (congrArg Value.bool (decide_eq_false (by omega))) (fun h => by cases h) (fun _ => ?_)
      refine goH T_ok 200 rfl ?_
      repeat (first | (refine guardHA (b := true) rfl rfl rfl rfl (fun _ => ?_) (fun h => by cases h); refine goH T_ok 200 rfl ?_) | (refine guardHA (b := false) rfl rfl rfl rfl (fun h => by cases h) (fun _ => ?_); refine goH T_ok 200 rfl ?_))
      refine endH ?_
      refine go T_ok 200 rfl ?_
      repeat (first | (refine guardA (b := true) rfl rfl rfl rfl (fun _ => ?_) (fun e => by cases e); refine go T_ok 200 rfl ?_) | (refine guardA (b := false) rfl rfl rfl rfl (fun e => by cases e) (fun _ => ?_); refine go T_ok 200 rfl ?_) | (refine condT rfl rfl ?_; refine go T_ok 200 rfl ?_) | (refine condF rfl rfl ?_; refine go T_ok 200 rfl ?_))
      have B1 := B1.no qk
      have B2 := B2.no qk
      have S1 := S1.no qk
      have p := p.no qk
      have q := q.trans qk
      refine go T_ok 200 rfl ?_
      refine guardD rfl rfl rfl (fun ha1 => ?_) (fun ha1 => ?_)
      · refine go T_ok 200 rfl ?_
        refine idx T_ok rfl rfl rfl rfl rfl j rfl hlt2 ?_
        refine go T_ok 200 rfl ?_
        refine ld T_ok rfl rfl rfl rfl (k0 1 _ rfl _ qk) ?_
        refine go T_ok 200 rfl ?_
        rw [e9]
        refine condD rfl (fun ha2 => ?_) (fun ha2 => ?_)
        · refine go T_ok 200 rfl ?_
          refine idx T_ok rfl rfl rfl rfl rfl j rfl hlt2 ?_
          refine go T_ok 200 rfl ?_
          refine ld T_ok rfl rfl rfl rfl (k0 0 _ rfl _ qk) ?_
          refine go T_ok 200 rfl ?_
          refine go T_ok 200 rfl ?_
          refine idx T_ok rfl rfl rfl rfl rfl j rfl hlt2 ?_
          refine go T_ok 200 rfl ?_
          refine ld T_ok rfl rfl rfl rfl (k0 1 _ rfl _ qk) ?_
          refine go T_ok 200 rfl ?_
          rw [e9, e8]
          exact round ⟨j + 1, by rw [hp2, hsn, if_pos ⟨ha1, ha2⟩]; rfl, ⟨by omega, p⟩, by omega⟩
        · skip
          refine go T_ok 200 rfl ?_
          refine idx T_ok rfl rfl rfl rfl rfl j rfl hlt2 ?_
          refine go T_ok 200 rfl ?_
          refine ld T_ok rfl rfl rfl rfl (k0 1 _ rfl _ qk) ?_
          refine go T_ok 200 rfl ?_
          rw [e9, e8]
          exact round ⟨j + 1, by rw [hp2, hsn, if_neg (fun h => ha2 h.2)]; rfl, ⟨by omega, p⟩, by omega⟩
      · refine go T_ok 200 rfl ?_
        repeat (first | (refine guardA (b := true) rfl rfl rfl rfl (fun _ => ?_) (fun e => by cases e); refine go T_ok 200 rfl ?_) | (refine guardA (b := false) rfl rfl rfl rfl (fun e => by cases e) (fun _ => ?_); refine go T_ok 200 rfl ?_) | (refine condT rfl rfl ?_; refine go T_ok 200 rfl ?_) | (refine condF rfl rfl ?_; refine go T_ok 200 rfl ?_))
        refine go T_ok 200 rfl ?_
        refine idx T_ok rfl rfl rfl rfl rfl j rfl hlt2 ?_
        refine go T_ok 200 rfl ?_
        refine ld T_ok rfl rfl rfl rfl (k0 1 _ rfl _ qk) ?_
        refine go T_ok 200 rfl ?_
        rw [e9, e8]
        exact round ⟨j + 1, by rw [hp2, hsn, if_neg (fun h => ha1 h.1)]; rfl, ⟨by omega, p⟩, by omega⟩
    · obtain ⟨j', hj'⟩ : ∃ j', j = j' + 1 := ⟨j - 1, by omega⟩
      obtain ⟨y, hyz, ky⟩ := kq j' hj'
      have e10 : w64 ((j : Int) - 1) = ((j' : Nat) : Int) := by rw [w64_id (by omega) (by omega)]; omega
      refine guardHA (b := true) rfl rfl rfl (congrArg Value.bool (decide_eq_true (by omega))) (fun _ => ?_) (fun h => by cases h)
      refine goH T_ok 200 rfl ?_
      repeat (first | (refine guardHA (b := true) rfl rfl rfl rfl (fun _ => ?_) (fun h => by cases h); refine goH T_ok 200 rfl ?_) | (refine guardHA (b := false) rfl rfl rfl rfl (fun h => by cases h) (fun _ => ?_); refine goH T_ok 200 rfl ?_))
      refine quietH rfl (fun w' hS => r_idx T_ok rfl rfl rfl rfl j rfl hlt2) ?_
      refine goH T_ok 200 rfl ?_
      refine quietH rfl (fun w' hS => r_load T_ok rfl rfl rfl (k0 0 _ rfl w' hS)) ?_
      refine goH T_ok 200 rfl ?_
      rw [e10]
      refine quietH rfl (fun w' hS => r_idx T_ok rfl rfl rfl rfl j' rfl (by omega)) ?_
      refine goH T_ok 200 rfl ?_
      refine quietH rfl (fun w' hS => r_load T_ok rfl rfl rfl (ky w' hS)) ?_
      refine goH T_ok 200 rfl ?_
      refine endH ?_
      refine go T_ok 200 rfl ?_
      refine condF rfl (by simp; exact fun h => hyz h.symm) ?_
      have B1 := B1.no qk
      have B2 := B2.no qk
      have S1 := S1.no qk
      have p := p.no qk
      have q := q.trans qk
      refine go T_ok 200 rfl ?_
      refine guardD rfl rfl rfl (fun ha1 => ?_) (fun ha1 => ?_)
      · refine go T_ok 200 rfl ?_
        refine idx T_ok rfl rfl rfl rfl rfl j rfl hlt2 ?_
        refine go T_ok 200 rfl ?_
        refine ld T_ok rfl rfl rfl rfl (k0 1 _ rfl _ qk) ?_
        refine go T_ok 200 rfl ?_
        rw [e9]
        refine condD rfl (fun ha2 => ?_) (fun ha2 => ?_)
        · refine go T_ok 200 rfl ?_
          refine idx T_ok rfl rfl rfl rfl rfl j rfl hlt2 ?_
          refine go T_ok 200 rfl ?_
          refine ld T_ok rfl rfl rfl rfl (k0 0 _ rfl _ qk) ?_
          refine go T_ok 200 rfl ?_
          refine go T_ok 200 rfl ?_
          refine idx T_ok rfl rfl rfl rfl rfl j rfl hlt2 ?_
          refine go T_ok 200 rfl ?_
          refine ld T_ok rfl rfl rfl rfl (k0 1 _ rfl _ qk) ?_
          refine go T_ok 200 rfl ?_
          rw [e9, e8]
          exact round ⟨j + 1, by rw [hp2, hsn, if_pos ⟨ha1, ha2⟩]; rfl, ⟨by omega, p⟩, by omega⟩
        · skip
          refine go T_ok 200 rfl ?_
          refine idx T_ok rfl rfl rfl rfl rfl j rfl hlt2 ?_
          refine go T_ok 200 rfl ?_
          refine ld T_ok rfl rfl rfl rfl (k0 1 _ rfl _ qk) ?_
          refine go T_ok 200 rfl ?_
          rw [e9, e8]
          exact round ⟨j + 1, by rw [hp2, hsn, if_neg (fun h => ha2 h.2)]; rfl, ⟨by omega, p⟩, by omega⟩
      · refine go T_ok 200 rfl ?_
        repeat (first | (refine guardA (b := true) rfl rfl rfl rfl (fun _ => ?_) (fun e => by cases e); refine go T_ok 200 rfl ?_) | (refine guardA (b := false) rfl rfl rfl rfl (fun e => by cases e) (fun _ => ?_); refine go T_ok 200 rfl ?_) | (refine condT rfl rfl ?_; refine go T_ok 200 rfl ?_) | (refine condF rfl rfl ?_; refine go T_ok 200 rfl ?_))
        refine go T_ok 200 rfl ?_
        refine idx T_ok rfl rfl rfl rfl rfl j rfl hlt2 ?_
        refine go T_ok 200 rfl ?_
        refine ld T_ok rfl rfl rfl rfl (k0 1 _ rfl _ qk) ?_
        refine go T_ok 200 rfl ?_
        rw [e9, e8]
        exact round ⟨j + 1, by rw [hp2, hsn, if_neg (fun h => ha1 h.1)]; rfl, ⟨by omega, p⟩, by omega⟩
  have hjl : j = L.length := by omega
  subst hjl
  rw [hpe, List.take_length]
  generalize toldF at_ L = told at *
  clear p
  refine go T_ok 200 rfl ?_
  refine condF rfl (by simp) ?_
  refine go T_ok 200 rfl ?_
  refine condD rfl (fun htn => ?_) (fun htn => ?_)
  · have hneg := hce.2 htn
    refine go T_ok 200 rfl ?_
    refine loop [2, 3, 4, 7, 17] (fun x : Nat => [.int .i64 at_, .pointer (some ⟨g1, 0, none⟩), .pointer (some ⟨g2, 0, none⟩), .int .i64 (tk r), .int .i64 (x : Int)])
      (fun x w'' => (x : Int) ≤ v.nx ∧ Chg No w w'') (fun x => v.nx.toNat - x) 0 (fun _ => rfl) rfl ⟨by omega, Chg.refl _ _⟩ ?_
    rintro x τ w ⟨hx, qk⟩
    have p1 := qk
    have B1 := B1.no qk
    have B2 := B2.no qk
    have q := q.trans qk
    refine go T_ok 200 rfl ?_
    repeat (first | (refine ldA T_ok rfl rfl rfl rfl rfl (Bk.all B1) ?_; refine go T_ok 200 rfl ?_) | (refine ldA T_ok rfl rfl rfl rfl rfl (Bk.all B2) ?_; refine go T_ok 200 rfl ?_) | (refine ld T_ok rfl rfl rfl rfl (Bk.get B1 rfl) ?_; refine go T_ok 200 rfl ?_) | (refine ld T_ok rfl rfl rfl rfl (Bk.get B2 rfl) ?_; refine go T_ok 200 rfl ?_) | (refine guardA (b := true) rfl rfl rfl rfl (fun _ => ?_) (fun e => by cases e); refine go T_ok 200 rfl ?_) | (refine guardA (b := false) rfl rfl rfl rfl (fun e => by cases e) (fun _ => ?_); refine go T_ok 200 rfl ?_) | (refine condT rfl rfl ?_; refine go T_ok 200 rfl ?_) | (refine condF rfl rfl ?_; refine go T_ok 200 rfl ?_))
    refine condD rfl (fun hxl => ?_) (fun hxl => ?_)
    · have f1 : w64 ((x : Int) + 1) = ((x + 1 : Nat) : Int) := w64_id (by omega) (by omega)
      refine go T_ok 200 rfl ?_
      refine loop [2, 3, 4, 7, 17, 18] (fun y : Nat => [.int .i64 at_, .pointer (some ⟨g1, 0, none⟩), .pointer (some ⟨g2, 0, none⟩), .int .i64 (tk r), .int .i64 (x : Int), .int .i64 (y : Int)])
        (fun y w'' => (y : Int) ≤ v.ny ∧ Chg No w w'') (fun y => v.ny.toNat - y) 0 (fun _ => rfl) rfl ⟨by omega, Chg.refl _ _⟩ ?_
      rintro y τ w ⟨hy, qk⟩
      have p2 := qk
      have B1 := B1.no qk
      have B2 := B2.no qk
      have p1 := p1.no qk
      have q := q.trans qk
      refine go T_ok 200 rfl ?_
      repeat (first | (refine ldA T_ok rfl rfl rfl rfl rfl (Bk.all B1) ?_; refine go T_ok 200 rfl ?_) | (refine ldA T_ok rfl rfl rfl rfl rfl (Bk.all B2) ?_; refine go T_ok 200 rfl ?_) | (refine ld T_ok rfl rfl rfl rfl (Bk.get B1 rfl) ?_; refine go T_ok 200 rfl ?_) | (refine ld T_ok rfl rfl rfl rfl (Bk.get B2 rfl) ?_; refine go T_ok 200 rfl ?_) | (refine guardA (b := true) rfl rfl rfl rfl (fun _ => ?_) (fun e => by cases e); refine go T_ok 200 rfl ?_) | (refine guardA (b := false) rfl rfl rfl rfl (fun e => by cases e) (fun _ => ?_); refine go T_ok 200 rfl ?_) | (refine condT rfl rfl ?_; refine go T_ok 200 rfl ?_) | (refine condF rfl rfl ?_; refine go T_ok 200 rfl ?_))
      refine condD rfl (fun hyl => ?_) (fun hyl => ?_)
      · have f2 : w64 ((y : Int) + 1) = ((y + 1 : Nat) : Int) := w64_id (by omega) (by omega)
        refine go T_ok 200 rfl ?_
        refine loop [2, 3, 4, 7, 17, 18, 19] (fun z : Nat => [.int .i64 at_, .pointer (some ⟨g1, 0, none⟩), .pointer (some ⟨g2, 0, none⟩), .int .i64 (tk r), .int .i64 (x : Int), .int .i64 (y : Int), .int .i64 (z : Int)])
          (fun z w'' => (z : Int) ≤ v.nz ∧ Chg No w w'') (fun z => v.nz.toNat - z) 0 (fun _ => rfl) rfl ⟨by omega, Chg.refl _ _⟩ ?_
        rintro z τ w ⟨hz, qk⟩
        have p3 := qk
        have B1 := B1.no qk
        have B2 := B2.no qk
        have p1 := p1.no qk
        have p2 := p2.no qk
        have q := q.trans qk
        refine go T_ok 200 rfl ?_
        repeat (first | (refine ldA T_ok rfl rfl rfl rfl rfl (Bk.all B1) ?_; refine go T_ok 200 rfl ?_) | (refine ldA T_ok rfl rfl rfl rfl rfl (Bk.all B2) ?_; refine go T_ok 200 rfl ?_) | (refine ld T_ok rfl rfl rfl rfl (Bk.get B1 rfl) ?_; refine go T_ok 200 rfl ?_) | (refine ld T_ok rfl rfl rfl rfl (Bk.get B2 rfl) ?_; refine go T_ok 200 rfl ?_) | (refine guardA (b := true) rfl rfl rfl rfl (fun _ => ?_) (fun e => by cases e); refine go T_ok 200 rfl ?_) | (refine guardA (b := false) rfl rfl rfl rfl (fun e => by cases e) (fun _ => ?_); refine go T_ok 200 rfl ?_) | (refine condT rfl rfl ?_; refine go T_ok 200 rfl ?_) | (refine condF rfl rfl ?_; refine go T_ok 200 rfl ?_))
        refine condD rfl (fun hzl => ?_) (fun hzl => ?_)
        · have f3 : w64 ((z : Int) + 1) = ((z + 1 : Nat) : Int) := w64_id (by omega) (by omega)
          refine go T_ok 200 rfl ?_
          repeat (first | (refine ldA T_ok rfl rfl rfl rfl rfl (Bk.all B1) ?_; refine go T_ok 200 rfl ?_) | (refine ldA T_ok rfl rfl rfl rfl rfl (Bk.all B2) ?_; refine go T_ok 200 rfl ?_) | (refine ld T_ok rfl rfl rfl rfl (Bk.get B1 rfl) ?_; refine go T_ok 200 rfl ?_) | (refine ld T_ok rfl rfl rfl rfl (Bk.get B2 rfl) ?_; refine go T_ok 200 rfl ?_) | (refine guardA (b := true) rfl rfl rfl rfl (fun _ => ?_) (fun e => by cases e); refine go T_ok 200 rfl ?_) | (refine guardA (b := false) rfl rfl rfl rfl (fun e => by cases e) (fun _ => ?_); refine go T_ok 200 rfl ?_) | (refine condT rfl rfl ?_; refine go T_ok 200 rfl ?_) | (refine condF rfl rfl ?_; refine go T_ok 200 rfl ?_))
          refine call rfl rfl rfl (ok _ (by decide) rfl) (within_any (tk r) r.x r.dx at_ v.sz (x : Int) _ t0 t1 (by omega) (by omega) (by omega) (by omega) (by omega) (by omega) (by omega) (by omega) (by omega) (by omega)) ?_
          rintro x' w' ⟨rfl, rfl⟩
          by_cases hwx : wtn (tk r) v.sz r.x r.dx at_ (x : Int)
          case neg =>
            rw [decide_eq_false hwx]
            refine go T_ok 200 rfl ?_
            repeat (first | (refine guardA (b := true) rfl rfl rfl rfl (fun _ => ?_) (fun e => by cases e); refine go T_ok 200 rfl ?_) | (refine guardA (b := false) rfl rfl rfl rfl (fun e => by cases e) (fun _ => ?_); refine go T_ok 200 rfl ?_) | (refine condT rfl rfl ?_; refine go T_ok 200 rfl ?_) | (refine condF rfl rfl ?_; refine go T_ok 200 rfl ?_))
            rw [f3]
            exact round ⟨z + 1, rfl, ⟨by omega, p3⟩, by omega⟩
          rw [decide_eq_true hwx]
          refine go T_ok 200 rfl ?_
          repeat (first | (refine ldA T_ok rfl rfl rfl rfl rfl (Bk.all B1) ?_; refine go T_ok 200 rfl ?_) | (refine ldA T_ok rfl rfl rfl rfl rfl (Bk.all B2) ?_; refine go T_ok 200 rfl ?_) | (refine ld T_ok rfl rfl rfl rfl (Bk.get B1 rfl) ?_; refine go T_ok 200 rfl ?_) | (refine ld T_ok rfl rfl rfl rfl (Bk.get B2 rfl) ?_; refine go T_ok 200 rfl ?_) | (refine guardA (b := true) rfl rfl rfl rfl (fun _ => ?_) (fun e => by cases e); refine go T_ok 200 rfl ?_) | (refine guardA (b := false) rfl rfl rfl rfl (fun e => by cases e) (fun _ => ?_); refine go T_ok 200 rfl ?_) | (refine condT rfl rfl ?_; refine go T_ok 200 rfl ?_) | (refine condF rfl rfl ?_; refine go T_ok 200 rfl ?_))
          refine call rfl rfl rfl (ok _ (by decide) rfl) (within_any (tk r) r.y r.dy at_ v.sz (y : Int) _ t0 t1 (by omega) (by omega) (by omega) (by omega) (by omega) (by omega) (by omega) (by omega) (by omega) (by omega)) ?_
          rintro x' w' ⟨rfl, rfl⟩
          by_cases hwy : wtn (tk r) v.sz r.y r.dy at_ (y : Int)
          case neg =>
            rw [decide_eq_false hwy]
            refine go T_ok 200 rfl ?_
            repeat (first | (refine guardA (b := true) rfl rfl rfl rfl (fun _ => ?_) (fun e => by cases e); refine go T_ok 200 rfl ?_) | (refine guardA (b := false) rfl rfl rfl rfl (fun e => by cases e) (fun _ => ?_); refine go T_ok 200 rfl ?_) | (refine condT rfl rfl ?_; refine go T_ok 200 rfl ?_) | (refine condF rfl rfl ?_; refine go T_ok 200 rfl ?_))
            rw [f3]
            exact round ⟨z + 1, rfl, ⟨by omega, p3⟩, by omega⟩
          rw [decide_eq_true hwy]
          refine go T_ok 200 rfl ?_
          repeat (first | (refine ldA T_ok rfl rfl rfl rfl rfl (Bk.all B1) ?_; refine go T_ok 200 rfl ?_) | (refine ldA T_ok rfl rfl rfl rfl rfl (Bk.all B2) ?_; refine go T_ok 200 rfl ?_) | (refine ld T_ok rfl rfl rfl rfl (Bk.get B1 rfl) ?_; refine go T_ok 200 rfl ?_) | (refine ld T_ok rfl rfl rfl rfl (Bk.get B2 rfl) ?_; refine go T_ok 200 rfl ?_) | (refine guardA (b := true) rfl rfl rfl rfl (fun _ => ?_) (fun e => by cases e); refine go T_ok 200 rfl ?_) | (refine guardA (b := false) rfl rfl rfl rfl (fun e => by cases e) (fun _ => ?_); refine go T_ok 200 rfl ?_) | (refine condT rfl rfl ?_; refine go T_ok 200 rfl ?_) | (refine condF rfl rfl ?_; refine go T_ok 200 rfl ?_))
          refine call rfl rfl rfl (ok _ (by decide) rfl) (within_any (tk r) r.z r.dz at_ v.sz (z : Int) _ t0 t1 (by omega) (by omega) (by omega) (by omega) (by omega) (by omega) (by omega) (by omega) (by omega) (by omega)) ?_
          rintro x' w' ⟨rfl, rfl⟩
          by_cases hwz : wtn (tk r) v.sz r.z r.dz at_ (z : Int)
          case neg =>
            rw [decide_eq_false hwz]
            refine go T_ok 200 rfl ?_
            repeat (first | (refine guardA (b := true) rfl rfl rfl rfl (fun _ => ?_) (fun e => by cases e); refine go T_ok 200 rfl ?_) | (refine guardA (b := false) rfl rfl rfl rfl (fun e => by cases e) (fun _ => ?_); refine go T_ok 200 rfl ?_) | (refine condT rfl rfl ?_; refine go T_ok 200 rfl ?_) | (refine condF rfl rfl ?_; refine go T_ok 200 rfl ?_))
            rw [f3]
            exact round ⟨z + 1, rfl, ⟨by omega, p3⟩, by omega⟩
          exfalso
          have : 0 ≤ ceM v r (2 * at_ + 1) := (cel_in hv).2 ⟨wtn_in t0 (by omega) (by omega) hxl hwx, wtn_in t0 (by omega) (by omega) hyl hwy, wtn_in t0 (by omega) (by omega) hzl hwz⟩
          omega
        · refine go T_ok 200 rfl ?_
          rw [f2]
          exact round ⟨y + 1, rfl, ⟨by omega, p2⟩, by omega⟩
      · refine go T_ok 200 rfl ?_
        rw [f1]
        exact round ⟨x + 1, rfl, ⟨by omega, p1⟩, by omega⟩
    · refine go T_ok 200 rfl ?_
      refine call rfl rfl rfl (ok _ (by decide) rfl) (known_any _) ?_
      rintro v wk ⟨rfl, qk⟩
      refine go T_ok 200 rfl ?_
      exact ret (ret1 (v := .bool true) Try.results10 rfl ⟨rfl, q.trans qk⟩)
  · have htc := hce.1 (by omega)
    have hc0 : 0 ≤ ceM v r (2 * at_ + 1) := by omega
    have hsp := cel_split hv (show 0 ≤ cel v r 0 (2 * at_ + 1) from hc0)
    have hin := (cel_in hv).1 (show 0 ≤ cel v r 0 (2 * at_ + 1) from hc0)
    have wx := wtn_of (d := r.dx) t0 (by omega) hin.1
    have wy := wtn_of (d := r.dy) t0 (by omega) hin.2.1
    have wz := wtn_of (d := r.dz) t0 (by omega) hin.2.2
    have htd : told = cel v r 0 (2 * at_ + 1) := htc
    rw [← htd] at hsp
    rw [← hsp.2.2.2.1] at wx
    rw [← hsp.2.2.2.2.1] at wy
    rw [← hsp.2.2.2.2.2] at wz
    obtain ⟨hb1, hb2, hb3, hq1, hq2, hq3⟩ := hsp
    rw [← hq1] at hb1
    rw [← hq2] at hb2
    rw [← hq3] at hb3
    have htl : told ≤ 600 := by
      have := cel_bd hv (show 0 ≤ cel v r 0 (2 * at_ + 1) from hc0)
      rw [← htd] at this
      omega
    have hqx : told / v.nx ≤ told := Int.ediv_le_self v.nx (by omega)
    have h00 : 0 ≤ told / v.nx := Int.ediv_nonneg (by omega) (by omega)
    refine go T_ok 200 rfl ?_
    refine draw mixed (fun w' => Chg No w w') ([0,1,2,3,4,5,6,7,8,9,10,11].map (fun i => (i, true)) ++ [(12, false)] ++ [13,14,15,16,17,18,19,20,21,22,23,24,25,26,27,28].map (fun i => (i, true)) ++ [(29, false)] ++ [30,31,32,33,34,35,36,37,38,39,40,41,42,43,44,45,46].map (fun i => (i, true)) ++ [(47, false)] ++ [48,49].map (fun i => (i, true)) ++ [(50, false)] ++ [51,52].map (fun i => (i, true))) rfl (by kernel_rfl) (Chg.drew _) ?_
    refine goH T_ok 200 rfl ?_
    repeat (first | (refine quietH rfl (fun w' hS => r_load T_ok rfl rfl rfl (Bk.get (B1.no hS) rfl)) ?_; refine goH T_ok 200 rfl ?_) | (refine quietH rfl (fun w' hS => r_load T_ok rfl rfl rfl (Bk.get (B2.no hS) rfl)) ?_; refine goH T_ok 200 rfl ?_))
    refine quietH rfl (fun w' hS => by rw [r_rem rfl rfl rfl (by omega), Int.tmod_eq_emod_of_nonneg (by omega)]) ?_
    refine goH T_ok 200 rfl ?_
    refine callE rfl rfl rfl (ok _ (by decide) rfl) (within_any (tk r) r.x r.dx at_ v.sz (told % v.nx) _ t0 t1 (by omega) (by omega) (by omega) (by omega) (by omega) (by omega) (by omega) (by omega) (by omega) (by omega)) ?_
    rintro x' w' ⟨rfl, rfl⟩
    refine ⟨Chg.drew _, ?_⟩
    rw [decide_eq_true wx]
    refine goH T_ok 200 rfl ?_
    repeat (first | (refine guardHA (b := true) rfl rfl rfl rfl (fun _ => ?_) (fun h => by cases h); refine goH T_ok 200 rfl ?_) | (refine guardHA (b := false) rfl rfl rfl rfl (fun h => by cases h) (fun _ => ?_); refine goH T_ok 200 rfl ?_))
    refine goH T_ok 200 rfl ?_
    repeat (first | (refine quietH rfl (fun w' hS => r_load T_ok rfl rfl rfl (Bk.get (B1.no hS) rfl)) ?_; refine goH T_ok 200 rfl ?_) | (refine quietH rfl (fun w' hS => r_load T_ok rfl rfl rfl (Bk.get (B2.no hS) rfl)) ?_; refine goH T_ok 200 rfl ?_))
    refine quietH rfl (fun w' hS => r_quoN rfl rfl rfl (by omega) (by omega) (by omega)) ?_
    refine goH T_ok 200 rfl ?_
    repeat (first | (refine quietH rfl (fun w' hS => r_load T_ok rfl rfl rfl (Bk.get (B1.no hS) rfl)) ?_; refine goH T_ok 200 rfl ?_) | (refine quietH rfl (fun w' hS => r_load T_ok rfl rfl rfl (Bk.get (B2.no hS) rfl)) ?_; refine goH T_ok 200 rfl ?_))
    refine quietH rfl (fun w' hS => by rw [r_rem rfl rfl rfl (by omega), Int.tmod_eq_emod_of_nonneg h00]) ?_
    refine goH T_ok 200 rfl ?_
    refine callE rfl rfl rfl (ok _ (by decide) rfl) (within_any (tk r) r.y r.dy at_ v.sz (told / v.nx % v.ny) _ t0 t1 (by omega) (by omega) (by omega) (by omega) (by omega) (by omega) (by omega) (by omega) (by omega) (by omega)) ?_
    rintro x' w' ⟨rfl, rfl⟩
    refine ⟨Chg.drew _, ?_⟩
    rw [decide_eq_true wy]
    refine goH T_ok 200 rfl ?_
    repeat (first | (refine guardHA (b := true) rfl rfl rfl rfl (fun _ => ?_) (fun h => by cases h); refine goH T_ok 200 rfl ?_) | (refine guardHA (b := false) rfl rfl rfl rfl (fun h => by cases h) (fun _ => ?_); refine goH T_ok 200 rfl ?_))
    refine goH T_ok 200 rfl ?_
    repeat (first | (refine quietH rfl (fun w' hS => r_load T_ok rfl rfl rfl (Bk.get (B1.no hS) rfl)) ?_; refine goH T_ok 200 rfl ?_) | (refine quietH rfl (fun w' hS => r_load T_ok rfl rfl rfl (Bk.get (B2.no hS) rfl)) ?_; refine goH T_ok 200 rfl ?_))
    refine quietH rfl (fun w' hS => r_quoN rfl rfl rfl (by omega) (by omega) (by omega)) ?_
    refine goH T_ok 200 rfl ?_
    repeat (first | (refine quietH rfl (fun w' hS => r_load T_ok rfl rfl rfl (Bk.get (B1.no hS) rfl)) ?_; refine goH T_ok 200 rfl ?_) | (refine quietH rfl (fun w' hS => r_load T_ok rfl rfl rfl (Bk.get (B2.no hS) rfl)) ?_; refine goH T_ok 200 rfl ?_))
    refine quietH rfl (fun w' hS => r_quoN rfl rfl rfl h00 (by omega) (by omega)) ?_
    refine goH T_ok 200 rfl ?_
    refine callE rfl rfl rfl (ok _ (by decide) rfl) (within_any (tk r) r.z r.dz at_ v.sz (told / v.nx / v.ny) _ t0 t1 (by omega) (by omega) (by omega) (by omega) (by omega) (by omega) (by omega) (by omega) (by omega) (by omega)) ?_
    rintro x' w' ⟨rfl, rfl⟩
    refine ⟨Chg.drew _, ?_⟩
    rw [decide_eq_true wz]
    refine goH T_ok 200 rfl ?_
    repeat (first | (refine guardHA (b := true) rfl rfl rfl rfl (fun _ => ?_) (fun h => by cases h); refine goH T_ok 200 rfl ?_) | (refine guardHA (b := false) rfl rfl rfl rfl (fun h => by cases h) (fun _ => ?_); refine goH T_ok 200 rfl ?_))
    refine callE rfl rfl rfl (ok _ (by decide) rfl) (known_any _) ?_
    rintro x w3 ⟨rfl, q3'⟩
    have qd := (Chg.drew w).trans q3'
    refine ⟨qd, ?_⟩
    refine goH T_ok 200 rfl ?_
    repeat (first | (refine guardHA (b := true) rfl rfl rfl rfl (fun _ => ?_) (fun h => by cases h); refine goH T_ok 200 rfl ?_) | (refine guardHA (b := false) rfl rfl rfl rfl (fun h => by cases h) (fun _ => ?_); refine goH T_ok 200 rfl ?_))
    refine endH ?_
    refine go T_ok 200 rfl ?_
    exact ret (ret1 (v := .bool true) Try.results10 rfl ⟨rfl, q.trans qd⟩)
end Go.Proofs.Ytkkjfjeniaiaiaa
