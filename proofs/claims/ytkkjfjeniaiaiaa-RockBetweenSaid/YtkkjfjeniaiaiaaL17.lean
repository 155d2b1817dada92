/- The walk of RockBetween. -/
import Derived.Test.YtkkjfjeniaiaiaaL3
import Derived.Test.YtkkjfjeniaiaiaaCH
namespace Go.Proofs.Ytkkjfjeniaiaiaa
open Go.Ev Go.Proofs Go.Rock
attribute [local irreducible] At AtH
theorem cutB_bd {v : Vo} {r : Ra} {a u : Int} (hv : VoOk v) (hr : RaOk r) : ∀ p ∈ cutS (btw a u) (pcs v r), -9223372036854775808 ≤ p.u - p.a ∧ p.u - p.a ≤ 9223372036854775807 := fun p hp => by
  have h := (mem_cut hv hr (shr_btw a u) hp).1
  unfold PcR at h
  omega
set_option maxRecDepth 20000 in
set_option maxHeartbeats 8000000 in
theorem walk_RockBetween (v : Vo) (r : Ra) (a u : Int) (l : Sli Ra) (w0 : World) (_hv : VoI v) (_hr : RaI r) (_ha : I64 a) (_hu : I64 u) (hl : InR w0 l) :
    Ret Try.prog 17 [.agg (vL v).toArray, .agg (rL r).toArray, .int .i64 a, .int .i64 u, .slice l.A l.l.length l.c] w0 fun x w' => x = .bool true ∧ Chg No w0 w' := by
  refine enter Try.func17 rfl Try.ntmps17 rfl ?_
  refine go T_ok 200 rfl ?_
  refine bx rfl rfl rfl (cs := vL v) rfl ?_
  intro g1 u1 hg1 hs1 q1 B1
  refine go T_ok 200 rfl ?_
  refine bx rfl rfl rfl (cs := rL r) rfl ?_
  intro g2 u2 hg2 hs2 q2 B2
  have B1 := B1.no q2
  have q := q1.trans q2
  have Sr := hl.2.2.1.no q
  refine go T_ok 2 rfl ?_
  refine join [2, 3, 4, 5, 6] (fun _ : Unit => [.int .i64 a, .int .i64 u, .slice l.A l.l.length l.c, .pointer (some ⟨g1, 0, none⟩), .pointer (some ⟨g2, 0, none⟩)])
    (fun _ w' => w' = u2 ∧ (l.l.length ≤ 30 ∨ (200 < l.l.length ∧ l.l.length ≤ 300))) (fun _ => rfl) ?_ ?_
  · refine go T_ok 200 rfl ?_
    refine guardD rfl rfl rfl (fun h30 => ?_) (fun h30 => ?_)
    · refine go T_ok 200 rfl ?_
      refine guardD rfl rfl rfl (fun h5 => ?_) (fun h5 => ?_)
      · refine go T_ok 200 rfl ?_
        repeat (first | (refine guardA (b := true) rfl rfl rfl rfl (fun _ => ?_) (fun e => by cases e); refine go T_ok 200 rfl ?_) | (refine guardA (b := false) rfl rfl rfl rfl (fun e => by cases e) (fun _ => ?_); refine go T_ok 200 rfl ?_) | (refine condT rfl rfl ?_; refine go T_ok 200 rfl ?_) | (refine condF rfl rfl ?_; refine go T_ok 200 rfl ?_))
        refine call rfl rfl rfl (ok _ (by decide) rfl) (known_any _) ?_
        rintro v wk ⟨rfl, qk⟩
        refine go T_ok 200 rfl ?_
        exact ret (ret1 (v := .bool true) Try.results17 rfl ⟨rfl, q.trans qk⟩)
      · refine go T_ok 200 rfl ?_
        refine condD rfl (fun h8 => ?_) (fun h8 => ?_)
        · refine go T_ok 200 rfl ?_
          refine call rfl rfl rfl (ok _ (by decide) rfl) (known_any _) ?_
          rintro v wk ⟨rfl, qk⟩
          refine go T_ok 200 rfl ?_
          exact ret (ret1 (v := .bool true) Try.results17 rfl ⟨rfl, q.trans qk⟩)
        · refine go T_ok 200 rfl ?_
          exact round ⟨(), rfl, rfl, by omega⟩
    · refine go T_ok 200 rfl ?_
      repeat (first | (refine guardA (b := true) rfl rfl rfl rfl (fun _ => ?_) (fun e => by cases e); refine go T_ok 200 rfl ?_) | (refine guardA (b := false) rfl rfl rfl rfl (fun e => by cases e) (fun _ => ?_); refine go T_ok 200 rfl ?_) | (refine condT rfl rfl ?_; refine go T_ok 200 rfl ?_) | (refine condF rfl rfl ?_; refine go T_ok 200 rfl ?_))
      refine condD rfl (fun h8 => ?_) (fun h8 => ?_)
      · refine go T_ok 200 rfl ?_
        refine call rfl rfl rfl (ok _ (by decide) rfl) (known_any _) ?_
        rintro v wk ⟨rfl, qk⟩
        refine go T_ok 200 rfl ?_
        exact ret (ret1 (v := .bool true) Try.results17 rfl ⟨rfl, q.trans qk⟩)
      · refine go T_ok 200 rfl ?_
        exact round ⟨(), rfl, rfl, by omega⟩
  rintro ⟨⟩ τ w ⟨rfl, hlen⟩
  refine go T_ok 200 rfl ?_
  repeat (first | (refine ldA T_ok rfl rfl rfl rfl rfl (Bk.all B1) ?_; refine go T_ok 200 rfl ?_) | (refine ldA T_ok rfl rfl rfl rfl rfl (Bk.all B2) ?_; refine go T_ok 200 rfl ?_) | (refine ld T_ok rfl rfl rfl rfl (Bk.get B1 rfl) ?_; refine go T_ok 200 rfl ?_) | (refine ld T_ok rfl rfl rfl rfl (Bk.get B2 rfl) ?_; refine go T_ok 200 rfl ?_) | (refine guardA (b := true) rfl rfl rfl rfl (fun _ => ?_) (fun e => by cases e); refine go T_ok 200 rfl ?_) | (refine guardA (b := false) rfl rfl rfl rfl (fun e => by cases e) (fun _ => ?_); refine go T_ok 200 rfl ?_) | (refine condT rfl rfl ?_; refine go T_ok 200 rfl ?_) | (refine condF rfl rfl ?_; refine go T_ok 200 rfl ?_))
  refine call rfl rfl rfl (ok _ (by decide) rfl) (Between_any v r a u _) ?_
  rintro x w ⟨A1, c1, e1, l1, rfl, S1, qk, j1⟩
  have B1 := B1.no qk
  have B2 := B2.no qk
  have Sr := Sr.no qk
  have q := q.trans qk
  refine go T_ok 200 rfl ?_
  repeat (first | (refine ldA T_ok rfl rfl rfl rfl rfl (Bk.all B1) ?_; refine go T_ok 200 rfl ?_) | (refine ldA T_ok rfl rfl rfl rfl rfl (Bk.all B2) ?_; refine go T_ok 200 rfl ?_) | (refine ld T_ok rfl rfl rfl rfl (Bk.get B1 rfl) ?_; refine go T_ok 200 rfl ?_) | (refine ld T_ok rfl rfl rfl rfl (Bk.get B2 rfl) ?_; refine go T_ok 200 rfl ?_) | (refine guardA (b := true) rfl rfl rfl rfl (fun _ => ?_) (fun e => by cases e); refine go T_ok 200 rfl ?_) | (refine guardA (b := false) rfl rfl rfl rfl (fun e => by cases e) (fun _ => ?_); refine go T_ok 200 rfl ?_) | (refine condT rfl rfl ?_; refine go T_ok 200 rfl ?_) | (refine condF rfl rfl ?_; refine go T_ok 200 rfl ?_))
  refine call rfl rfl rfl (ok _ (by decide) rfl) (Seen_any v l.l l.A l.c _ _ Sr) ?_
  rintro x w ⟨A2, c2, e2, l2, rfl, S2, qk, j2⟩
  have B1 := B1.no qk
  have B2 := B2.no qk
  have Sr := Sr.no qk
  have S1 := S1.no qk
  have q := q.trans qk
  have p := Chg.refl No w
  refine go T_ok 6 rfl ?_
  refine join [4, 5, 13, 14] (fun _ : Unit => [.slice l.A l.l.length l.c, .pointer (some ⟨g1, 0, none⟩), .slice A2 l2.length c2, .int .i64 e2])
    (fun _ w' => Chg No w w') (fun _ => rfl) ?_ ?_
  · skip
    refine go T_ok 200 rfl ?_
    repeat (first | (refine ldA T_ok rfl rfl rfl rfl rfl (Bk.all B1) ?_; refine go T_ok 200 rfl ?_) | (refine ldA T_ok rfl rfl rfl rfl rfl (Bk.all B2) ?_; refine go T_ok 200 rfl ?_) | (refine ld T_ok rfl rfl rfl rfl (Bk.get B1 rfl) ?_; refine go T_ok 200 rfl ?_) | (refine ld T_ok rfl rfl rfl rfl (Bk.get B2 rfl) ?_; refine go T_ok 200 rfl ?_) | (refine guardA (b := true) rfl rfl rfl rfl (fun _ => ?_) (fun e => by cases e); refine go T_ok 200 rfl ?_) | (refine guardA (b := false) rfl rfl rfl rfl (fun e => by cases e) (fun _ => ?_); refine go T_ok 200 rfl ?_) | (refine condT rfl rfl ?_; refine go T_ok 200 rfl ?_) | (refine condF rfl rfl ?_; refine go T_ok 200 rfl ?_))
    refine call rfl rfl rfl (ok _ (by decide) rfl) (rVolume_any v _) ?_
    rintro x w ⟨rfl, qk⟩
    have B1 := B1.no qk
    have B2 := B2.no qk
    have Sr := Sr.no qk
    have S1 := S1.no qk
    have S2 := S2.no qk
    have p := p.no qk
    have q := q.trans qk
    by_cases hv : VoOk v
    case neg =>
      rw [decide_eq_false hv]
      have hB : btR v r a u = (2, []) := by unfold btR; rw [if_neg (fun h => hv h.1)]
      rw [hB] at j1
      cases j1
      refine go T_ok 200 rfl ?_
      repeat (first | (refine guardA (b := true) rfl rfl rfl rfl (fun _ => ?_) (fun e => by cases e); refine go T_ok 200 rfl ?_) | (refine guardA (b := false) rfl rfl rfl rfl (fun e => by cases e) (fun _ => ?_); refine go T_ok 200 rfl ?_) | (refine condT rfl rfl ?_; refine go T_ok 200 rfl ?_) | (refine condF rfl rfl ?_; refine go T_ok 200 rfl ?_))
      exact round ⟨(), rfl, p⟩
    rw [decide_eq_true hv]
    refine go T_ok 200 rfl ?_
    repeat (first | (refine ldA T_ok rfl rfl rfl rfl rfl (Bk.all B1) ?_; refine go T_ok 200 rfl ?_) | (refine ldA T_ok rfl rfl rfl rfl rfl (Bk.all B2) ?_; refine go T_ok 200 rfl ?_) | (refine ld T_ok rfl rfl rfl rfl (Bk.get B1 rfl) ?_; refine go T_ok 200 rfl ?_) | (refine ld T_ok rfl rfl rfl rfl (Bk.get B2 rfl) ?_; refine go T_ok 200 rfl ?_) | (refine guardA (b := true) rfl rfl rfl rfl (fun _ => ?_) (fun e => by cases e); refine go T_ok 200 rfl ?_) | (refine guardA (b := false) rfl rfl rfl rfl (fun e => by cases e) (fun _ => ?_); refine go T_ok 200 rfl ?_) | (refine condT rfl rfl ?_; refine go T_ok 200 rfl ?_) | (refine condF rfl rfl ?_; refine go T_ok 200 rfl ?_))
    refine call rfl rfl rfl (ok _ (by decide) rfl) (rRay_any r _) ?_
    rintro x w ⟨rfl, qk⟩
    have B1 := B1.no qk
    have B2 := B2.no qk
    have Sr := Sr.no qk
    have S1 := S1.no qk
    have S2 := S2.no qk
    have p := p.no qk
    have q := q.trans qk
    by_cases hr : RaOk r
    case neg =>
      rw [decide_eq_false hr]
      have hB : btR v r a u = (2, []) := by unfold btR; rw [if_neg (fun h => hr h.2.1)]
      rw [hB] at j1
      cases j1
      refine go T_ok 200 rfl ?_
      repeat (first | (refine guardA (b := true) rfl rfl rfl rfl (fun _ => ?_) (fun e => by cases e); refine go T_ok 200 rfl ?_) | (refine guardA (b := false) rfl rfl rfl rfl (fun e => by cases e) (fun _ => ?_); refine go T_ok 200 rfl ?_) | (refine condT rfl rfl ?_; refine go T_ok 200 rfl ?_) | (refine condF rfl rfl ?_; refine go T_ok 200 rfl ?_))
      exact round ⟨(), rfl, p⟩
    rw [decide_eq_true hr]
    refine go T_ok 200 rfl ?_
    repeat (first | (refine ldA T_ok rfl rfl rfl rfl rfl (Bk.all B1) ?_; refine go T_ok 200 rfl ?_) | (refine ldA T_ok rfl rfl rfl rfl rfl (Bk.all B2) ?_; refine go T_ok 200 rfl ?_) | (refine ld T_ok rfl rfl rfl rfl (Bk.get B1 rfl) ?_; refine go T_ok 200 rfl ?_) | (refine ld T_ok rfl rfl rfl rfl (Bk.get B2 rfl) ?_; refine go T_ok 200 rfl ?_) | (refine guardA (b := true) rfl rfl rfl rfl (fun _ => ?_) (fun e => by cases e); refine go T_ok 200 rfl ?_) | (refine guardA (b := false) rfl rfl rfl rfl (fun e => by cases e) (fun _ => ?_); refine go T_ok 200 rfl ?_) | (refine condT rfl rfl ?_; refine go T_ok 200 rfl ?_) | (refine condF rfl rfl ?_; refine go T_ok 200 rfl ?_))
    refine guardD rfl rfl rfl (fun h1 => ?_) (fun h1 => ?_)
    · skip
      have hB : btR v r a u = (2, []) := by unfold btR; rw [if_neg (fun h => (by have := h.2.2; omega))]
      rw [hB] at j1
      cases j1
      refine go T_ok 200 rfl ?_
      repeat (first | (refine guardA (b := true) rfl rfl rfl rfl (fun _ => ?_) (fun e => by cases e); refine go T_ok 200 rfl ?_) | (refine guardA (b := false) rfl rfl rfl rfl (fun e => by cases e) (fun _ => ?_); refine go T_ok 200 rfl ?_) | (refine condT rfl rfl ?_; refine go T_ok 200 rfl ?_) | (refine condF rfl rfl ?_; refine go T_ok 200 rfl ?_))
      exact round ⟨(), rfl, p⟩
    refine go T_ok 200 rfl ?_
    repeat (first | (refine ldA T_ok rfl rfl rfl rfl rfl (Bk.all B1) ?_; refine go T_ok 200 rfl ?_) | (refine ldA T_ok rfl rfl rfl rfl rfl (Bk.all B2) ?_; refine go T_ok 200 rfl ?_) | (refine ld T_ok rfl rfl rfl rfl (Bk.get B1 rfl) ?_; refine go T_ok 200 rfl ?_) | (refine ld T_ok rfl rfl rfl rfl (Bk.get B2 rfl) ?_; refine go T_ok 200 rfl ?_) | (refine guardA (b := true) rfl rfl rfl rfl (fun _ => ?_) (fun e => by cases e); refine go T_ok 200 rfl ?_) | (refine guardA (b := false) rfl rfl rfl rfl (fun e => by cases e) (fun _ => ?_); refine go T_ok 200 rfl ?_) | (refine condT rfl rfl ?_; refine go T_ok 200 rfl ?_) | (refine condF rfl rfl ?_; refine go T_ok 200 rfl ?_))
    refine guardD rfl rfl rfl (fun h2 => ?_) (fun h2 => ?_)
    · skip
      have hB : btR v r a u = (2, []) := by unfold btR; rw [if_neg (fun h => (by have := h.2.2; omega))]
      rw [hB] at j1
      cases j1
      refine go T_ok 200 rfl ?_
      repeat (first | (refine guardA (b := true) rfl rfl rfl rfl (fun _ => ?_) (fun e => by cases e); refine go T_ok 200 rfl ?_) | (refine guardA (b := false) rfl rfl rfl rfl (fun e => by cases e) (fun _ => ?_); refine go T_ok 200 rfl ?_) | (refine condT rfl rfl ?_; refine go T_ok 200 rfl ?_) | (refine condF rfl rfl ?_; refine go T_ok 200 rfl ?_))
      exact round ⟨(), rfl, p⟩
    refine go T_ok 200 rfl ?_
    repeat (first | (refine ldA T_ok rfl rfl rfl rfl rfl (Bk.all B1) ?_; refine go T_ok 200 rfl ?_) | (refine ldA T_ok rfl rfl rfl rfl rfl (Bk.all B2) ?_; refine go T_ok 200 rfl ?_) | (refine ld T_ok rfl rfl rfl rfl (Bk.get B1 rfl) ?_; refine go T_ok 200 rfl ?_) | (refine ld T_ok rfl rfl rfl rfl (Bk.get B2 rfl) ?_; refine go T_ok 200 rfl ?_) | (refine guardA (b := true) rfl rfl rfl rfl (fun _ => ?_) (fun e => by cases e); refine go T_ok 200 rfl ?_) | (refine guardA (b := false) rfl rfl rfl rfl (fun e => by cases e) (fun _ => ?_); refine go T_ok 200 rfl ?_) | (refine condT rfl rfl ?_; refine go T_ok 200 rfl ?_) | (refine condF rfl rfl ?_; refine go T_ok 200 rfl ?_))
    refine condD rfl (fun h3 => ?_) (fun h3 => ?_)
    · skip
      have hB : btR v r a u = (2, []) := by unfold btR; rw [if_neg (fun h => (by have := h.2.2; omega))]
      rw [hB] at j1
      cases j1
      refine go T_ok 200 rfl ?_
      repeat (first | (refine guardA (b := true) rfl rfl rfl rfl (fun _ => ?_) (fun e => by cases e); refine go T_ok 200 rfl ?_) | (refine guardA (b := false) rfl rfl rfl rfl (fun e => by cases e) (fun _ => ?_); refine go T_ok 200 rfl ?_) | (refine condT rfl rfl ?_; refine go T_ok 200 rfl ?_) | (refine condF rfl rfl ?_; refine go T_ok 200 rfl ?_))
      exact round ⟨(), rfl, p⟩
    have hB : btR v r a u = (0, chs (cutS (btw a u) (pcs v r))) := by unfold btR; rw [if_pos ⟨hv, hr, by omega, by omega, by omega⟩]
    rw [hB] at j1
    cases j1
    refine go T_ok 200 rfl ?_
    repeat (first | (refine ldA T_ok rfl rfl rfl rfl rfl (Bk.all B1) ?_; refine go T_ok 200 rfl ?_) | (refine ldA T_ok rfl rfl rfl rfl rfl (Bk.all B2) ?_; refine go T_ok 200 rfl ?_) | (refine ld T_ok rfl rfl rfl rfl (Bk.get B1 rfl) ?_; refine go T_ok 200 rfl ?_) | (refine ld T_ok rfl rfl rfl rfl (Bk.get B2 rfl) ?_; refine go T_ok 200 rfl ?_) | (refine guardA (b := true) rfl rfl rfl rfl (fun _ => ?_) (fun e => by cases e); refine go T_ok 200 rfl ?_) | (refine guardA (b := false) rfl rfl rfl rfl (fun e => by cases e) (fun _ => ?_); refine go T_ok 200 rfl ?_) | (refine condT rfl rfl ?_; refine go T_ok 200 rfl ?_) | (refine condF rfl rfl ?_; refine go T_ok 200 rfl ?_))
    refine call rfl rfl rfl (ok _ (by decide) rfl) (Pieces_any v r _ hv hr) ?_
    rintro x w ⟨A5, c5, rfl, o5, qk⟩
    have B1 := B1.no qk
    have B2 := B2.no qk
    have Sr := Sr.no qk
    have S1 := S1.no qk
    have S2 := S2.no qk
    have p := p.no qk
    have q := q.trans qk
    have S5 := own_sl o5
    refine go T_ok 200 rfl ?_
    repeat (first | (refine ldA T_ok rfl rfl rfl rfl rfl (Bk.all B1) ?_; refine go T_ok 200 rfl ?_) | (refine ldA T_ok rfl rfl rfl rfl rfl (Bk.all B2) ?_; refine go T_ok 200 rfl ?_) | (refine ld T_ok rfl rfl rfl rfl (Bk.get B1 rfl) ?_; refine go T_ok 200 rfl ?_) | (refine ld T_ok rfl rfl rfl rfl (Bk.get B2 rfl) ?_; refine go T_ok 200 rfl ?_) | (refine guardA (b := true) rfl rfl rfl rfl (fun _ => ?_) (fun e => by cases e); refine go T_ok 200 rfl ?_) | (refine guardA (b := false) rfl rfl rfl rfl (fun e => by cases e) (fun _ => ?_); refine go T_ok 200 rfl ?_) | (refine condT rfl rfl ?_; refine go T_ok 200 rfl ?_) | (refine condF rfl rfl ?_; refine go T_ok 200 rfl ?_))
    refine call rfl rfl rfl (ok _ (by decide) rfl) (Cut_any (pcs v r) a u A5 c5 _ _ (by have := pcs_len r hv; omega) S5) ?_
    rintro x w ⟨A6, c6, rfl, o6, qk⟩
    have B1 := B1.no qk
    have B2 := B2.no qk
    have Sr := Sr.no qk
    have S1 := S1.no qk
    have S2 := S2.no qk
    have S5 := S5.no qk
    have p := p.no qk
    have q := q.trans qk
    have S6 := own_sl o6
    refine go T_ok 200 rfl ?_
    refine call rfl rfl rfl (ok _ (by decide) rfl) (rChords_any _ A6 c6 _ _ (by have := cut_len r (btw a u) hv; omega) S6 (cutB_bd hv hr)) ?_
    rintro x w ⟨A7, c7, rfl, S7, qk⟩
    have B1 := B1.no qk
    have B2 := B2.no qk
    have Sr := Sr.no qk
    have S1 := S1.no qk
    have S2 := S2.no qk
    have S6 := S6.no qk
    have p := p.no qk
    have q := q.trans qk
    refine go T_ok 200 rfl ?_
    refine call rfl rfl rfl (ok _ (by decide) rfl) (SameChords_any _ _ _ _ _ _ _ _ _ (cut_len63 r _ hv) S1 S7) ?_
    rintro x w ⟨rfl, qk⟩
    have B1 := B1.no qk
    have B2 := B2.no qk
    have Sr := Sr.no qk
    have S1 := S1.no qk
    have S2 := S2.no qk
    have S7 := S7.no qk
    have p := p.no qk
    have q := q.trans qk
    rw [decide_eq_true rfl]
    refine go T_ok 200 rfl ?_
    repeat (first | (refine guardA (b := true) rfl rfl rfl rfl (fun _ => ?_) (fun e => by cases e); refine go T_ok 200 rfl ?_) | (refine guardA (b := false) rfl rfl rfl rfl (fun e => by cases e) (fun _ => ?_); refine go T_ok 200 rfl ?_) | (refine condT rfl rfl ?_; refine go T_ok 200 rfl ?_) | (refine condF rfl rfl ?_; refine go T_ok 200 rfl ?_))
    exact round ⟨(), rfl, p⟩
  rintro ⟨⟩ τ w qk
  have B1 := B1.no qk
  have Sr := Sr.no qk
  have S2 := S2.no qk
  have q := q.trans qk
  refine go T_ok 200 rfl ?_
  by_cases h200 : 200 < l.l.length
  · have hS : snR v l.l = ([], 3) := by unfold snR; rw [if_pos h200]
    rw [hS] at j2
    cases j2
    refine condT rfl (decide_eq_true (by omega)) ?_
    refine go T_ok 200 rfl ?_
    repeat (first | (refine guardA (b := true) rfl rfl rfl rfl (fun _ => ?_) (fun e => by cases e); refine go T_ok 200 rfl ?_) | (refine guardA (b := false) rfl rfl rfl rfl (fun e => by cases e) (fun _ => ?_); refine go T_ok 200 rfl ?_) | (refine condT rfl rfl ?_; refine go T_ok 200 rfl ?_) | (refine condF rfl rfl ?_; refine go T_ok 200 rfl ?_))
    refine call rfl rfl rfl (ok _ (by decide) rfl) (known_any _) ?_
    rintro v wk ⟨rfl, qk⟩
    refine go T_ok 200 rfl ?_
    exact ret (ret1 (v := .bool true) Try.results17 rfl ⟨rfl, q.trans qk⟩)
  have hl30 : l.l.length ≤ 30 := by omega
  refine condF rfl (decide_eq_false (by omega)) ?_
  refine go T_ok 200 rfl ?_
  repeat (first | (refine ldA T_ok rfl rfl rfl rfl rfl (Bk.all B1) ?_; refine go T_ok 200 rfl ?_) | (refine ld T_ok rfl rfl rfl rfl (Bk.get B1 rfl) ?_; refine go T_ok 200 rfl ?_) | (refine guardA (b := true) rfl rfl rfl rfl (fun _ => ?_) (fun e => by cases e); refine go T_ok 200 rfl ?_) | (refine guardA (b := false) rfl rfl rfl rfl (fun e => by cases e) (fun _ => ?_); refine go T_ok 200 rfl ?_) | (refine condT rfl rfl ?_; refine go T_ok 200 rfl ?_) | (refine condF rfl rfl ?_; refine go T_ok 200 rfl ?_))
  refine call rfl rfl rfl (ok _ (by decide) rfl) (rVolume_any v _) ?_
  rintro x w ⟨rfl, qk⟩
  have B1 := B1.no qk
  have Sr := Sr.no qk
  have S2 := S2.no qk
  have q := q.trans qk
  refine go T_ok 200 rfl ?_
  refine loop [4, 5, 13, 14, 15, 16] (fun y : Nat × Bool => [.slice l.A l.l.length l.c, .pointer (some ⟨g1, 0, none⟩), .slice A2 l2.length c2, .int .i64 e2, .bool y.2, .int .i64 (y.1 : Int)])
    (fun y w' => y.1 ≤ l.l.length ∧ Chg No w w' ∧ (y.2 = true ↔ (VoOk v ∧ ∀ r ∈ l.l.take y.1, RaOk r))) (fun y => l.l.length - y.1) (0, decide (VoOk v)) (fun _ => rfl) rfl ⟨by show 0 ≤ _; omega, Chg.refl _ _, by simp⟩ ?_
  rintro ⟨j, t⟩ τ w ⟨hj, qk, ht⟩
  simp only at hj ht
  have p := qk
  have B1 := B1.no qk
  have Sr := Sr.no qk
  have S2 := S2.no qk
  have q := q.trans qk
  refine go T_ok 200 rfl ?_
  refine condD rfl (fun hlt => ?_) (fun hlt => ?_)
  · have hj2 : j < l.l.length := by have := hlt; simp only at this; omega
    obtain ⟨x, hx⟩ : ∃ s, l.l[j]? = some s := ⟨_, List.getElem?_eq_getElem hj2⟩
    obtain ⟨b, o, hA, hb, hc⟩ := Sr.el rL_len hx
    have e3 : w64 ((j : Int) + 1) = ((j + 1 : Nat) : Int) := w64_id (by omega) (by omega)
    have hsn : (∀ r ∈ l.l.take (j + 1), RaOk r) ↔ (∀ r ∈ l.l.take j, RaOk r) ∧ RaOk x := by
      rw [take_snoc hx]
      constructor
      · intro h; exact ⟨fun r hr => h r (by simp [hr]), h x (by simp)⟩
      · rintro ⟨h1, h2⟩ r hr
        rcases List.mem_append.1 hr with hr | hr
        · exact h1 r hr
        · simp at hr; rw [hr]; exact h2
    rw [hA]
    cases t with
    | false =>
      refine go T_ok 200 rfl ?_
      repeat (first | (refine guardA (b := true) rfl rfl rfl rfl (fun _ => ?_) (fun e => by cases e); refine go T_ok 200 rfl ?_) | (refine guardA (b := false) rfl rfl rfl rfl (fun e => by cases e) (fun _ => ?_); refine go T_ok 200 rfl ?_) | (refine condT rfl rfl ?_; refine go T_ok 200 rfl ?_) | (refine condF rfl rfl ?_; refine go T_ok 200 rfl ?_))
      rw [e3]
      exact round ⟨(j + 1, false), by rw [← hA]; rfl, ⟨by show j + 1 ≤ _; omega, p, by rw [hsn]; exact ⟨fun h => Bool.noConfusion h, fun h => absurd (ht.2 ⟨h.1, h.2.1⟩) (by simp)⟩⟩, by show _ - (j + 1) < _ - j; omega⟩
    | true =>
      have hb := ht.1 rfl
      refine go T_ok 200 rfl ?_
      repeat (first | (refine guardA (b := true) rfl rfl rfl rfl (fun _ => ?_) (fun e => by cases e); refine go T_ok 200 rfl ?_) | (refine guardA (b := false) rfl rfl rfl rfl (fun e => by cases e) (fun _ => ?_); refine go T_ok 200 rfl ?_) | (refine condT rfl rfl ?_; refine go T_ok 200 rfl ?_) | (refine condF rfl rfl ?_; refine go T_ok 200 rfl ?_))
      refine idx T_ok rfl rfl rfl rfl rfl j rfl hj2 ?_
      refine go T_ok 200 rfl ?_
      refine ldA T_ok rfl rfl rfl rfl rfl hc ?_
      refine go T_ok 200 rfl ?_
      refine call rfl rfl rfl (ok _ (by decide) rfl) (rRay_any x _) ?_
      rintro x w ⟨rfl, qk⟩
      have B1 := B1.no qk
      have Sr := Sr.no qk
      have S2 := S2.no qk
      have p := p.no qk
      have q := q.trans qk
      refine go T_ok 200 rfl ?_
      rw [e3]
      exact round ⟨(j + 1, decide (RaOk x)), by rw [← hA]; rfl, ⟨by show j + 1 ≤ _; omega, p, by rw [hsn, decide_eq_true_iff]; exact ⟨fun h => ⟨hb.1, hb.2, h⟩, fun h => h.2.2⟩⟩, by show _ - (j + 1) < _ - j; omega⟩
  have hjl : j = l.l.length := by omega
  rw [hjl, List.take_length] at ht
  cases t with
  | false =>
    have hS : snR v l.l = ([], 2) := by unfold snR; rw [if_neg h200, if_neg (fun h : SnOk v l.l => absurd (ht.2 h) (by simp))]
    rw [hS] at j2
    cases j2
    refine go T_ok 200 rfl ?_
    repeat (first | (refine guardA (b := true) rfl rfl rfl rfl (fun _ => ?_) (fun e => by cases e); refine go T_ok 200 rfl ?_) | (refine guardA (b := false) rfl rfl rfl rfl (fun e => by cases e) (fun _ => ?_); refine go T_ok 200 rfl ?_) | (refine condT rfl rfl ?_; refine go T_ok 200 rfl ?_) | (refine condF rfl rfl ?_; refine go T_ok 200 rfl ?_))
    refine call rfl rfl rfl (ok _ (by decide) rfl) (known_any _) ?_
    rintro v wk ⟨rfl, qk⟩
    refine go T_ok 200 rfl ?_
    exact ret (ret1 (v := .bool true) Try.results17 rfl ⟨rfl, q.trans qk⟩)
  | true =>
    obtain ⟨hv, hra⟩ := ht.1 rfl
    have hS : snR v l.l = (seenL v l.l, 0) := by unfold snR; rw [if_neg h200, if_pos (show SnOk v l.l from ⟨hv, hra⟩)]
    rw [hS] at j2
    cases j2
    have m2 := vo_xyz hv
    have e2 : v.nx * v.ny * v.nz = ((nsn v : Nat) : Int) := by unfold nsn; omega
    have hn : nsn v ≤ 600 := by unfold nsn; omega
    have hsl : (seenL v l.l).length = nsn v := by simp [seenL]
    clear p
    refine go T_ok 200 rfl ?_
    repeat (first | (refine ldA T_ok rfl rfl rfl rfl rfl (Bk.all B1) ?_; refine go T_ok 200 rfl ?_) | (refine ld T_ok rfl rfl rfl rfl (Bk.get B1 rfl) ?_; refine go T_ok 200 rfl ?_) | (refine guardA (b := true) rfl rfl rfl rfl (fun _ => ?_) (fun e => by cases e); refine go T_ok 200 rfl ?_) | (refine guardA (b := false) rfl rfl rfl rfl (fun e => by cases e) (fun _ => ?_); refine go T_ok 200 rfl ?_) | (refine condT rfl rfl ?_; refine go T_ok 200 rfl ?_) | (refine condF rfl rfl ?_; refine go T_ok 200 rfl ?_))
    refine call rfl rfl rfl (ok _ (by decide) rfl) (Cells_any v _ hv) ?_
    rintro x w ⟨rfl, qk⟩
    have B1 := B1.no qk
    have Sr := Sr.no qk
    have S2 := S2.no qk
    have q := q.trans qk
    rw [e2]
    refine go T_ok 200 rfl ?_
    have y1 := B1.lt
    have yq := q.size
    have y2 := S2.2.1
    refine mk1 T_ok rfl rfl rfl rfl rfl (nsn v) rfl (z := I 0) (by kernel_rfl) rfl (by unfold maxLen; omega) (by omega) ?_
    intro g w hg hs1 qk R1
    have B1 := B1.no qk
    have Sr := Sr.no qk
    have S2 := S2.no qk
    have q := q.trans qk
    have hge : w0.heap.size ≤ g := by omega
    have hB1 : g1 ≠ g := by omega
    refine go T_ok 200 rfl ?_
    refine loop [4, 5, 13, 14, 17, 18] (fun j : Nat => [.slice l.A l.l.length l.c, .pointer (some ⟨g1, 0, none⟩), .slice A2 (seenL v l.l).length c2, .int .i64 0, .slice (some ⟨g, 0, none⟩) (nsn v) (nsn v), .int .i64 (j : Int)])
      (fun j w' => j ≤ l.l.length ∧ Chg (fun k => k = g) w w' ∧ ∃ f, w'.rowIs g 3 (nsn v) f ∧ ∀ i, i < nsn v → f i = .int .i64 ((csA v (l.l.take j)).count (i : Int) : Int)) (fun j => l.l.length - j) 0 (fun _ => rfl) rfl ⟨by omega, Chg.refl _ _, _, R1, fun j hj => by simp [csA]⟩ ?_
    rintro j τ w ⟨hj, p, f, R2, hf⟩
    have B1 := B1.keep p hB1
    have Sr := Sr.keep p (fun k hk e => by omega)
    have S2 := S2.keep p (fun k hk e => by omega)
    have q := q.step p (fun k hk e => by omega)
    refine go T_ok 200 rfl ?_
    refine condD rfl (fun hlt => ?_) (fun hlt => ?_)
    · have hlt : j < l.l.length := by omega
      obtain ⟨r', hr'⟩ : ∃ s, l.l[j]? = some s := ⟨_, List.getElem?_eq_getElem hlt⟩
      have hrr := hra r' (List.mem_of_getElem? hr')
      obtain ⟨b, o, hA, hb, hc⟩ := Sr.el rL_len hr'
      have hlb : b < w.heap.size := Nat.lt_of_lt_of_le hb Sr.2.1
      have e3 : w64 ((j : Int) + 1) = ((j + 1 : Nat) : Int) := w64_id (by omega) (by omega)
      have hgw : g < w.heap.size := R2.lt
      rw [hA]
      refine go T_ok 200 rfl ?_
      refine draw mixed (fun w' => Chg No w w') ([0,1,2,3,4].map (fun i => (i, true)) ++ [(5, false)] ++ [6].map (fun i => (i, true))) rfl (by kernel_rfl) (Chg.drew _) ?_
      refine goH T_ok 200 rfl ?_
      refine quietH rfl (fun w' hS => r_loadA T_ok rfl rfl rfl rfl (B1.no hS).all) ?_
      refine goH T_ok 200 rfl ?_
      refine quietH rfl (fun w' hS => r_idx T_ok rfl rfl rfl rfl j rfl hlt) ?_
      refine goH T_ok 200 rfl ?_
      refine quietH rfl (fun w' hS => r_loadA T_ok rfl rfl rfl rfl (hc.keep hlb hS (fun h => h))) ?_
      refine goH T_ok 200 rfl ?_
      refine callE rfl rfl rfl (ok _ (by decide) rfl) (Pieces_any v r' _ hv hrr) ?_
      rintro x w11 ⟨A11, c11, rfl, o11, q11⟩
      have qk := (Chg.drew w).trans q11
      refine ⟨qk, ?_⟩
      refine goH T_ok 200 rfl ?_
      refine endH ?_
      have hg10 : g < w.drew.heap.size := by have := (Chg.drew w).size; omega
      generalize w.drew = w10 at o11 q11 hg10
      have S11 := own_slN o11
      have R2 := rowIs_no R2 qk
      have B1 := B1.no qk
      have Sr := Sr.no qk
      have S2 := S2.no qk
      have p := p.no qk
      have q := q.trans qk
      have hpl := pcs_len r' hv
      have hcl := csA_len hv (l.l.take j)
      have hlt2 : (l.l.take j).length ≤ 200 := by rw [List.length_take]; omega
      have hsn : csA v (l.l.take (j + 1)) = csA v (l.l.take j) ++ (pcs v r').map (·.c) := by rw [take_snoc hr', csA_snoc]
      have hmem : ∀ p ∈ pcs v r', 0 ≤ p.c ∧ p.c < v.nx * v.ny * v.nz := fun p hp => by have := mem_pcs hv hp; omega
      generalize csA v (l.l.take j) = C0 at *
      generalize pcs v r' = L at *
      refine go T_ok 200 rfl ?_
      refine loop [4, 5, 13, 14, 17, 18, 19, 20] (fun k : Nat => [.slice (some ⟨b, o, none⟩) l.l.length l.c, .pointer (some ⟨g1, 0, none⟩), .slice A2 (seenL v l.l).length c2, .int .i64 0, .slice (some ⟨g, 0, none⟩) (nsn v) (nsn v), .int .i64 (j : Int), .slice A11 L.length c11, .int .i64 (k : Int)])
        (fun k w' => k ≤ L.length ∧ Chg (fun k => k = g) w11 w' ∧ ∃ f, w'.rowIs g 3 (nsn v) f ∧ ∀ i, i < nsn v → f i = .int .i64 ((C0 ++ (L.map (·.c)).take k).count (i : Int) : Int)) (fun k => L.length - k) 0 (fun _ => rfl) rfl ⟨by omega, Chg.refl _ _, _, R2, fun i hi => by simpa using hf i hi⟩ ?_
      rintro k τ w ⟨hk, p2, f', R3, hf'⟩
      refine go T_ok 200 rfl ?_
      refine condD rfl (fun hlt3 => ?_) (fun hlt3 => ?_)
      · have hlt3 : k < L.length := by omega
        obtain ⟨z, hz⟩ : ∃ s, L[k]? = some s := ⟨_, List.getElem?_eq_getElem hlt3⟩
        have hz0 := hmem z (List.mem_of_getElem? hz)
        have S12 := own_slN (own_keep o11 p2 (fun k e e2 => by have := own_ge o11 e; omega))
        obtain ⟨b2, o2, hA2, hb2, hc2⟩ := S12.el pL_len hz
        have hzn : z.c.toNat < nsn v := by unfold nsn; omega
        have e5 : w64 ((k : Int) + 1) = ((k + 1 : Nat) : Int) := w64_id (by omega) (by omega)
        have hcz := hf' _ hzn
        have hcnt : ((C0 ++ (L.map (·.c)).take k).count ((z.c.toNat : Nat) : Int)) ≤ 9000 := by
          refine Nat.le_trans (List.count_le_length ..) ?_
          rw [List.length_append, List.length_take, List.length_map]
          omega
        have e6 : w64 (((C0 ++ (L.map (·.c)).take k).count ((z.c.toNat : Nat) : Int) : Int) + 1) = ((C0 ++ (L.map (·.c)).take k).count ((z.c.toNat : Nat) : Int) : Int) + 1 := w64_id (by omega) (by omega)
        have hmz : (L.map (·.c))[k]? = some z.c := by rw [List.getElem?_map, hz]; rfl
        rw [hA2]
        refine go T_ok 200 rfl ?_
        refine idx T_ok rfl rfl rfl rfl rfl k rfl hlt3 ?_
        refine go T_ok 200 rfl ?_
        refine ld T_ok rfl rfl rfl rfl (hc2.get (i := 0) rfl) ?_
        refine go T_ok 200 rfl ?_
        refine idx T_ok rfl rfl rfl rfl rfl z.c.toNat (by omega) hzn ?_
        refine go T_ok 200 rfl ?_
        rw [show 0 + z.c.toNat * 1 = z.c.toNat by omega]
        have hcell := R3.cell (i := z.c.toNat) hzn
        rw [hcz] at hcell
        refine ld T_ok rfl rfl rfl rfl (hcell) ?_
        refine go T_ok 200 rfl ?_
        rw [e6]
        refine idx T_ok rfl rfl rfl rfl rfl z.c.toNat (by omega) hzn ?_
        refine go T_ok 200 rfl ?_
        rw [show 0 + z.c.toNat * 1 = z.c.toNat by omega]
        refine stR T_ok rfl rfl rfl rfl (v := .int .i64 (((C0 ++ (L.map (·.c)).take k).count ((z.c.toNat : Nat) : Int) : Int) + 1)) rfl rfl R3 hzn ?_
        intro w14 q14 R4 hs14
        refine go T_ok 200 rfl ?_
        rw [e5]
        refine round ⟨k + 1, by rw [← hA2]; rfl, ⟨by omega, p2.trans q14, _, R4, fun i hi => ?_⟩, by omega⟩
        rw [take_snoc hmz, ← List.append_assoc, count_snoc]
        by_cases e : i = z.c.toNat
        · subst e
          simp only [if_true]
          rw [if_pos (by omega)]
        · simp only [if_neg e]
          rw [hf' i hi, if_neg (by omega), Int.add_zero]
      · have hkl : k = L.length := by omega
        subst hkl
        refine go T_ok 200 rfl ?_
        rw [e3]
        refine round ⟨j + 1, by rw [← hA]; rfl, ⟨by omega, p.trans p2, f', R3, fun i hi => ?_⟩, by omega⟩
        rw [hf' i hi, hsn, List.take_of_length_le (by rw [List.length_map]; omega)]
    · have hjl : j = l.l.length := by omega
      rw [hjl, List.take_length] at hf
      have S3 := row_slI R2 hsl (fun j x hx => by
        have hj : j < nsn v := by have := (List.getElem?_eq_some_iff.1 hx).1; omega
        unfold seenL at hx
        rw [List.getElem?_map, List.getElem?_range hj] at hx
        rw [hf j hj]
        exact congrArg I (Option.some.inj hx))
      have hnm : (seenL v l.l).length ≤ maxLen := by rw [hsl]; unfold maxLen; omega
      generalize seenL v l.l = Ls at *
      rw [← hsl]
      refine go T_ok 200 rfl ?_
      repeat (first | (refine guardA (b := true) rfl rfl rfl rfl (fun _ => ?_) (fun e => by cases e); refine go T_ok 200 rfl ?_) | (refine guardA (b := false) rfl rfl rfl rfl (fun e => by cases e) (fun _ => ?_); refine go T_ok 200 rfl ?_) | (refine condT rfl rfl ?_; refine go T_ok 200 rfl ?_) | (refine condF rfl rfl ?_; refine go T_ok 200 rfl ?_))
      refine call rfl rfl rfl (ok _ (by decide) rfl) (Same_any Ls Ls _ _ _ _ _ _ _ hnm S2 S3) ?_
      rintro x w ⟨rfl, qk⟩
      have B1 := B1.no qk
      have Sr := Sr.no qk
      have S2 := S2.no qk
      have p := p.no qk
      have q := q.trans qk
      rw [decide_eq_true rfl]
      refine go T_ok 200 rfl ?_
      repeat (first | (refine guardA (b := true) rfl rfl rfl rfl (fun _ => ?_) (fun e => by cases e); refine go T_ok 200 rfl ?_) | (refine guardA (b := false) rfl rfl rfl rfl (fun e => by cases e) (fun _ => ?_); refine go T_ok 200 rfl ?_) | (refine condT rfl rfl ?_; refine go T_ok 200 rfl ?_) | (refine condF rfl rfl ?_; refine go T_ok 200 rfl ?_))
      refine call rfl rfl rfl (ok _ (by decide) rfl) (known_any _) ?_
      rintro v wk ⟨rfl, qk⟩
      refine go T_ok 200 rfl ?_
      exact ret (ret1 (v := .bool true) Try.results17 rfl ⟨rfl, q.trans qk⟩)
end Go.Proofs.Ytkkjfjeniaiaiaa
