/- The contracts of thresholds and rates above them. -/
import Derived.Test.YtolhfimknimliaaC2
namespace Go.Proofs.Ytolhfimknimliaa
open Go.Ev Go.Proofs Go.Top
attribute [local irreducible] At AtH
set_option maxRecDepth 20000 in
set_option maxHeartbeats 4000000 in
theorem thr_any (t : List Rw) (o : Int) (A : Option Addr) (c B : Nat) (w : World) (S1 : Sl w B 3 A t.length (t.flatMap rwL)) (hl : t.length ≤ 4000) (hk : ∀ r ∈ t, 0 ≤ r.k ∧ r.k ≤ 1000000) :
    Ret Try.prog 80 [.slice A t.length c, .int .i64 o] w fun x w' => x = .agg (spL (thr t o)).toArray ∧ Chg No w w' := by
  have hfl1 := fst_le (fun r => decide (o ≤ r.hi)) t
  have hfl2 := fst_le (fun r => decide (o ≤ r.lo)) t
  refine enter Try.func80 rfl Try.ntmps80 rfl ?_
  refine go T_ok 200 rfl ?_
  refine bx rfl rfl rfl (cs := [I o]) rfl ?_
  intro g1 u1 hg1 hs1 q1 B1
  have q := q1
  have S1 := S1.no q1
  refine go T_ok 200 rfl ?_
  refine nw rfl rfl (z := .agg #[I 0, I 0]) (by kernel_rfl) (cs := [I 0, I 0]) rfl ?_
  intro g2 w hg2 hs2 qk B2
  have B1 := B1.no qk
  have S1 := S1.no qk
  have q := q.trans qk
  have hg2w := q1.size
  refine go T_ok 200 rfl ?_
  have yB1 := B1.lt
  have yS1 := S1.2.1
  have yB2 := B2.lt
  have yq := q.size
  refine nw rfl rfl (z := .agg #[I 0, I 0]) (by kernel_rfl) (cs := [I 0, I 0]) rfl ?_
  intro g3 w hg3 hs3 qk B3
  have B1 := B1.no qk
  have S1 := S1.no qk
  have B2 := B2.no qk
  have q := q.trans qk
  refine go T_ok 200 rfl ?_
  refine stA T_ok rfl rfl rfl rfl (vs := spL (1, 1)) rfl rfl rfl B3 rfl ?_
  intro w qk B3 hz3
  have B3 : Bk w g3 24 (spL (1, 1)) := B3
  have B1 := Bk.keep B1 qk (by omega)
  have S1 := Sl.keep S1 qk (fun k hk e => by omega)
  have B2 := Bk.keep B2 qk (by omega)
  have q := q.step qk (fun k hk e => by omega)
  refine go T_ok 200 rfl ?_
  repeat (first | (refine ldA T_ok rfl rfl rfl rfl rfl (Bk.all B1) ?_; refine go T_ok 200 rfl ?_) | (refine ldA T_ok rfl rfl rfl rfl rfl (Bk.all B2) ?_; refine go T_ok 200 rfl ?_) | (refine ldA T_ok rfl rfl rfl rfl rfl (Bk.all B3) ?_; refine go T_ok 200 rfl ?_) | (refine ld T_ok rfl rfl rfl rfl (Bk.get B1 rfl) ?_; refine go T_ok 200 rfl ?_) | (refine ld T_ok rfl rfl rfl rfl (Bk.get B2 rfl) ?_; refine go T_ok 200 rfl ?_) | (refine ld T_ok rfl rfl rfl rfl (Bk.get B3 rfl) ?_; refine go T_ok 200 rfl ?_) | (refine guardA (b := true) rfl rfl rfl rfl (fun _ => ?_) (fun e => by cases e); refine go T_ok 200 rfl ?_) | (refine guardA (b := false) rfl rfl rfl rfl (fun e => by cases e) (fun _ => ?_); refine go T_ok 200 rfl ?_) | (refine condT rfl rfl ?_; refine go T_ok 200 rfl ?_) | (refine condF rfl rfl ?_; refine go T_ok 200 rfl ?_))
  refine condD rfl (fun h0 => ?_) (fun h0 => ?_)
  · refine go T_ok 200 rfl ?_
    refine ldA T_ok rfl rfl rfl rfl rfl B3.all ?_
    refine go T_ok 200 rfl ?_
    refine stA T_ok rfl rfl rfl rfl (vs := spL (1, 1)) rfl rfl rfl B2 rfl ?_
    intro w' q4 B4 hs4
    refine go T_ok 200 rfl ?_
    have B4 : Bk w' g2 24 (spL (1, 1)) := B4
    exact ret (retR1 Try.results80 (resA T_ok rfl rfl rfl B4.all) ⟨by unfold thr; rw [if_pos h0], q.step q4 (fun k hk e => by omega)⟩)
  have hthr : thr t o = ((if fst (fun r => decide (o ≤ r.hi)) t = 0 then 1 else ((t[fst (fun r => decide (o ≤ r.hi)) t - 1]?).map (·.k + 1)).getD 1), ((t[fst (fun r => decide (o ≤ r.lo)) t]?).map (·.k)).getD (-1)) := by
    unfold thr; rw [if_neg h0]
  rw [hthr]
  refine go T_ok 200 rfl ?_
  refine call rfl rfl rfl (ok _ (by decide) rfl) (fstR_any (fun r => decide (o ≤ r.hi)) t A c B _ _ S1 hl (prd111 (o := (o, 0)) B1)) ?_
  rintro x w ⟨rfl, qk⟩
  have B1 := B1.no qk
  have S1 := S1.no qk
  have B2 := B2.no qk
  have B3 := B3.no qk
  have q := q.trans qk
  generalize hlo : (if fst (fun r => decide (o ≤ r.hi)) t = 0 then 1 else ((t[fst (fun r => decide (o ≤ r.hi)) t - 1]?).map (·.k + 1)).getD 1 : Int) = lo
  generalize fst (fun r => decide (o ≤ r.hi)) t = i at hfl1 hlo ⊢
  refine go T_ok 200 rfl ?_
  refine condD rfl (fun hi => ?_) (fun hi => ?_)
  · obtain ⟨r, hr⟩ := get_of (l := t) (i := i - 1) (by omega)
    obtain ⟨b1, o1, hA1, hb1, hc1⟩ := S1.el rwL_len hr
    have hkr := hk r (List.mem_of_getElem? hr)
    rw [if_neg (by omega), hr] at hlo
    have hlo : r.k + 1 = lo := hlo
    have e1 : w64 ((i : Int) - 1) = ((i - 1 : Nat) : Int) := by rw [w64_id (by omega) (by omega)]; omega
    have e2 : w64 (r.k + 1) = lo := by rw [w64_id (by omega) (by omega)]; exact hlo
    refine go T_ok 200 rfl ?_
    rw [e1, hA1]
    refine idx T_ok rfl rfl rfl rfl rfl (i - 1) rfl (by omega) ?_
    refine go T_ok 200 rfl ?_
    refine ld T_ok rfl rfl rfl rfl (hc1.get (i := 0) rfl) ?_
    refine go T_ok 200 rfl ?_
    rw [← hA1, e2]
    refine st T_ok rfl rfl rfl rfl (v := I lo) rfl rfl B3 rfl ?_
    intro w qk B3 hz3
    have B3 : Bk w g3 24 (spL (lo, 1)) := B3
    have B1 := Bk.keep B1 qk (by omega)
    have S1 := Sl.keep S1 qk (fun k hk e => by omega)
    have B2 := Bk.keep B2 qk (by omega)
    have q := q.step qk (fun k hk e => by omega)
    refine go T_ok 200 rfl ?_
    refine st T_ok rfl rfl rfl rfl (v := I (-1)) rfl rfl B3 rfl ?_
    intro w qk B3 hz3
    have B3 : Bk w g3 24 (spL (lo, -1)) := B3
    have B1 := Bk.keep B1 qk (by omega)
    have S1 := Sl.keep S1 qk (fun k hk e => by omega)
    have B2 := Bk.keep B2 qk (by omega)
    have q := q.step qk (fun k hk e => by omega)
    refine go T_ok 200 rfl ?_
    refine call rfl rfl rfl (ok _ (by decide) rfl) (fstR_any (fun r => decide (o ≤ r.lo)) t A c B _ _ S1 hl (prd112 (o := (o, 0)) B1)) ?_
    rintro x w ⟨rfl, qk⟩
    have B1 := B1.no qk
    have S1 := S1.no qk
    have B2 := B2.no qk
    have B3 := B3.no qk
    have q := q.trans qk
    generalize fst (fun r => decide (o ≤ r.lo)) t = j at hfl2 ⊢
    refine go T_ok 200 rfl ?_
    refine condD rfl (fun hj => ?_) (fun hj => ?_)
    · have hj : j < t.length := by omega
      obtain ⟨r, hr⟩ := get_of hj
      obtain ⟨b1, o1, rfl, hb1, hc1⟩ := S1.el rwL_len hr
      rw [show ((t[j]?).map (·.k)).getD (-1) = r.k by rw [hr]; rfl]
      refine go T_ok 200 rfl ?_
      refine idx T_ok rfl rfl rfl rfl rfl j rfl hj ?_
      refine go T_ok 200 rfl ?_
      refine ld T_ok rfl rfl rfl rfl (hc1.get (i := 0) rfl) ?_
      refine go T_ok 200 rfl ?_
      refine st T_ok rfl rfl rfl rfl (v := I r.k) rfl rfl B3 rfl ?_
      intro w qk B3 hz3
      have B3 : Bk w g3 24 (spL (lo, r.k)) := B3
      have B1 := Bk.keep B1 qk (by omega)
      have S1 := Sl.keep S1 qk (fun k hk e => by omega)
      have B2 := Bk.keep B2 qk (by omega)
      have q := q.step qk (fun k hk e => by omega)
      refine go T_ok 200 rfl ?_
      refine ldA T_ok rfl rfl rfl rfl rfl B3.all ?_
      refine go T_ok 200 rfl ?_
      refine stA T_ok rfl rfl rfl rfl (vs := spL (lo, r.k)) rfl rfl rfl B2 rfl ?_
      intro w' q4 B4 hs4
      refine go T_ok 200 rfl ?_
      have B4 : Bk w' g2 24 (spL (lo, r.k)) := B4
      exact ret (retR1 Try.results80 (resA T_ok rfl rfl rfl B4.all) ⟨rfl, q.step q4 (fun k hk e => by omega)⟩)
    · rw [show ((t[j]?).map (·.k)).getD (-1) = -1 by rw [List.getElem?_eq_none (by omega)]; rfl]
      refine go T_ok 200 rfl ?_
      refine ldA T_ok rfl rfl rfl rfl rfl B3.all ?_
      refine go T_ok 200 rfl ?_
      refine stA T_ok rfl rfl rfl rfl (vs := spL (lo, (-1))) rfl rfl rfl B2 rfl ?_
      intro w' q4 B4 hs4
      refine go T_ok 200 rfl ?_
      have B4 : Bk w' g2 24 (spL (lo, (-1))) := B4
      exact ret (retR1 Try.results80 (resA T_ok rfl rfl rfl B4.all) ⟨rfl, q.step q4 (fun k hk e => by omega)⟩)
  · rw [if_pos (by omega)] at hlo
    have B3 : Bk w g3 24 (spL (lo, 1)) := by rw [← hlo]; exact B3
    refine go T_ok 200 rfl ?_
    refine st T_ok rfl rfl rfl rfl (v := I (-1)) rfl rfl B3 rfl ?_
    intro w qk B3 hz3
    have B3 : Bk w g3 24 (spL (lo, -1)) := B3
    have B1 := Bk.keep B1 qk (by omega)
    have S1 := Sl.keep S1 qk (fun k hk e => by omega)
    have B2 := Bk.keep B2 qk (by omega)
    have q := q.step qk (fun k hk e => by omega)
    refine go T_ok 200 rfl ?_
    refine call rfl rfl rfl (ok _ (by decide) rfl) (fstR_any (fun r => decide (o ≤ r.lo)) t A c B _ _ S1 hl (prd112 (o := (o, 0)) B1)) ?_
    rintro x w ⟨rfl, qk⟩
    have B1 := B1.no qk
    have S1 := S1.no qk
    have B2 := B2.no qk
    have B3 := B3.no qk
    have q := q.trans qk
    generalize fst (fun r => decide (o ≤ r.lo)) t = j at hfl2 ⊢
    refine go T_ok 200 rfl ?_
    refine condD rfl (fun hj => ?_) (fun hj => ?_)
    · have hj : j < t.length := by omega
      obtain ⟨r, hr⟩ := get_of hj
      obtain ⟨b1, o1, rfl, hb1, hc1⟩ := S1.el rwL_len hr
      rw [show ((t[j]?).map (·.k)).getD (-1) = r.k by rw [hr]; rfl]
      refine go T_ok 200 rfl ?_
      refine idx T_ok rfl rfl rfl rfl rfl j rfl hj ?_
      refine go T_ok 200 rfl ?_
      refine ld T_ok rfl rfl rfl rfl (hc1.get (i := 0) rfl) ?_
      refine go T_ok 200 rfl ?_
      refine st T_ok rfl rfl rfl rfl (v := I r.k) rfl rfl B3 rfl ?_
      intro w qk B3 hz3
      have B3 : Bk w g3 24 (spL (lo, r.k)) := B3
      have B1 := Bk.keep B1 qk (by omega)
      have S1 := Sl.keep S1 qk (fun k hk e => by omega)
      have B2 := Bk.keep B2 qk (by omega)
      have q := q.step qk (fun k hk e => by omega)
      refine go T_ok 200 rfl ?_
      refine ldA T_ok rfl rfl rfl rfl rfl B3.all ?_
      refine go T_ok 200 rfl ?_
      refine stA T_ok rfl rfl rfl rfl (vs := spL (lo, r.k)) rfl rfl rfl B2 rfl ?_
      intro w' q4 B4 hs4
      refine go T_ok 200 rfl ?_
      have B4 : Bk w' g2 24 (spL (lo, r.k)) := B4
      exact ret (retR1 Try.results80 (resA T_ok rfl rfl rfl B4.all) ⟨rfl, q.step q4 (fun k hk e => by omega)⟩)
    · rw [show ((t[j]?).map (·.k)).getD (-1) = -1 by rw [List.getElem?_eq_none (by omega)]; rfl]
      refine go T_ok 200 rfl ?_
      refine ldA T_ok rfl rfl rfl rfl rfl B3.all ?_
      refine go T_ok 200 rfl ?_
      refine stA T_ok rfl rfl rfl rfl (vs := spL (lo, (-1))) rfl rfl rfl B2 rfl ?_
      intro w' q4 B4 hs4
      refine go T_ok 200 rfl ?_
      have B4 : Bk w' g2 24 (spL (lo, (-1))) := B4
      exact ret (retR1 Try.results80 (resA T_ok rfl rfl rfl B4.all) ⟨rfl, q.step q4 (fun k hk e => by omega)⟩)
end Go.Proofs.Ytolhfimknimliaa
