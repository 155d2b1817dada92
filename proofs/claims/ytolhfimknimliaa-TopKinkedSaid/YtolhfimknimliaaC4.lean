/- The contract of the rates above thresholds. -/
import Derived.Test.YtolhfimknimliaaC3
namespace Go.Proofs.Ytolhfimknimliaa
open Go.Ev Go.Proofs Go.Top
attribute [local irreducible] At AtH
set_option maxRecDepth 20000 in
set_option maxHeartbeats 4000000 in
theorem abv_any (l : List Rw) (o : Int × Int) (A : Option Addr) (c B : Nat) (w : World) (S1 : Sl w B 3 A l.length (l.flatMap rwL)) (hl : l.length ≤ 4000) (hl1 : 1 ≤ l.length) :
    Ret Try.prog 79 [.slice A l.length c, .agg (spL o).toArray] w fun x w' => x = .agg (spL (abv l o)).toArray ∧ Chg No w w' := by
  have hfl1 := fst_le (fun r => decide (o.1 < r.k)) l
  have hfl2 := fst_le (fun r => decide (o.2 ≤ r.k)) l
  refine enter Try.func79 rfl Try.ntmps79 rfl ?_
  refine go T_ok 200 rfl ?_
  refine bx rfl rfl rfl (cs := spL o) rfl ?_
  intro g1 u1 hg1 hs1 q1 B1
  have q := q1
  have S1 := S1.no q1
  refine go T_ok 200 rfl ?_
  refine nw rfl rfl (z := .agg #[I 0, I 0]) (by kernel_rfl) (cs := [I 0, I 0]) rfl ?_
  intro g2 w hg2 hs2 qk B2
  have B1 := B1.no qk
  have S1 := S1.no qk
  have q := q.trans qk
  have hg2w := q1.size
  obtain ⟨z, hz⟩ := get_of (l := l) (i := 0) (by omega)
  obtain ⟨b0, o0, hA0, hb0, hc0⟩ := S1.el rwL_len hz
  refine go T_ok 200 rfl ?_
  rw [hA0]
  refine idx T_ok rfl rfl rfl rfl rfl 0 rfl (by omega) ?_
  refine go T_ok 200 rfl ?_
  refine ld T_ok rfl rfl rfl rfl (hc0.get (i := 2) rfl) ?_
  refine go T_ok 200 rfl ?_
  rw [← hA0]
  have yB1 := B1.lt
  have yS1 := S1.2.1
  have yB2 := B2.lt
  have yq := q.size
  refine nw rfl rfl (z := .agg #[I 0, I 0]) (by kernel_rfl) (cs := [I 0, I 0]) rfl ?_
  intro g3 w hg3 hs3 qk B3
  have B1 := B1.no qk
  have S1 := S1.no qk
  have B2 := B2.no qk
  have q := q.trans qk
  refine go T_ok 200 rfl ?_
  refine stA T_ok rfl rfl rfl rfl (vs := spL (0, z.hi)) rfl rfl rfl B3 rfl ?_
  intro w qk B3 hz3
  have B3 : Bk w g3 24 (spL (0, z.hi)) := B3
  have B1 := Bk.keep B1 qk (by omega)
  have S1 := Sl.keep S1 qk (fun k hk e => by omega)
  have B2 := Bk.keep B2 qk (by omega)
  have q := q.step qk (fun k hk e => by omega)
  refine go T_ok 200 rfl ?_
  refine call rfl rfl rfl (ok _ (by decide) rfl) (fstF_any (fun r => decide (o.1 < r.k)) l A c B _ _ S1 hl (prd108 B1)) ?_
  rintro x w ⟨rfl, qk⟩
  have B1 := B1.no qk
  have S1 := S1.no qk
  have B2 := B2.no qk
  have B3 := B3.no qk
  have q := q.trans qk
  have habv : abv l o = ((if o.2 = -1 then 0 else ((l[fst (fun r => decide (o.2 ≤ r.k)) l]?).map (·.lo)).getD 0), (if fst (fun r => decide (o.1 < r.k)) l = 0 then ((l[0]?).map (·.hi)).getD 0 else ((l[fst (fun r => decide (o.1 < r.k)) l - 1]?).map (·.hi)).getD 0)) := rfl
  rw [habv]
  generalize hhi : (if fst (fun r => decide (o.1 < r.k)) l = 0 then ((l[0]?).map (·.hi)).getD 0 else ((l[fst (fun r => decide (o.1 < r.k)) l - 1]?).map (·.hi)).getD 0 : Int) = hi
  generalize fst (fun r => decide (o.1 < r.k)) l = i at hfl1 hhi ⊢
  refine go T_ok 200 rfl ?_
  refine condD rfl (fun hi0 => ?_) (fun hi0 => ?_)
  · obtain ⟨r, hr⟩ := get_of (l := l) (i := i - 1) (by omega)
    obtain ⟨b1, o1, hA1, hb1, hc1⟩ := S1.el rwL_len hr
    rw [if_neg (by omega), hr] at hhi
    have hhi : r.hi = hi := hhi
    have e1 : w64 ((i : Int) - 1) = ((i - 1 : Nat) : Int) := by rw [w64_id (by omega) (by omega)]; omega
    refine go T_ok 200 rfl ?_
    rw [e1, hA1]
    refine idx T_ok rfl rfl rfl rfl rfl (i - 1) rfl (by omega) ?_
    refine go T_ok 200 rfl ?_
    refine ld T_ok rfl rfl rfl rfl (hc1.get (i := 2) rfl) ?_
    refine go T_ok 200 rfl ?_
    rw [← hA1, hhi]
    refine st T_ok rfl rfl rfl rfl (v := I hi) rfl rfl B3 rfl ?_
    intro w qk B3 hz3
    have B3 : Bk w g3 24 (spL (0, hi)) := B3
    have B1 := Bk.keep B1 qk (by omega)
    have S1 := Sl.keep S1 qk (fun k hk e => by omega)
    have B2 := Bk.keep B2 qk (by omega)
    have q := q.step qk (fun k hk e => by omega)
    refine go T_ok 200 rfl ?_
    repeat (first | (refine ldA T_ok rfl rfl rfl rfl rfl (Bk.all B1) ?_; refine go T_ok 200 rfl ?_) | (refine ldA T_ok rfl rfl rfl rfl rfl (Bk.all B2) ?_; refine go T_ok 200 rfl ?_) | (refine ldA T_ok rfl rfl rfl rfl rfl (Bk.all B3) ?_; refine go T_ok 200 rfl ?_) | (refine ld T_ok rfl rfl rfl rfl (Bk.get B1 rfl) ?_; refine go T_ok 200 rfl ?_) | (refine ld T_ok rfl rfl rfl rfl (Bk.get B2 rfl) ?_; refine go T_ok 200 rfl ?_) | (refine ld T_ok rfl rfl rfl rfl (Bk.get B3 rfl) ?_; refine go T_ok 200 rfl ?_) | (refine guardA (b := true) rfl rfl rfl rfl (fun _ => ?_) (fun e => by cases e); refine go T_ok 200 rfl ?_) | (refine guardA (b := false) rfl rfl rfl rfl (fun e => by cases e) (fun _ => ?_); refine go T_ok 200 rfl ?_) | (refine condT rfl rfl ?_; refine go T_ok 200 rfl ?_) | (refine condF rfl rfl ?_; refine go T_ok 200 rfl ?_))
    refine condD rfl (fun hn => ?_) (fun hn => ?_)
    · rw [if_pos hn]
      refine go T_ok 200 rfl ?_
      refine ldA T_ok rfl rfl rfl rfl rfl B3.all ?_
      refine go T_ok 200 rfl ?_
      refine stA T_ok rfl rfl rfl rfl (vs := spL (0, hi)) rfl rfl rfl B2 rfl ?_
      intro w' q4 B4 hs4
      refine go T_ok 200 rfl ?_
      have B4 : Bk w' g2 24 (spL (0, hi)) := B4
      exact ret (retR1 Try.results79 (resA T_ok rfl rfl rfl B4.all) ⟨rfl, q.step q4 (fun k hk e => by omega)⟩)
    rw [if_neg hn]
    refine go T_ok 200 rfl ?_
    refine call rfl rfl rfl (ok _ (by decide) rfl) (fstF_any (fun r => decide (o.2 ≤ r.k)) l A c B _ _ S1 hl (prd109 B1)) ?_
    rintro x w ⟨rfl, qk⟩
    have B1 := B1.no qk
    have S1 := S1.no qk
    have B2 := B2.no qk
    have B3 := B3.no qk
    have q := q.trans qk
    generalize fst (fun r => decide (o.2 ≤ r.k)) l = j at hfl2 ⊢
    refine go T_ok 200 rfl ?_
    refine condD rfl (fun hj => ?_) (fun hj => ?_)
    · have hj : j < l.length := by omega
      obtain ⟨r, hr⟩ := get_of hj
      obtain ⟨b1, o1, rfl, hb1, hc1⟩ := S1.el rwL_len hr
      rw [show ((l[j]?).map (·.lo)).getD 0 = r.lo by rw [hr]; rfl]
      refine go T_ok 200 rfl ?_
      refine idx T_ok rfl rfl rfl rfl rfl j rfl hj ?_
      refine go T_ok 200 rfl ?_
      refine ld T_ok rfl rfl rfl rfl (hc1.get (i := 1) rfl) ?_
      refine go T_ok 200 rfl ?_
      refine st T_ok rfl rfl rfl rfl (v := I r.lo) rfl rfl B3 rfl ?_
      intro w qk B3 hz3
      have B3 : Bk w g3 24 (spL (r.lo, hi)) := B3
      have B1 := Bk.keep B1 qk (by omega)
      have S1 := Sl.keep S1 qk (fun k hk e => by omega)
      have B2 := Bk.keep B2 qk (by omega)
      have q := q.step qk (fun k hk e => by omega)
      refine go T_ok 200 rfl ?_
      refine ldA T_ok rfl rfl rfl rfl rfl B3.all ?_
      refine go T_ok 200 rfl ?_
      refine stA T_ok rfl rfl rfl rfl (vs := spL (r.lo, hi)) rfl rfl rfl B2 rfl ?_
      intro w' q4 B4 hs4
      refine go T_ok 200 rfl ?_
      have B4 : Bk w' g2 24 (spL (r.lo, hi)) := B4
      exact ret (retR1 Try.results79 (resA T_ok rfl rfl rfl B4.all) ⟨rfl, q.step q4 (fun k hk e => by omega)⟩)
    · rw [show ((l[j]?).map (·.lo)).getD 0 = 0 by rw [List.getElem?_eq_none (by omega)]; rfl]
      refine go T_ok 200 rfl ?_
      refine ldA T_ok rfl rfl rfl rfl rfl B3.all ?_
      refine go T_ok 200 rfl ?_
      refine stA T_ok rfl rfl rfl rfl (vs := spL (0, hi)) rfl rfl rfl B2 rfl ?_
      intro w' q4 B4 hs4
      refine go T_ok 200 rfl ?_
      have B4 : Bk w' g2 24 (spL (0, hi)) := B4
      exact ret (retR1 Try.results79 (resA T_ok rfl rfl rfl B4.all) ⟨rfl, q.step q4 (fun k hk e => by omega)⟩)
  · rw [if_pos (by omega), hz] at hhi
    have hhi : z.hi = hi := hhi
    have B3 : Bk w g3 24 (spL (0, hi)) := by rw [← hhi]; exact B3
    refine go T_ok 200 rfl ?_
    repeat (first | (refine ldA T_ok rfl rfl rfl rfl rfl (Bk.all B1) ?_; refine go T_ok 200 rfl ?_) | (refine ldA T_ok rfl rfl rfl rfl rfl (Bk.all B2) ?_; refine go T_ok 200 rfl ?_) | (refine ldA T_ok rfl rfl rfl rfl rfl (Bk.all B3) ?_; refine go T_ok 200 rfl ?_) | (refine ld T_ok rfl rfl rfl rfl (Bk.get B1 rfl) ?_; refine go T_ok 200 rfl ?_) | (refine ld T_ok rfl rfl rfl rfl (Bk.get B2 rfl) ?_; refine go T_ok 200 rfl ?_) | (refine ld T_ok rfl rfl rfl rfl (Bk.get B3 rfl) ?_; refine go T_ok 200 rfl ?_) | (refine guardA (b := true) rfl rfl rfl rfl (fun _ => ?_) (fun e => by cases e); refine go T_ok 200 rfl ?_) | (refine guardA (b := false) rfl rfl rfl rfl (fun e => by cases e) (fun _ => ?_); refine go T_ok 200 rfl ?_) | (refine condT rfl rfl ?_; refine go T_ok 200 rfl ?_) | (refine condF rfl rfl ?_; refine go T_ok 200 rfl ?_))
    refine condD rfl (fun hn => ?_) (fun hn => ?_)
    · rw [if_pos hn]
      refine go T_ok 200 rfl ?_
      refine ldA T_ok rfl rfl rfl rfl rfl B3.all ?_
      refine go T_ok 200 rfl ?_
      refine stA T_ok rfl rfl rfl rfl (vs := spL (0, hi)) rfl rfl rfl B2 rfl ?_
      intro w' q4 B4 hs4
      refine go T_ok 200 rfl ?_
      have B4 : Bk w' g2 24 (spL (0, hi)) := B4
      exact ret (retR1 Try.results79 (resA T_ok rfl rfl rfl B4.all) ⟨rfl, q.step q4 (fun k hk e => by omega)⟩)
    rw [if_neg hn]
    refine go T_ok 200 rfl ?_
    refine call rfl rfl rfl (ok _ (by decide) rfl) (fstF_any (fun r => decide (o.2 ≤ r.k)) l A c B _ _ S1 hl (prd109 B1)) ?_
    rintro x w ⟨rfl, qk⟩
    have B1 := B1.no qk
    have S1 := S1.no qk
    have B2 := B2.no qk
    have B3 := B3.no qk
    have q := q.trans qk
    generalize fst (fun r => decide (o.2 ≤ r.k)) l = j at hfl2 ⊢
    refine go T_ok 200 rfl ?_
    refine condD rfl (fun hj => ?_) (fun hj => ?_)
    · have hj : j < l.length := by omega
      obtain ⟨r, hr⟩ := get_of hj
      obtain ⟨b1, o1, rfl, hb1, hc1⟩ := S1.el rwL_len hr
      rw [show ((l[j]?).map (·.lo)).getD 0 = r.lo by rw [hr]; rfl]
      refine go T_ok 200 rfl ?_
      refine idx T_ok rfl rfl rfl rfl rfl j rfl hj ?_
      refine go T_ok 200 rfl ?_
      refine ld T_ok rfl rfl rfl rfl (hc1.get (i := 1) rfl) ?_
      refine go T_ok 200 rfl ?_
      refine st T_ok rfl rfl rfl rfl (v := I r.lo) rfl rfl B3 rfl ?_
      intro w qk B3 hz3
      have B3 : Bk w g3 24 (spL (r.lo, hi)) := B3
      have B1 := Bk.keep B1 qk (by omega)
      have S1 := Sl.keep S1 qk (fun k hk e => by omega)
      have B2 := Bk.keep B2 qk (by omega)
      have q := q.step qk (fun k hk e => by omega)
      refine go T_ok 200 rfl ?_
      refine ldA T_ok rfl rfl rfl rfl rfl B3.all ?_
      refine go T_ok 200 rfl ?_
      refine stA T_ok rfl rfl rfl rfl (vs := spL (r.lo, hi)) rfl rfl rfl B2 rfl ?_
      intro w' q4 B4 hs4
      refine go T_ok 200 rfl ?_
      have B4 : Bk w' g2 24 (spL (r.lo, hi)) := B4
      exact ret (retR1 Try.results79 (resA T_ok rfl rfl rfl B4.all) ⟨rfl, q.step q4 (fun k hk e => by omega)⟩)
    · rw [show ((l[j]?).map (·.lo)).getD 0 = 0 by rw [List.getElem?_eq_none (by omega)]; rfl]
      refine go T_ok 200 rfl ?_
      refine ldA T_ok rfl rfl rfl rfl rfl B3.all ?_
      refine go T_ok 200 rfl ?_
      refine stA T_ok rfl rfl rfl rfl (vs := spL (0, hi)) rfl rfl rfl B2 rfl ?_
      intro w' q4 B4 hs4
      refine go T_ok 200 rfl ?_
      have B4 : Bk w' g2 24 (spL (0, hi)) := B4
      exact ret (retR1 Try.results79 (resA T_ok rfl rfl rfl B4.all) ⟨rfl, q.step q4 (fun k hk e => by omega)⟩)
end Go.Proofs.Ytolhfimknimliaa
