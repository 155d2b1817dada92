/- The contracts of skies: the program's and the specification's. -/
import Derived.Test.YtolhfimknimliaaC9
import Derived.Test.YtolhfimknimliaaC6
import Derived.Test.YtolhfimknimliaaE3
namespace Go.Proofs.Ytolhfimknimliaa
open Go.Ev Go.Proofs Go.Top
attribute [local irreducible] At AtH
def T2 : Tab := [(22, .slc 83 1 24), (26, .str 6 [(0,1,false),(1,1,false),(2,2,true),(4,2,true)] [I 0, .slice none 0 0, I 0, I 0, I 0, I 0]), (98, .one), (138, .one),
  (140, .str 8 [(0,6,true),(6,1,false),(7,1,false)] [I 0, .slice none 0 0, I 0, I 0, I 0, I 0, .slice none 0 0, .map none])] ++ T
theorem T2_ok : tabOk Try.prog T2 = true := by kernel_rfl
/-- a slice of slices, its value's cells -/
def slL (s : Sli Rw) : List Value := [.slice s.A s.l.length s.c]
theorem slL_len (s : Sli Rw) : (slL s).length = 1 := rfl
def skL (p : Int) (bins : Sli (Sli Rw)) (be al : Int × Int) : List Value := [I p, .slice bins.A bins.l.length bins.c, I be.1, I be.2, I al.1, I al.2]
/-- the bins of a sky in memory -/
structure SkM (w : World) (bins : Sli (Sli Rw)) : Prop where
  len : bins.l.length ≤ 9223372036854775807
  sl : Sl w w.heap.size 1 bins.A bins.l.length (bins.l.flatMap slL)
  el : ∀ s ∈ bins.l, s.l.length ≤ 9223372036854775807 ∧ Sl w w.heap.size 3 s.A s.l.length (s.l.flatMap rwL)
theorem SkM.no {w w' : World} {bins : Sli (Sli Rw)} (h : SkM w bins) (c : Chg No w w') : SkM w' bins :=
  ⟨h.len, (h.sl.no c).more c.size (Nat.le_refl _), fun s hs => ⟨(h.el s hs).1, ((h.el s hs).2.no c).more c.size (Nat.le_refl _)⟩⟩
def SkOk (p : Int) (bins : Sli (Sli Rw)) (be al : Int × Int) : Prop := (2 ≤ p ∧ p ≤ 1000000) ∧ (1 ≤ (bins.l.length : Int) ∧ (bins.l.length : Int) ≤ 20) ∧ SpOk be (-100) 100 ∧ SpOk al (-100) 100 ∧ ∀ s ∈ bins.l, BinOk p s.l
theorem bk_at {w : World} {g t : Nat} {cs ds : List Value} {o : Nat} (h : Bk w g t cs) (e : ds = (cs.drop o).take ds.length) : cellsAt w g o ds := h.cells o _ fun j v hv => by
  rw [e, List.getElem?_take] at hv
  split at hv
  · rwa [List.getElem?_drop] at hv
  · cases hv
theorem getS_of {l : List (Sli Rw)} {i : Nat} (h : i < l.length) : ∃ r, l[i]? = some r := ⟨_, List.getElem?_eq_getElem h⟩
set_option maxRecDepth 20000 in
set_option maxHeartbeats 4000000 in
theorem rSky_any (p : Int) (bins : Sli (Sli Rw)) (be al : Int × Int) (w0 : World) (H : SkM w0 bins) :
    Ret Try.prog 7 [.agg (skL p bins be al).toArray] w0 fun x w' => (∃ b, x = .bool b ∧ (b = true ↔ SkOk p bins be al)) ∧ Chg No w0 w' := by
  refine enter Try.func7 rfl Try.ntmps7 rfl ?_
  refine go T2_ok 200 rfl ?_
  refine bx rfl rfl rfl (cs := skL p bins be al) rfl ?_
  intro g1 u1 hg1 hs1 q1 B1
  have q := q1
  refine go T2_ok 200 rfl ?_
  repeat (first | (refine ldA T2_ok rfl rfl rfl rfl rfl (Bk.all B1) ?_; refine go T2_ok 200 rfl ?_) | (refine ld T2_ok rfl rfl rfl rfl (Bk.get B1 rfl) ?_; refine go T2_ok 200 rfl ?_) | (refine guardA (b := true) rfl rfl rfl rfl (fun _ => ?_) (fun e => by cases e); refine go T2_ok 200 rfl ?_) | (refine guardA (b := false) rfl rfl rfl rfl (fun e => by cases e) (fun _ => ?_); refine go T2_ok 200 rfl ?_) | (refine condT rfl rfl ?_; refine go T2_ok 200 rfl ?_) | (refine condF rfl rfl ?_; refine go T2_ok 200 rfl ?_))
  refine call rfl rfl rfl (ok _ (by decide) rfl) (rin_any p 2 1000000 _) ?_
  rintro x w ⟨rfl, rfl⟩
  by_cases h1 : 2 ≤ p ∧ p ≤ 1000000
  case neg =>
    rw [decide_eq_false h1]
    refine go T2_ok 200 rfl ?_
    repeat (first | (refine ldA T2_ok rfl rfl rfl rfl rfl (Bk.all B1) ?_; refine go T2_ok 200 rfl ?_) | (refine ld T2_ok rfl rfl rfl rfl (Bk.get B1 rfl) ?_; refine go T2_ok 200 rfl ?_) | (refine guardA (b := true) rfl rfl rfl rfl (fun _ => ?_) (fun e => by cases e); refine go T2_ok 200 rfl ?_) | (refine guardA (b := false) rfl rfl rfl rfl (fun e => by cases e) (fun _ => ?_); refine go T2_ok 200 rfl ?_) | (refine condT rfl rfl ?_; refine go T2_ok 200 rfl ?_) | (refine condF rfl rfl ?_; refine go T2_ok 200 rfl ?_))
    exact ret (ret1 (v := .bool false) Try.results7 rfl ⟨⟨false, rfl, by simp; exact fun h => absurd h.1 h1⟩, q⟩)
  rw [decide_eq_true h1]
  refine go T2_ok 200 rfl ?_
  repeat (first | (refine ldA T2_ok rfl rfl rfl rfl rfl (Bk.all B1) ?_; refine go T2_ok 200 rfl ?_) | (refine ld T2_ok rfl rfl rfl rfl (Bk.get B1 rfl) ?_; refine go T2_ok 200 rfl ?_) | (refine guardA (b := true) rfl rfl rfl rfl (fun _ => ?_) (fun e => by cases e); refine go T2_ok 200 rfl ?_) | (refine guardA (b := false) rfl rfl rfl rfl (fun e => by cases e) (fun _ => ?_); refine go T2_ok 200 rfl ?_) | (refine condT rfl rfl ?_; refine go T2_ok 200 rfl ?_) | (refine condF rfl rfl ?_; refine go T2_ok 200 rfl ?_))
  refine call rfl rfl rfl (ok _ (by decide) rfl) (rin_any (bins.l.length : Int) 1 20 _) ?_
  rintro x w ⟨rfl, rfl⟩
  by_cases h2 : 1 ≤ (bins.l.length : Int) ∧ (bins.l.length : Int) ≤ 20
  case neg =>
    rw [decide_eq_false h2]
    refine go T2_ok 200 rfl ?_
    repeat (first | (refine ldA T2_ok rfl rfl rfl rfl rfl (Bk.all B1) ?_; refine go T2_ok 200 rfl ?_) | (refine ld T2_ok rfl rfl rfl rfl (Bk.get B1 rfl) ?_; refine go T2_ok 200 rfl ?_) | (refine guardA (b := true) rfl rfl rfl rfl (fun _ => ?_) (fun e => by cases e); refine go T2_ok 200 rfl ?_) | (refine guardA (b := false) rfl rfl rfl rfl (fun e => by cases e) (fun _ => ?_); refine go T2_ok 200 rfl ?_) | (refine condT rfl rfl ?_; refine go T2_ok 200 rfl ?_) | (refine condF rfl rfl ?_; refine go T2_ok 200 rfl ?_))
    exact ret (ret1 (v := .bool false) Try.results7 rfl ⟨⟨false, rfl, by simp; exact fun h => absurd h.2.1 h2⟩, q⟩)
  rw [decide_eq_true h2]
  refine go T2_ok 200 rfl ?_
  repeat (first | (refine ldA T2_ok rfl rfl rfl rfl rfl (Bk.all B1) ?_; refine go T2_ok 200 rfl ?_) | (refine ld T2_ok rfl rfl rfl rfl (Bk.get B1 rfl) ?_; refine go T2_ok 200 rfl ?_) | (refine guardA (b := true) rfl rfl rfl rfl (fun _ => ?_) (fun e => by cases e); refine go T2_ok 200 rfl ?_) | (refine guardA (b := false) rfl rfl rfl rfl (fun e => by cases e) (fun _ => ?_); refine go T2_ok 200 rfl ?_) | (refine condT rfl rfl ?_; refine go T2_ok 200 rfl ?_) | (refine condF rfl rfl ?_; refine go T2_ok 200 rfl ?_))
  refine ldA T2_ok rfl rfl rfl rfl rfl (bk_at (ds := spL be) B1 rfl) ?_
  refine go T2_ok 200 rfl ?_
  repeat (first | (refine ldA T2_ok rfl rfl rfl rfl rfl (Bk.all B1) ?_; refine go T2_ok 200 rfl ?_) | (refine ld T2_ok rfl rfl rfl rfl (Bk.get B1 rfl) ?_; refine go T2_ok 200 rfl ?_) | (refine guardA (b := true) rfl rfl rfl rfl (fun _ => ?_) (fun e => by cases e); refine go T2_ok 200 rfl ?_) | (refine guardA (b := false) rfl rfl rfl rfl (fun e => by cases e) (fun _ => ?_); refine go T2_ok 200 rfl ?_) | (refine condT rfl rfl ?_; refine go T2_ok 200 rfl ?_) | (refine condF rfl rfl ?_; refine go T2_ok 200 rfl ?_))
  refine call rfl rfl rfl (ok _ (by decide) rfl) (rSpan_any be (-100) 100 _) ?_
  rintro x w ⟨rfl, qk⟩
  have B1 := B1.no qk
  have q := q.trans qk
  by_cases h3 : SpOk be (-100) 100
  case neg =>
    rw [decide_eq_false h3]
    refine go T2_ok 200 rfl ?_
    repeat (first | (refine ldA T2_ok rfl rfl rfl rfl rfl (Bk.all B1) ?_; refine go T2_ok 200 rfl ?_) | (refine ld T2_ok rfl rfl rfl rfl (Bk.get B1 rfl) ?_; refine go T2_ok 200 rfl ?_) | (refine guardA (b := true) rfl rfl rfl rfl (fun _ => ?_) (fun e => by cases e); refine go T2_ok 200 rfl ?_) | (refine guardA (b := false) rfl rfl rfl rfl (fun e => by cases e) (fun _ => ?_); refine go T2_ok 200 rfl ?_) | (refine condT rfl rfl ?_; refine go T2_ok 200 rfl ?_) | (refine condF rfl rfl ?_; refine go T2_ok 200 rfl ?_))
    exact ret (ret1 (v := .bool false) Try.results7 rfl ⟨⟨false, rfl, by simp; exact fun h => absurd h.2.2.1 h3⟩, q⟩)
  rw [decide_eq_true h3]
  refine go T2_ok 200 rfl ?_
  repeat (first | (refine ldA T2_ok rfl rfl rfl rfl rfl (Bk.all B1) ?_; refine go T2_ok 200 rfl ?_) | (refine ld T2_ok rfl rfl rfl rfl (Bk.get B1 rfl) ?_; refine go T2_ok 200 rfl ?_) | (refine guardA (b := true) rfl rfl rfl rfl (fun _ => ?_) (fun e => by cases e); refine go T2_ok 200 rfl ?_) | (refine guardA (b := false) rfl rfl rfl rfl (fun e => by cases e) (fun _ => ?_); refine go T2_ok 200 rfl ?_) | (refine condT rfl rfl ?_; refine go T2_ok 200 rfl ?_) | (refine condF rfl rfl ?_; refine go T2_ok 200 rfl ?_))
  refine ldA T2_ok rfl rfl rfl rfl rfl (bk_at (ds := spL al) B1 rfl) ?_
  refine go T2_ok 200 rfl ?_
  repeat (first | (refine ldA T2_ok rfl rfl rfl rfl rfl (Bk.all B1) ?_; refine go T2_ok 200 rfl ?_) | (refine ld T2_ok rfl rfl rfl rfl (Bk.get B1 rfl) ?_; refine go T2_ok 200 rfl ?_) | (refine guardA (b := true) rfl rfl rfl rfl (fun _ => ?_) (fun e => by cases e); refine go T2_ok 200 rfl ?_) | (refine guardA (b := false) rfl rfl rfl rfl (fun e => by cases e) (fun _ => ?_); refine go T2_ok 200 rfl ?_) | (refine condT rfl rfl ?_; refine go T2_ok 200 rfl ?_) | (refine condF rfl rfl ?_; refine go T2_ok 200 rfl ?_))
  refine call rfl rfl rfl (ok _ (by decide) rfl) (rSpan_any al (-100) 100 _) ?_
  rintro x w ⟨rfl, qk⟩
  have B1 := B1.no qk
  have q := q.trans qk
  by_cases h4 : SpOk al (-100) 100
  case neg =>
    rw [decide_eq_false h4]
    refine go T2_ok 200 rfl ?_
    repeat (first | (refine ldA T2_ok rfl rfl rfl rfl rfl (Bk.all B1) ?_; refine go T2_ok 200 rfl ?_) | (refine ld T2_ok rfl rfl rfl rfl (Bk.get B1 rfl) ?_; refine go T2_ok 200 rfl ?_) | (refine guardA (b := true) rfl rfl rfl rfl (fun _ => ?_) (fun e => by cases e); refine go T2_ok 200 rfl ?_) | (refine guardA (b := false) rfl rfl rfl rfl (fun e => by cases e) (fun _ => ?_); refine go T2_ok 200 rfl ?_) | (refine condT rfl rfl ?_; refine go T2_ok 200 rfl ?_) | (refine condF rfl rfl ?_; refine go T2_ok 200 rfl ?_))
    exact ret (ret1 (v := .bool false) Try.results7 rfl ⟨⟨false, rfl, by simp; exact fun h => absurd h.2.2.2.1 h4⟩, q⟩)
  rw [decide_eq_true h4]
  refine go T2_ok 200 rfl ?_
  repeat (first | (refine ldA T2_ok rfl rfl rfl rfl rfl (Bk.all B1) ?_; refine go T2_ok 200 rfl ?_) | (refine ld T2_ok rfl rfl rfl rfl (Bk.get B1 rfl) ?_; refine go T2_ok 200 rfl ?_) | (refine guardA (b := true) rfl rfl rfl rfl (fun _ => ?_) (fun e => by cases e); refine go T2_ok 200 rfl ?_) | (refine guardA (b := false) rfl rfl rfl rfl (fun e => by cases e) (fun _ => ?_); refine go T2_ok 200 rfl ?_) | (refine condT rfl rfl ?_; refine go T2_ok 200 rfl ?_) | (refine condF rfl rfl ?_; refine go T2_ok 200 rfl ?_))
  refine loop [1, 3] (fun j : Nat => [.pointer (some ⟨g1, 0, none⟩), .int .i64 (j : Int)])
    (fun j w' => j ≤ bins.l.length ∧ Chg No w0 w' ∧ Bk w' g1 26 (skL p bins be al) ∧ ∀ i s, i < j → bins.l[i]? = some s → BinOk p s.l) (fun j => bins.l.length - j) 0 (fun _ => rfl) rfl ⟨Nat.zero_le _, q, B1, fun i s h => absurd h (Nat.not_lt_zero _)⟩ ?_
  rintro j τ w ⟨hj, q, B1, hm⟩
  have H1 := H.no q
  refine go T2_ok 200 rfl ?_
  repeat (first | (refine ldA T2_ok rfl rfl rfl rfl rfl (Bk.all B1) ?_; refine go T2_ok 200 rfl ?_) | (refine ld T2_ok rfl rfl rfl rfl (Bk.get B1 rfl) ?_; refine go T2_ok 200 rfl ?_) | (refine guardA (b := true) rfl rfl rfl rfl (fun _ => ?_) (fun e => by cases e); refine go T2_ok 200 rfl ?_) | (refine guardA (b := false) rfl rfl rfl rfl (fun e => by cases e) (fun _ => ?_); refine go T2_ok 200 rfl ?_) | (refine condT rfl rfl ?_; refine go T2_ok 200 rfl ?_) | (refine condF rfl rfl ?_; refine go T2_ok 200 rfl ?_))
  refine condD rfl (fun hlt => ?_) (fun hlt => ?_)
  · have hlt : j < bins.l.length := by omega
    obtain ⟨s, hs⟩ := getS_of hlt
    obtain ⟨b1, o1, hA1, hb1, hc1⟩ := H1.sl.el slL_len hs
    have e3 : w64 ((j : Int) + 1) = ((j + 1 : Nat) : Int) := w64_id (by omega) (by omega)
    have hel := H1.el s (List.mem_of_getElem? hs)
    refine go T2_ok 200 rfl ?_
    refine draw mixed (fun w' => Chg No w w') ([0,1,2,3,4,5,6].map (fun i => (i, true)) ++ [(7, false)] ++ [8].map (fun i => (i, true))) rfl (by kernel_rfl) (Chg.drew _) ?_
    refine goH T2_ok 200 rfl ?_
    repeat (first | (refine quietH rfl (fun w' hS => r_load T2_ok rfl rfl rfl (Bk.get (B1.no hS) rfl)) ?_; refine goH T2_ok 200 rfl ?_))
    rw [hA1]
    refine quietH rfl (fun w' hS => r_idx T2_ok rfl rfl rfl rfl j rfl hlt) ?_
    refine goH T2_ok 200 rfl ?_
    refine quietH rfl (fun w' hS => r_load T2_ok rfl rfl rfl ((hS.cell (a := ⟨b1, o1 + j * 1 + 0, none⟩) hb1 (fun h => h)).trans (hc1.get rfl))) ?_
    refine goH T2_ok 200 rfl ?_
    refine callE rfl rfl rfl (ok _ (by decide) rfl) (rBin_any p s.l s.A s.c w.heap.size _ (hel.2.no (Chg.drew _)) hel.1) ?_
    rintro x w2 ⟨⟨b, rfl, hb⟩, q2⟩
    have qk := (Chg.drew w).trans q2
    refine ⟨qk, ?_⟩
    refine goH T2_ok 200 rfl ?_
    refine endH ?_
    have B1 := B1.no qk
    have q := q.trans qk
    cases b with
    | false =>
      refine go T2_ok 200 rfl ?_
      repeat (first | (refine guardA (b := true) rfl rfl rfl rfl (fun _ => ?_) (fun e => by cases e); refine go T2_ok 200 rfl ?_) | (refine guardA (b := false) rfl rfl rfl rfl (fun e => by cases e) (fun _ => ?_); refine go T2_ok 200 rfl ?_) | (refine condT rfl rfl ?_; refine go T2_ok 200 rfl ?_) | (refine condF rfl rfl ?_; refine go T2_ok 200 rfl ?_))
      exact ret (ret1 (v := .bool false) Try.results7 rfl ⟨⟨false, rfl, by simp; exact fun h => absurd (hb.2 (h.2.2.2.2 s (List.mem_of_getElem? hs))) (by simp)⟩, q⟩)
    | true =>
      refine go T2_ok 200 rfl ?_
      repeat (first | (refine guardA (b := true) rfl rfl rfl rfl (fun _ => ?_) (fun e => by cases e); refine go T2_ok 200 rfl ?_) | (refine guardA (b := false) rfl rfl rfl rfl (fun e => by cases e) (fun _ => ?_); refine go T2_ok 200 rfl ?_) | (refine condT rfl rfl ?_; refine go T2_ok 200 rfl ?_) | (refine condF rfl rfl ?_; refine go T2_ok 200 rfl ?_))
      rw [e3, ← hA1]
      refine round ⟨j + 1, rfl, ⟨by omega, q, B1, fun i s' hi hs' => ?_⟩, by omega⟩
      rcases Nat.lt_or_ge i j with h' | h'
      · exact hm i s' h' hs'
      · obtain rfl : i = j := by omega
        rw [hs] at hs'; cases hs'
        exact hb.1 rfl
  · obtain rfl : j = bins.l.length := by omega
    refine go T2_ok 200 rfl ?_
    have hall : ∀ s ∈ bins.l, BinOk p s.l := fun s hs => by
      obtain ⟨i, hi, rfl⟩ := List.getElem_of_mem hs
      exact hm i _ hi (List.getElem?_eq_getElem hi)
    exact ret (ret1 (v := .bool true) Try.results7 rfl ⟨⟨true, rfl, by simp; exact ⟨h1, h2, h3, h4, hall⟩⟩, q⟩)
end Go.Proofs.Ytolhfimknimliaa
