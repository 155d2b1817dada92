/- The contract of skies that are as defined (the program's). -/
import Derived.Test.YtolhfimknimliaaCA
namespace Go.Proofs.Ytolhfimknimliaa
open Go.Ev Go.Proofs Go.Top
attribute [local irreducible] At AtH
set_option maxRecDepth 20000 in
set_option maxHeartbeats 4000000 in
theorem skied_any (p : Int) (bins : Sli (Sli Rw)) (be al : Int × Int) (w0 : World) (H : SkM w0 bins) :
    Ret Try.prog 77 [.agg (skL p bins be al).toArray] w0 fun x w' => (∃ b, x = .bool b ∧ (b = true ↔ SkOk p bins be al)) ∧ Chg No w0 w' := by
  refine enter Try.func77 rfl Try.ntmps77 rfl ?_
  refine go T2_ok 200 rfl ?_
  refine bx rfl rfl rfl (cs := skL p bins be al) rfl ?_
  intro g1 u1 hg1 hs1 q1 B1
  have q := q1
  refine go T2_ok 200 rfl ?_
  repeat (first | (refine ldA T2_ok rfl rfl rfl rfl rfl (Bk.all B1) ?_; refine go T2_ok 200 rfl ?_) | (refine ld T2_ok rfl rfl rfl rfl (Bk.get B1 rfl) ?_; refine go T2_ok 200 rfl ?_) | (refine guardA (b := true) rfl rfl rfl rfl (fun _ => ?_) (fun e => by cases e); refine go T2_ok 200 rfl ?_) | (refine guardA (b := false) rfl rfl rfl rfl (fun e => by cases e) (fun _ => ?_); refine go T2_ok 200 rfl ?_) | (refine condT rfl rfl ?_; refine go T2_ok 200 rfl ?_) | (refine condF rfl rfl ?_; refine go T2_ok 200 rfl ?_))
  refine loop [1, 6, 7, 8] (fun j : Nat => [.pointer (some ⟨g1, 0, none⟩), .slice bins.A bins.l.length bins.c, .int .i64 (bins.l.length : Int), .int .i64 (j : Int)])
    (fun j w' => j ≤ bins.l.length ∧ Chg No w0 w' ∧ Bk w' g1 26 (skL p bins be al) ∧ ∀ i s, i < j → bins.l[i]? = some s → BinOk p s.l) (fun j => bins.l.length - j) 0 (fun _ => rfl) rfl ⟨Nat.zero_le _, q, B1, fun i s h => absurd h (Nat.not_lt_zero _)⟩ ?_
  rintro j τ w ⟨hj, q, B1, hm⟩
  have H1 := H.no q
  have hlen := H.len
  refine go T2_ok 200 rfl ?_
  repeat (first | (refine ldA T2_ok rfl rfl rfl rfl rfl (Bk.all B1) ?_; refine go T2_ok 200 rfl ?_) | (refine ld T2_ok rfl rfl rfl rfl (Bk.get B1 rfl) ?_; refine go T2_ok 200 rfl ?_) | (refine guardA (b := true) rfl rfl rfl rfl (fun _ => ?_) (fun e => by cases e); refine go T2_ok 200 rfl ?_) | (refine guardA (b := false) rfl rfl rfl rfl (fun e => by cases e) (fun _ => ?_); refine go T2_ok 200 rfl ?_) | (refine condT rfl rfl ?_; refine go T2_ok 200 rfl ?_) | (refine condF rfl rfl ?_; refine go T2_ok 200 rfl ?_))
  refine condD rfl (fun hlt => ?_) (fun hlt => ?_)
  · have hlt : j < bins.l.length := by omega
    obtain ⟨s, hs⟩ := getS_of hlt
    obtain ⟨b1, o1, hA1, hb1, hc1⟩ := H1.sl.el slL_len hs
    have e3 : w64 ((j : Int) + 1) = ((j + 1 : Nat) : Int) := w64_id (by omega) (by omega)
    have hel := H1.el s (List.mem_of_getElem? hs)
    refine go T2_ok 200 rfl ?_
    rw [hA1]
    refine idx T2_ok rfl rfl rfl rfl rfl j rfl hlt ?_
    refine go T2_ok 200 rfl ?_
    refine ld T2_ok rfl rfl rfl rfl (hc1.get (i := 0) rfl) ?_
    refine go T2_ok 200 rfl ?_
    rw [← hA1]
    refine go T2_ok 200 rfl ?_
    repeat (first | (refine ldA T2_ok rfl rfl rfl rfl rfl (Bk.all B1) ?_; refine go T2_ok 200 rfl ?_) | (refine ld T2_ok rfl rfl rfl rfl (Bk.get B1 rfl) ?_; refine go T2_ok 200 rfl ?_) | (refine guardA (b := true) rfl rfl rfl rfl (fun _ => ?_) (fun e => by cases e); refine go T2_ok 200 rfl ?_) | (refine guardA (b := false) rfl rfl rfl rfl (fun e => by cases e) (fun _ => ?_); refine go T2_ok 200 rfl ?_) | (refine condT rfl rfl ?_; refine go T2_ok 200 rfl ?_) | (refine condF rfl rfl ?_; refine go T2_ok 200 rfl ?_))
    refine call rfl rfl rfl (ok _ (by decide) rfl) (monoF_any s.l 1 1000000 p s.A s.c w.heap.size _ hel.2 hel.1) ?_
    rintro x w ⟨⟨b, rfl, hb⟩, qk⟩
    have B1 := B1.no qk
    have q := q.trans qk
    cases b with
    | false =>
      refine go T2_ok 200 rfl ?_
      repeat (first | (refine ldA T2_ok rfl rfl rfl rfl rfl (Bk.all B1) ?_; refine go T2_ok 200 rfl ?_) | (refine ld T2_ok rfl rfl rfl rfl (Bk.get B1 rfl) ?_; refine go T2_ok 200 rfl ?_) | (refine guardA (b := true) rfl rfl rfl rfl (fun _ => ?_) (fun e => by cases e); refine go T2_ok 200 rfl ?_) | (refine guardA (b := false) rfl rfl rfl rfl (fun e => by cases e) (fun _ => ?_); refine go T2_ok 200 rfl ?_) | (refine condT rfl rfl ?_; refine go T2_ok 200 rfl ?_) | (refine condF rfl rfl ?_; refine go T2_ok 200 rfl ?_))
      exact ret (ret1 (v := .bool false) Try.results77 rfl ⟨⟨false, rfl, by simp; exact fun h => absurd (h.2.2.2.2 s (List.mem_of_getElem? hs)) (fun h => by simp [h.1] at hb)⟩, q⟩)
    | true =>
      refine go T2_ok 200 rfl ?_
      repeat (first | (refine ldA T2_ok rfl rfl rfl rfl rfl (Bk.all B1) ?_; refine go T2_ok 200 rfl ?_) | (refine ld T2_ok rfl rfl rfl rfl (Bk.get B1 rfl) ?_; refine go T2_ok 200 rfl ?_) | (refine guardA (b := true) rfl rfl rfl rfl (fun _ => ?_) (fun e => by cases e); refine go T2_ok 200 rfl ?_) | (refine guardA (b := false) rfl rfl rfl rfl (fun e => by cases e) (fun _ => ?_); refine go T2_ok 200 rfl ?_) | (refine condT rfl rfl ?_; refine go T2_ok 200 rfl ?_) | (refine condF rfl rfl ?_; refine go T2_ok 200 rfl ?_))
      obtain ⟨a, ha⟩ := get_of (l := s.l) (i := 0) (by have := (hb.1 rfl).2.2.1; omega)
      obtain ⟨b2, o2, hA2, hb2, hc2⟩ := (hel.2.no qk).el rwL_len ha
      rw [hA2]
      refine idx T2_ok rfl rfl rfl rfl rfl 0 rfl (by have := (hb.1 rfl).2.2.1; omega) ?_
      refine go T2_ok 200 rfl ?_
      refine ld T2_ok rfl rfl rfl rfl (hc2.get (i := 0) rfl) ?_
      refine go T2_ok 200 rfl ?_
      rw [← hA2]
      by_cases hk : a.k = 1
      case neg =>
        have e1 : (a.k != 1) = true := by simp [hk]
        rw [e1]
        refine go T2_ok 200 rfl ?_
        repeat (first | (refine ldA T2_ok rfl rfl rfl rfl rfl (Bk.all B1) ?_; refine go T2_ok 200 rfl ?_) | (refine ld T2_ok rfl rfl rfl rfl (Bk.get B1 rfl) ?_; refine go T2_ok 200 rfl ?_) | (refine guardA (b := true) rfl rfl rfl rfl (fun _ => ?_) (fun e => by cases e); refine go T2_ok 200 rfl ?_) | (refine guardA (b := false) rfl rfl rfl rfl (fun e => by cases e) (fun _ => ?_); refine go T2_ok 200 rfl ?_) | (refine condT rfl rfl ?_; refine go T2_ok 200 rfl ?_) | (refine condF rfl rfl ?_; refine go T2_ok 200 rfl ?_))
        exact ret (ret1 (v := .bool false) Try.results77 rfl ⟨⟨false, rfl, by simp; exact fun h => absurd (h.2.2.2.2 s (List.mem_of_getElem? hs)) (fun ⟨_, a', ha', h⟩ => by rw [ha] at ha'; cases ha'; exact hk h)⟩, q⟩)
      have e1 : (a.k != 1) = false := by simp [hk]
      rw [e1]
      refine go T2_ok 200 rfl ?_
      repeat (first | (refine ldA T2_ok rfl rfl rfl rfl rfl (Bk.all B1) ?_; refine go T2_ok 200 rfl ?_) | (refine ld T2_ok rfl rfl rfl rfl (Bk.get B1 rfl) ?_; refine go T2_ok 200 rfl ?_) | (refine guardA (b := true) rfl rfl rfl rfl (fun _ => ?_) (fun e => by cases e); refine go T2_ok 200 rfl ?_) | (refine guardA (b := false) rfl rfl rfl rfl (fun e => by cases e) (fun _ => ?_); refine go T2_ok 200 rfl ?_) | (refine condT rfl rfl ?_; refine go T2_ok 200 rfl ?_) | (refine condF rfl rfl ?_; refine go T2_ok 200 rfl ?_))
      rw [e3]
      refine round ⟨j + 1, rfl, ⟨by omega, q, B1, fun i s' hi hs' => ?_⟩, by omega⟩
      rcases Nat.lt_or_ge i j with h' | h'
      · exact hm i s' h' hs'
      · obtain rfl : i = j := by omega
        rw [hs] at hs'; cases hs'
        exact ⟨hb.1 rfl, a, ha, hk⟩
  obtain rfl : j = bins.l.length := by omega
  have hall : ∀ s ∈ bins.l, BinOk p s.l := fun s hs => by
    obtain ⟨i, hi, rfl⟩ := List.getElem_of_mem hs
    exact hm i _ hi (List.getElem?_eq_getElem hi)
  refine go T2_ok 200 rfl ?_
  repeat (first | (refine ldA T2_ok rfl rfl rfl rfl rfl (Bk.all B1) ?_; refine go T2_ok 200 rfl ?_) | (refine ld T2_ok rfl rfl rfl rfl (Bk.get B1 rfl) ?_; refine go T2_ok 200 rfl ?_) | (refine guardA (b := true) rfl rfl rfl rfl (fun _ => ?_) (fun e => by cases e); refine go T2_ok 200 rfl ?_) | (refine guardA (b := false) rfl rfl rfl rfl (fun e => by cases e) (fun _ => ?_); refine go T2_ok 200 rfl ?_) | (refine condT rfl rfl ?_; refine go T2_ok 200 rfl ?_) | (refine condF rfl rfl ?_; refine go T2_ok 200 rfl ?_))
  refine call rfl rfl rfl (ok _ (by decide) rfl) (within_any p 2 1000000 _) ?_
  rintro x w ⟨rfl, rfl⟩
  by_cases h1 : 2 ≤ p ∧ p ≤ 1000000
  case neg =>
    rw [decide_eq_false h1]
    refine go T2_ok 200 rfl ?_
    repeat (first | (refine ldA T2_ok rfl rfl rfl rfl rfl (Bk.all B1) ?_; refine go T2_ok 200 rfl ?_) | (refine ld T2_ok rfl rfl rfl rfl (Bk.get B1 rfl) ?_; refine go T2_ok 200 rfl ?_) | (refine guardA (b := true) rfl rfl rfl rfl (fun _ => ?_) (fun e => by cases e); refine go T2_ok 200 rfl ?_) | (refine guardA (b := false) rfl rfl rfl rfl (fun e => by cases e) (fun _ => ?_); refine go T2_ok 200 rfl ?_) | (refine condT rfl rfl ?_; refine go T2_ok 200 rfl ?_) | (refine condF rfl rfl ?_; refine go T2_ok 200 rfl ?_))
    exact ret (ret1 (v := .bool false) Try.results77 rfl ⟨⟨false, rfl, by simp; exact fun h => absurd h.1 h1⟩, q⟩)
  rw [decide_eq_true h1]
  refine go T2_ok 200 rfl ?_
  repeat (first | (refine ldA T2_ok rfl rfl rfl rfl rfl (Bk.all B1) ?_; refine go T2_ok 200 rfl ?_) | (refine ld T2_ok rfl rfl rfl rfl (Bk.get B1 rfl) ?_; refine go T2_ok 200 rfl ?_) | (refine guardA (b := true) rfl rfl rfl rfl (fun _ => ?_) (fun e => by cases e); refine go T2_ok 200 rfl ?_) | (refine guardA (b := false) rfl rfl rfl rfl (fun e => by cases e) (fun _ => ?_); refine go T2_ok 200 rfl ?_) | (refine condT rfl rfl ?_; refine go T2_ok 200 rfl ?_) | (refine condF rfl rfl ?_; refine go T2_ok 200 rfl ?_))
  refine call rfl rfl rfl (ok _ (by decide) rfl) (within_any (bins.l.length : Int) 1 20 _) ?_
  rintro x w ⟨rfl, rfl⟩
  by_cases h2 : 1 ≤ (bins.l.length : Int) ∧ (bins.l.length : Int) ≤ 20
  case neg =>
    rw [decide_eq_false h2]
    refine go T2_ok 200 rfl ?_
    repeat (first | (refine ldA T2_ok rfl rfl rfl rfl rfl (Bk.all B1) ?_; refine go T2_ok 200 rfl ?_) | (refine ld T2_ok rfl rfl rfl rfl (Bk.get B1 rfl) ?_; refine go T2_ok 200 rfl ?_) | (refine guardA (b := true) rfl rfl rfl rfl (fun _ => ?_) (fun e => by cases e); refine go T2_ok 200 rfl ?_) | (refine guardA (b := false) rfl rfl rfl rfl (fun e => by cases e) (fun _ => ?_); refine go T2_ok 200 rfl ?_) | (refine condT rfl rfl ?_; refine go T2_ok 200 rfl ?_) | (refine condF rfl rfl ?_; refine go T2_ok 200 rfl ?_))
    exact ret (ret1 (v := .bool false) Try.results77 rfl ⟨⟨false, rfl, by simp; exact fun h => absurd h.2.1 h2⟩, q⟩)
  rw [decide_eq_true h2]
  refine go T2_ok 200 rfl ?_
  repeat (first | (refine ldA T2_ok rfl rfl rfl rfl rfl (Bk.all B1) ?_; refine go T2_ok 200 rfl ?_) | (refine ld T2_ok rfl rfl rfl rfl (Bk.get B1 rfl) ?_; refine go T2_ok 200 rfl ?_) | (refine guardA (b := true) rfl rfl rfl rfl (fun _ => ?_) (fun e => by cases e); refine go T2_ok 200 rfl ?_) | (refine guardA (b := false) rfl rfl rfl rfl (fun e => by cases e) (fun _ => ?_); refine go T2_ok 200 rfl ?_) | (refine condT rfl rfl ?_; refine go T2_ok 200 rfl ?_) | (refine condF rfl rfl ?_; refine go T2_ok 200 rfl ?_))
  refine ldA T2_ok rfl rfl rfl rfl rfl (bk_at (ds := spL be) B1 rfl) ?_
  refine go T2_ok 200 rfl ?_
  repeat (first | (refine ldA T2_ok rfl rfl rfl rfl rfl (Bk.all B1) ?_; refine go T2_ok 200 rfl ?_) | (refine ld T2_ok rfl rfl rfl rfl (Bk.get B1 rfl) ?_; refine go T2_ok 200 rfl ?_) | (refine guardA (b := true) rfl rfl rfl rfl (fun _ => ?_) (fun e => by cases e); refine go T2_ok 200 rfl ?_) | (refine guardA (b := false) rfl rfl rfl rfl (fun e => by cases e) (fun _ => ?_); refine go T2_ok 200 rfl ?_) | (refine condT rfl rfl ?_; refine go T2_ok 200 rfl ?_) | (refine condF rfl rfl ?_; refine go T2_ok 200 rfl ?_))
  refine call rfl rfl rfl (ok _ (by decide) rfl) (spanned_any be (-100) 100 _) ?_
  rintro x w ⟨rfl, qk⟩
  have B1 := B1.no qk
  have q := q.trans qk
  by_cases h3 : SpOk be (-100) 100
  case neg =>
    rw [decide_eq_false h3]
    refine go T2_ok 200 rfl ?_
    repeat (first | (refine ldA T2_ok rfl rfl rfl rfl rfl (Bk.all B1) ?_; refine go T2_ok 200 rfl ?_) | (refine ld T2_ok rfl rfl rfl rfl (Bk.get B1 rfl) ?_; refine go T2_ok 200 rfl ?_) | (refine guardA (b := true) rfl rfl rfl rfl (fun _ => ?_) (fun e => by cases e); refine go T2_ok 200 rfl ?_) | (refine guardA (b := false) rfl rfl rfl rfl (fun e => by cases e) (fun _ => ?_); refine go T2_ok 200 rfl ?_) | (refine condT rfl rfl ?_; refine go T2_ok 200 rfl ?_) | (refine condF rfl rfl ?_; refine go T2_ok 200 rfl ?_))
    exact ret (ret1 (v := .bool false) Try.results77 rfl ⟨⟨false, rfl, by simp; exact fun h => absurd h.2.2.1 h3⟩, q⟩)
  rw [decide_eq_true h3]
  refine go T2_ok 200 rfl ?_
  repeat (first | (refine ldA T2_ok rfl rfl rfl rfl rfl (Bk.all B1) ?_; refine go T2_ok 200 rfl ?_) | (refine ld T2_ok rfl rfl rfl rfl (Bk.get B1 rfl) ?_; refine go T2_ok 200 rfl ?_) | (refine guardA (b := true) rfl rfl rfl rfl (fun _ => ?_) (fun e => by cases e); refine go T2_ok 200 rfl ?_) | (refine guardA (b := false) rfl rfl rfl rfl (fun e => by cases e) (fun _ => ?_); refine go T2_ok 200 rfl ?_) | (refine condT rfl rfl ?_; refine go T2_ok 200 rfl ?_) | (refine condF rfl rfl ?_; refine go T2_ok 200 rfl ?_))
  refine ldA T2_ok rfl rfl rfl rfl rfl (bk_at (ds := spL al) B1 rfl) ?_
  refine go T2_ok 200 rfl ?_
  repeat (first | (refine ldA T2_ok rfl rfl rfl rfl rfl (Bk.all B1) ?_; refine go T2_ok 200 rfl ?_) | (refine ld T2_ok rfl rfl rfl rfl (Bk.get B1 rfl) ?_; refine go T2_ok 200 rfl ?_) | (refine guardA (b := true) rfl rfl rfl rfl (fun _ => ?_) (fun e => by cases e); refine go T2_ok 200 rfl ?_) | (refine guardA (b := false) rfl rfl rfl rfl (fun e => by cases e) (fun _ => ?_); refine go T2_ok 200 rfl ?_) | (refine condT rfl rfl ?_; refine go T2_ok 200 rfl ?_) | (refine condF rfl rfl ?_; refine go T2_ok 200 rfl ?_))
  refine call rfl rfl rfl (ok _ (by decide) rfl) (spanned_any al (-100) 100 _) ?_
  rintro x w ⟨rfl, qk⟩
  have B1 := B1.no qk
  have q := q.trans qk
  refine go T2_ok 200 rfl ?_
  repeat (first | (refine ldA T2_ok rfl rfl rfl rfl rfl (Bk.all B1) ?_; refine go T2_ok 200 rfl ?_) | (refine ld T2_ok rfl rfl rfl rfl (Bk.get B1 rfl) ?_; refine go T2_ok 200 rfl ?_) | (refine guardA (b := true) rfl rfl rfl rfl (fun _ => ?_) (fun e => by cases e); refine go T2_ok 200 rfl ?_) | (refine guardA (b := false) rfl rfl rfl rfl (fun e => by cases e) (fun _ => ?_); refine go T2_ok 200 rfl ?_) | (refine condT rfl rfl ?_; refine go T2_ok 200 rfl ?_) | (refine condF rfl rfl ?_; refine go T2_ok 200 rfl ?_))
  refine ret (ret1 (v := .bool _) Try.results77 rfl ⟨⟨_, rfl, ?_⟩, q⟩)
  rw [decide_eq_true_iff]
  exact ⟨fun h4 => ⟨h1, h2, h3, h4, hall⟩, fun h => h.2.2.2.1⟩
end Go.Proofs.Ytolhfimknimliaa
