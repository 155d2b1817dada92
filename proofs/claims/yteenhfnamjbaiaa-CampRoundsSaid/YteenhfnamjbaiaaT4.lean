/- The contracts of tours in the specification; of the slack of an order there. -/
import Derived.Test.YteenhfnamjbaiaaT3
namespace Go.Proofs.Yteenhfnamjbaiaa
open Go.Ev Go.Proofs
open Go.Camp (Cl wayT stopT TrOk begT okT leaveT endT begs)
attribute [local irreducible] At AtH
set_option maxRecDepth 20000 in
set_option maxHeartbeats 8000000 in
theorem rTour_any (m : Tm) (B : Nat) (w0 : World) (H : TrM w0 B m) : Ret Try.prog 32 [.agg (tmL m).toArray] w0 fun v w' => (∃ b, v = .bool b ∧ (b = true ↔ TrOk (trP m))) ∧ Chg No w0 w' := by
 have hlw := H.lw
 have hls := H.ls
 refine enter Try.func32 rfl Try.ntmps32 rfl ?_
 refine go TL_ok 200 rfl ?_
 refine bx rfl rfl rfl (cs := tmL m) rfl ?_
 intro g1 u1 hg1 hs1 q1 B1
 have q := q1
 refine go TL_ok 200 rfl ?_
 repeat ((first | refine ldA TL_ok rfl rfl rfl rfl rfl (Bk.all B1) ?_ | refine ld TL_ok rfl rfl rfl rfl (Bk.get B1 rfl) ?_ | refine gT rfl rfl rfl rfl ?_ | refine gF rfl rfl rfl rfl ?_ | refine condT rfl rfl ?_ | refine condF rfl rfl ?_); refine go TL_ok 200 rfl ?_)
 refine call rfl rfl rfl (ok _ (by decide) rfl) (rIn_any (m.S.l.length : Int) 1 8 _) ?_
 rintro x w ⟨rfl, rfl⟩
 by_cases h1 : (1 : Int) ≤ (m.S.l.length : Int) ∧ (m.S.l.length : Int) ≤ 8
 case neg =>
  rw [decide_eq_false h1]
  refine go TL_ok 200 rfl ?_
  repeat ((first | refine ldA TL_ok rfl rfl rfl rfl rfl (Bk.all B1) ?_ | refine ld TL_ok rfl rfl rfl rfl (Bk.get B1 rfl) ?_ | refine gT rfl rfl rfl rfl ?_ | refine gF rfl rfl rfl rfl ?_ | refine condT rfl rfl ?_ | refine condF rfl rfl ?_); refine go TL_ok 200 rfl ?_)
  exact ret (ret1 (v := .bool false) Try.results32 rfl ⟨⟨false, rfl, by simp; exact fun h => h1 ⟨by have := h.n1; simp only [trP] at this; omega, by have := h.n8; simp only [trP] at this; omega⟩⟩, q⟩)
 rw [decide_eq_true h1]
 refine go TL_ok 200 rfl ?_
 repeat ((first | refine ldA TL_ok rfl rfl rfl rfl rfl (Bk.all B1) ?_ | refine ld TL_ok rfl rfl rfl rfl (Bk.get B1 rfl) ?_ | refine gT rfl rfl rfl rfl ?_ | refine gF rfl rfl rfl rfl ?_ | refine condT rfl rfl ?_ | refine condF rfl rfl ?_); refine go TL_ok 200 rfl ?_)
 rw [w64_id (x := (m.S.l.length : Int) + 1) (by omega) (by omega)]
 by_cases h2 : m.W.l.length = m.S.l.length + 1
 case neg =>
  have e : ((m.W.l.length : Int) != (m.S.l.length : Int) + 1) = true := bne_iff_ne.2 (by omega)
  rw [e]
  refine go TL_ok 200 rfl ?_
  repeat ((first | refine ldA TL_ok rfl rfl rfl rfl rfl (Bk.all B1) ?_ | refine ld TL_ok rfl rfl rfl rfl (Bk.get B1 rfl) ?_ | refine gT rfl rfl rfl rfl ?_ | refine gF rfl rfl rfl rfl ?_ | refine condT rfl rfl ?_ | refine condF rfl rfl ?_); refine go TL_ok 200 rfl ?_)
  exact ret (ret1 (v := .bool false) Try.results32 rfl ⟨⟨false, rfl, by simp; exact fun h => h2 (by have := h.w; simpa [trP] using this)⟩, q⟩)
 have e : ((m.W.l.length : Int) != (m.S.l.length : Int) + 1) = false := bne_eq_false_iff_eq.2 (by omega)
 rw [e]
 refine go TL_ok 200 rfl ?_
 repeat ((first | refine ldA TL_ok rfl rfl rfl rfl rfl (Bk.all B1) ?_ | refine ld TL_ok rfl rfl rfl rfl (Bk.get B1 rfl) ?_ | refine gT rfl rfl rfl rfl ?_ | refine gF rfl rfl rfl rfl ?_ | refine condT rfl rfl ?_ | refine condF rfl rfl ?_); refine go TL_ok 200 rfl ?_)
 refine loop [1, 3, 4] (fun i : Nat => [.pointer (some ⟨g1, 0, none⟩), .int .i64 (m.S.l.length : Int), .int .i64 (i : Int)])
  (fun i w' => i ≤ m.S.l.length + 1 ∧ Chg No w0 w' ∧ Bk w' g1 56 (tmL m) ∧ ∀ (k : Nat) s, k < i → m.W.l[k]? = some s → s.l.length = m.S.l.length + 1 ∧ ∀ x ∈ s.l, 0 ≤ x ∧ x ≤ 1000000) (fun i => m.S.l.length + 1 - i) 0 (fun _ => rfl) rfl ⟨Nat.zero_le _, q, B1, fun k s h => absurd h (Nat.not_lt_zero _)⟩ ?_
 rintro i τ w ⟨hi, q, B1, hm⟩
 refine go TL_ok 200 rfl ?_
 refine condD rfl (fun hlt => ?_) (fun hlt => ?_)
 ·have hlt : i < m.S.l.length + 1 := by have : (i : Int) ≤ (m.S.l.length : Int) := hlt; omega
  obtain ⟨s, hs⟩ := getA_of (l := m.W.l) (i := i) (by omega)
  have H1 := H.no q
  have hsm := List.mem_of_getElem? hs
  have hs63 := (H1.w2 s hsm).2
  obtain ⟨b1, o1, hA1, hb1, hc1⟩ := Sl.el H1.w1 slI_len hs
  have hws : s.l ∈ (trP m).ways := List.mem_map.2 ⟨s, hsm, rfl⟩
  refine go TL_ok 200 rfl ?_
  repeat ((first | refine ldA TL_ok rfl rfl rfl rfl rfl (Bk.all B1) ?_ | refine ld TL_ok rfl rfl rfl rfl (Bk.get B1 rfl) ?_ | refine gT rfl rfl rfl rfl ?_ | refine gF rfl rfl rfl rfl ?_ | refine condT rfl rfl ?_ | refine condF rfl rfl ?_); refine go TL_ok 200 rfl ?_)
  rw [hA1]
  refine idx TL_ok rfl rfl rfl rfl rfl i rfl (by omega) ?_
  refine go TL_ok 200 rfl ?_
  refine ld TL_ok rfl rfl rfl rfl (hc1.get (i := 0) rfl) ?_
  refine go TL_ok 200 rfl ?_
  rw [← hA1, w64_id (x := (m.S.l.length : Int) + 1) (by omega) (by omega)]
  by_cases h3 : s.l.length = m.S.l.length + 1
  case neg =>
   have e : ((s.l.length : Int) != (m.S.l.length : Int) + 1) = true := bne_iff_ne.2 (by omega)
   rw [e]
   refine go TL_ok 200 rfl ?_
   repeat ((first | refine ldA TL_ok rfl rfl rfl rfl rfl (Bk.all B1) ?_ | refine ld TL_ok rfl rfl rfl rfl (Bk.get B1 rfl) ?_ | refine gT rfl rfl rfl rfl ?_ | refine gF rfl rfl rfl rfl ?_ | refine condT rfl rfl ?_ | refine condF rfl rfl ?_); refine go TL_ok 200 rfl ?_)
   exact ret (ret1 (v := .bool false) Try.results32 rfl ⟨⟨false, rfl, by simp; exact fun h => h3 (h.r s.l hws).1⟩, q⟩)
  have e : ((s.l.length : Int) != (m.S.l.length : Int) + 1) = false := bne_eq_false_iff_eq.2 (by omega)
  rw [e]
  refine go TL_ok 200 rfl ?_
  repeat ((first | refine ldA TL_ok rfl rfl rfl rfl rfl (Bk.all B1) ?_ | refine ld TL_ok rfl rfl rfl rfl (Bk.get B1 rfl) ?_ | refine gT rfl rfl rfl rfl ?_ | refine gF rfl rfl rfl rfl ?_ | refine condT rfl rfl ?_ | refine condF rfl rfl ?_); refine go TL_ok 200 rfl ?_)
  refine loop [1, 3, 4, 5] (fun j : Nat => [.pointer (some ⟨g1, 0, none⟩), .int .i64 (m.S.l.length : Int), .int .i64 (i : Int), .int .i64 (j : Int)])
   (fun j w' => j ≤ m.S.l.length + 1 ∧ w' = w ∧ ∀ (k : Nat) x, k < j → s.l[k]? = some x → 0 ≤ x ∧ x ≤ 1000000) (fun j => m.S.l.length + 1 - j) 0 (fun _ => rfl) rfl ⟨Nat.zero_le _, rfl, fun k x h => absurd h (Nat.not_lt_zero _)⟩ ?_
  rintro j τ w2 ⟨hj, rfl, hm2⟩
  refine go TL_ok 200 rfl ?_
  refine condD rfl (fun hlt2 => ?_) (fun hlt2 => ?_)
  ·have hlt2 : j < m.S.l.length + 1 := by have : (j : Int) ≤ (m.S.l.length : Int) := hlt2; omega
   obtain ⟨x, hx⟩ := getA_of (l := s.l) (i := j) (by omega)
   obtain ⟨b2, o2, hA2, hb2, hc2⟩ := (H1.w2 s hsm).1.elI hx
   refine go TL_ok 200 rfl ?_
   repeat ((first | refine ldA TL_ok rfl rfl rfl rfl rfl (Bk.all B1) ?_ | refine ld TL_ok rfl rfl rfl rfl (Bk.get B1 rfl) ?_ | refine gT rfl rfl rfl rfl ?_ | refine gF rfl rfl rfl rfl ?_ | refine condT rfl rfl ?_ | refine condF rfl rfl ?_); refine go TL_ok 200 rfl ?_)
   rw [hA1]
   refine idx TL_ok rfl rfl rfl rfl rfl i rfl (by omega) ?_
   refine go TL_ok 200 rfl ?_
   refine ld TL_ok rfl rfl rfl rfl (hc1.get (i := 0) rfl) ?_
   refine go TL_ok 200 rfl ?_
   rw [← hA1, hA2]
   refine idx TL_ok rfl rfl rfl rfl rfl j rfl (by omega) ?_
   refine go TL_ok 200 rfl ?_
   refine ld TL_ok rfl rfl rfl rfl (hc2) ?_
   refine go TL_ok 200 rfl ?_
   rw [← hA2]
   refine call rfl rfl rfl (ok _ (by decide) rfl) (rIn_any x 0 1000000 _) ?_
   rintro v w3 ⟨rfl, rfl⟩
   by_cases h4 : 0 ≤ x ∧ x ≤ 1000000
   case neg =>
    rw [decide_eq_false h4]
    refine go TL_ok 200 rfl ?_
    repeat ((first | refine ldA TL_ok rfl rfl rfl rfl rfl (Bk.all B1) ?_ | refine ld TL_ok rfl rfl rfl rfl (Bk.get B1 rfl) ?_ | refine gT rfl rfl rfl rfl ?_ | refine gF rfl rfl rfl rfl ?_ | refine condT rfl rfl ?_ | refine condF rfl rfl ?_); refine go TL_ok 200 rfl ?_)
    exact ret (ret1 (v := .bool false) Try.results32 rfl ⟨⟨false, rfl, by simp; exact fun h => h4 ((h.r s.l hws).2 x (List.mem_of_getElem? hx))⟩, q⟩)
   rw [decide_eq_true h4]
   refine go TL_ok 200 rfl ?_
   repeat ((first | refine ldA TL_ok rfl rfl rfl rfl rfl (Bk.all B1) ?_ | refine ld TL_ok rfl rfl rfl rfl (Bk.get B1 rfl) ?_ | refine gT rfl rfl rfl rfl ?_ | refine gF rfl rfl rfl rfl ?_ | refine condT rfl rfl ?_ | refine condF rfl rfl ?_); refine go TL_ok 200 rfl ?_)
   rw [w64_id (x := (j : Int) + 1) (by omega) (by omega)]
   refine round ⟨j + 1, rfl, ⟨by omega, rfl, fun k y hk hy => ?_⟩, by omega⟩
   rcases Nat.lt_or_ge k j with h' | h'
   ·exact hm2 k y h' hy
   ·obtain rfl : k = j := by omega
    rw [hx] at hy; cases hy
    exact h4
  ·have hj2 : j = m.S.l.length + 1 := by have : ¬ (j : Int) ≤ (m.S.l.length : Int) := hlt2; omega
   refine go TL_ok 200 rfl ?_
   rw [w64_id (x := (i : Int) + 1) (by omega) (by omega)]
   refine round ⟨i + 1, rfl, ⟨by omega, q, B1, fun k s' hk hs' => ?_⟩, by omega⟩
   rcases Nat.lt_or_ge k i with h' | h'
   ·exact hm k s' h' hs'
   ·obtain rfl : k = i := by omega
    rw [hs] at hs'; cases hs'
    refine ⟨h3, fun x hx => ?_⟩
    obtain ⟨k2, hk2⟩ := List.getElem?_of_mem hx
    exact hm2 k2 x (by have := (List.getElem?_eq_some_iff.1 hk2).1; omega) hk2
 have hi2 : i = m.S.l.length + 1 := by have : ¬ (i : Int) ≤ (m.S.l.length : Int) := hlt; omega
 have hways : ∀ l ∈ (trP m).ways, l.length = (trP m).stops.length + 1 ∧ ∀ x ∈ l, 0 ≤ x ∧ x ≤ 1000000 := fun l hl => by
  obtain ⟨s, hs, rfl⟩ := List.mem_map.1 hl
  obtain ⟨k, hk⟩ := List.getElem?_of_mem hs
  exact hm k s (by have := (List.getElem?_eq_some_iff.1 hk).1; omega) hk
 clear hm hlt hi hi2
 refine go TL_ok 200 rfl ?_
 refine loop [1, 3, 6] (fun i : Nat => [.pointer (some ⟨g1, 0, none⟩), .int .i64 (m.S.l.length : Int), .int .i64 (i : Int)])
  (fun i w' => i ≤ m.S.l.length ∧ Chg No w0 w' ∧ Bk w' g1 56 (tmL m) ∧ ∀ (k : Nat) c, k < i → m.S.l[k]? = some c → (0 ≤ c.opn ∧ c.opn ≤ c.due) ∧ c.due ≤ 1000000 ∧ 0 ≤ c.work ∧ c.work ≤ 1000000) (fun i => m.S.l.length - i) 0 (fun _ => rfl) rfl ⟨Nat.zero_le _, q, B1, fun k s h => absurd h (Nat.not_lt_zero _)⟩ ?_
 rintro i τ w ⟨hi, q, B1, hm⟩
 refine go TL_ok 200 rfl ?_
 refine condD rfl (fun hlt => ?_) (fun hlt => ?_)
 ·have hlt : i < m.S.l.length := by omega
  obtain ⟨c, hc⟩ := getA_of hlt
  have hcm := List.mem_of_getElem? hc
  obtain ⟨b1, o1, hA1, hb1, hc1⟩ := Sl.el (H.no q).s clL_len hc
  refine go TL_ok 200 rfl ?_
  repeat ((first | refine ldA TL_ok rfl rfl rfl rfl rfl (Bk.all B1) ?_ | refine ld TL_ok rfl rfl rfl rfl (Bk.get B1 rfl) ?_ | refine gT rfl rfl rfl rfl ?_ | refine gF rfl rfl rfl rfl ?_ | refine condT rfl rfl ?_ | refine condF rfl rfl ?_); refine go TL_ok 200 rfl ?_)
  rw [hA1]
  refine idx TL_ok rfl rfl rfl rfl rfl i rfl hlt ?_
  refine go TL_ok 200 rfl ?_
  refine ldA TL_ok rfl rfl rfl rfl rfl hc1 ?_
  rw [← hA1]
  refine go TL_ok 200 rfl ?_
  have yB1 := B1.lt
  have yq := q.size
  refine nw rfl rfl (z := .agg #[I 0, I 0, I 0]) (by kernel_rfl) (cs := [I 0, I 0, I 0]) rfl ?_
  intro g7 w hg7 hs7 qk B7
  have B1 := B1.no qk
  have q := q.trans qk
  refine go TL_ok 200 rfl ?_
  refine stA TL_ok rfl rfl rfl rfl (vs := clL c) rfl rfl rfl B7 rfl ?_
  intro w qk B7 hz7
  have B7 : Bk w g7 148 (clL c) := B7
  have B1 := Bk.keep B1 qk (by omega)
  have q := q.step qk (fun k hk e => by omega)
  refine go TL_ok 200 rfl ?_
  repeat ((first | refine ldA TL_ok rfl rfl rfl rfl rfl (Bk.all B7) ?_ | refine ld TL_ok rfl rfl rfl rfl (Bk.get B7 rfl) ?_ | refine gT rfl rfl rfl rfl ?_ | refine gF rfl rfl rfl rfl ?_ | refine condT rfl rfl ?_ | refine condF rfl rfl ?_); refine go TL_ok 200 rfl ?_)
  by_cases g1' : c.opn < 0
  case pos =>
   rw [decide_eq_true g1']
   refine go TL_ok 200 rfl ?_
   repeat ((first | refine ldA TL_ok rfl rfl rfl rfl rfl (Bk.all B7) ?_ | refine ld TL_ok rfl rfl rfl rfl (Bk.get B7 rfl) ?_ | refine gT rfl rfl rfl rfl ?_ | refine gF rfl rfl rfl rfl ?_ | refine condT rfl rfl ?_ | refine condF rfl rfl ?_); refine go TL_ok 200 rfl ?_)
   exact ret (ret1 (v := .bool false) Try.results32 rfl ⟨⟨false, rfl, by simp; exact fun h => (by have := h.s c hcm; omega)⟩, q⟩)
  rw [decide_eq_false g1']
  refine go TL_ok 200 rfl ?_
  repeat ((first | refine ldA TL_ok rfl rfl rfl rfl rfl (Bk.all B7) ?_ | refine ld TL_ok rfl rfl rfl rfl (Bk.get B7 rfl) ?_ | refine gT rfl rfl rfl rfl ?_ | refine gF rfl rfl rfl rfl ?_ | refine condT rfl rfl ?_ | refine condF rfl rfl ?_); refine go TL_ok 200 rfl ?_)
  by_cases g2' : c.due < c.opn
  case pos =>
   rw [decide_eq_true g2']
   refine go TL_ok 200 rfl ?_
   repeat ((first | refine ldA TL_ok rfl rfl rfl rfl rfl (Bk.all B7) ?_ | refine ld TL_ok rfl rfl rfl rfl (Bk.get B7 rfl) ?_ | refine gT rfl rfl rfl rfl ?_ | refine gF rfl rfl rfl rfl ?_ | refine condT rfl rfl ?_ | refine condF rfl rfl ?_); refine go TL_ok 200 rfl ?_)
   exact ret (ret1 (v := .bool false) Try.results32 rfl ⟨⟨false, rfl, by simp; exact fun h => (by have := h.s c hcm; omega)⟩, q⟩)
  rw [decide_eq_false g2']
  refine go TL_ok 200 rfl ?_
  repeat ((first | refine ldA TL_ok rfl rfl rfl rfl rfl (Bk.all B7) ?_ | refine ld TL_ok rfl rfl rfl rfl (Bk.get B7 rfl) ?_ | refine gT rfl rfl rfl rfl ?_ | refine gF rfl rfl rfl rfl ?_ | refine condT rfl rfl ?_ | refine condF rfl rfl ?_); refine go TL_ok 200 rfl ?_)
  by_cases g3' : 1000000 < c.due
  case pos =>
   rw [decide_eq_true g3']
   refine go TL_ok 200 rfl ?_
   repeat ((first | refine ldA TL_ok rfl rfl rfl rfl rfl (Bk.all B7) ?_ | refine ld TL_ok rfl rfl rfl rfl (Bk.get B7 rfl) ?_ | refine gT rfl rfl rfl rfl ?_ | refine gF rfl rfl rfl rfl ?_ | refine condT rfl rfl ?_ | refine condF rfl rfl ?_); refine go TL_ok 200 rfl ?_)
   exact ret (ret1 (v := .bool false) Try.results32 rfl ⟨⟨false, rfl, by simp; exact fun h => (by have := h.s c hcm; omega)⟩, q⟩)
  rw [decide_eq_false g3']
  refine go TL_ok 200 rfl ?_
  repeat ((first | refine ldA TL_ok rfl rfl rfl rfl rfl (Bk.all B7) ?_ | refine ld TL_ok rfl rfl rfl rfl (Bk.get B7 rfl) ?_ | refine gT rfl rfl rfl rfl ?_ | refine gF rfl rfl rfl rfl ?_ | refine condT rfl rfl ?_ | refine condF rfl rfl ?_); refine go TL_ok 200 rfl ?_)
  refine call rfl rfl rfl (ok _ (by decide) rfl) (rIn_any c.work 0 1000000 _) ?_
  rintro v w3 ⟨rfl, rfl⟩
  by_cases g4' : 0 ≤ c.work ∧ c.work ≤ 1000000
  case neg =>
   rw [decide_eq_false g4']
   refine go TL_ok 200 rfl ?_
   repeat ((first | refine ldA TL_ok rfl rfl rfl rfl rfl (Bk.all B7) ?_ | refine ld TL_ok rfl rfl rfl rfl (Bk.get B7 rfl) ?_ | refine gT rfl rfl rfl rfl ?_ | refine gF rfl rfl rfl rfl ?_ | refine condT rfl rfl ?_ | refine condF rfl rfl ?_); refine go TL_ok 200 rfl ?_)
   exact ret (ret1 (v := .bool false) Try.results32 rfl ⟨⟨false, rfl, by simp; exact fun h => g4' (h.s c hcm).2.2⟩, q⟩)
  rw [decide_eq_true g4']
  refine go TL_ok 200 rfl ?_
  repeat ((first | refine ldA TL_ok rfl rfl rfl rfl rfl (Bk.all B7) ?_ | refine ld TL_ok rfl rfl rfl rfl (Bk.get B7 rfl) ?_ | refine gT rfl rfl rfl rfl ?_ | refine gF rfl rfl rfl rfl ?_ | refine condT rfl rfl ?_ | refine condF rfl rfl ?_); refine go TL_ok 200 rfl ?_)
  rw [w64_id (x := (i : Int) + 1) (by omega) (by omega)]
  refine round ⟨i + 1, rfl, ⟨by omega, q, B1, fun k c' hk hc' => ?_⟩, by omega⟩
  rcases Nat.lt_or_ge k i with h' | h'
  ·exact hm k c' h' hc'
  ·obtain rfl : k = i := by omega
   rw [hc] at hc'; cases hc'
   exact ⟨⟨by omega, by omega⟩, by omega, g4'⟩
 ·obtain rfl : i = m.S.l.length := by omega
  have hwW : (trP m).ways.length = (trP m).stops.length + 1 := by
   have e1 : ((trP m).ways).length = m.W.l.length := by simp [trP]
   have e2 : (trP m).stops.length = m.S.l.length := rfl
   omega
  have hstp : ∀ c ∈ (trP m).stops, (0 ≤ c.opn ∧ c.opn ≤ c.due) ∧ c.due ≤ 1000000 ∧ 0 ≤ c.work ∧ c.work ≤ 1000000 := fun c hc => by
   obtain ⟨k, hk⟩ := List.getElem?_of_mem hc
   exact hm k c (List.getElem?_eq_some_iff.1 hk).1 hk
  refine go TL_ok 200 rfl ?_
  exact ret (ret1 (v := .bool true) Try.results32 rfl ⟨⟨true, rfl, by simp; exact ⟨by show 1 ≤ m.S.l.length; omega, by show m.S.l.length ≤ 8; omega, hwW, hways, hstp⟩⟩, q⟩)
/-- when one must begin at the first of some stops at the latest -/
def latT (t : Go.Camp.Tr) : List Nat → Int
 | [] => 0
 | [i] => (stopT t i).due
 | i :: j :: l => min (stopT t i).due (latT t (j :: l) - wayT t (i + 1) (j + 1) - (stopT t i).work)
theorem lat_bd {m : Tm} (h : TrOk (trP m)) : ∀ l : List Nat, (∀ i ∈ l, i < m.S.l.length) → -2000000 * (l.length : Int) ≤ latT (trP m) l ∧ latT (trP m) l ≤ 1000000 := by
 intro l
 induction l with
 | nil => intro _; simp [latT]
 | cons i l ih =>
  intro hi
  have h1 := (stop_at h (hi i (by simp))).2
  obtain ⟨⟨k1, k2⟩, k3, k4, k5⟩ := h1
  cases l with
  | nil => simp only [latT, List.length_cons, List.length_nil]; omega
  | cons j l =>
   have h2 := ih fun x hx => hi x (by simp [hx])
   obtain ⟨_, _, _, _, w1, w2⟩ := way_at h (show i + 1 ≤ m.S.l.length by have := hi i (by simp); omega) (show j + 1 ≤ m.S.l.length by have := hi j (by simp); omega)
   simp only [latT, List.length_cons] at h2 ⊢
   omega
theorem lat_step (t : Go.Camp.Tr) {k : List Nat} {a i : Nat} (hi : k[a]? = some i) : latT t (k.drop a) = if a + 1 = k.length then (stopT t i).due else min (stopT t i).due (latT t (k.drop (a + 1)) - wayT t (i + 1) (k.getD (a + 1) 0 + 1) - (stopT t i).work) := by
 have hl := (List.getElem?_eq_some_iff.1 hi).1
 rw [drop_at hi]
 split
 ·rename_i h
  rw [List.drop_eq_nil_of_le (by omega)]
  rfl
 ·rename_i h
  have hj : k[a + 1]? = some (k.getD (a + 1) 0) := getD_at (by omega)
  rw [drop_at hj]
  rfl
end Go.Proofs.Yteenhfnamjbaiaa
