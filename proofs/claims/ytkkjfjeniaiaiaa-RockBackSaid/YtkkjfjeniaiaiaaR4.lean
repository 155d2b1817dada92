/- The contracts of the specification of layer 6: Dense, Opacity, Horizon, Same, SameChords. -/
import Derived.Test.YtkkjfjeniaiaiaaR3
namespace Go.Proofs.Ytkkjfjeniaiaiaa
open Go.Ev Go.Proofs Go.Rock
attribute [local irreducible] At AtH

theorem Dense_any (v : Vo) (g : List Int) (A : Option Addr) (c B : Nat) (w : World) (hv : VoOk v) (hL : g.length ≤ maxLen) (hS : Sl w B 1 A g.length (iL g)) :
    Ret Try.prog 27 [.agg (vL v).toArray, .slice A g.length c] w fun x w' => x = .bool (decide (DlOk v g)) ∧ Chg No w w' := by
  have hL := len63 hL
  refine enter Try.func27 rfl Try.ntmps27 rfl ?_
  refine go T_ok 200 rfl ?_
  refine bx rfl rfl rfl (cs := vL v) rfl ?_
  intro g1 u1 hg1 hs1 q1 B1
  refine go T_ok 200 rfl ?_
  refine loop [1, 2, 5] (fun j : Nat => [.slice A g.length c, .pointer (some ⟨g1, 0, none⟩), .int .i64 (j : Int)])
    (fun j w' => j ≤ g.length ∧ Chg No u1 w' ∧ ∀ h ∈ g.take j, 0 ≤ h ∧ h ≤ 10000) (fun j => g.length - j) 0 (fun _ => rfl) rfl ⟨by omega, Chg.refl _ _, fun a h => by simp at h⟩ ?_
  rintro j τ w1 ⟨hj, q2, hI⟩
  have B2 := B1.no q2
  have S2 := (hS.no q1).no q2
  refine go T_ok 200 rfl ?_
  refine condD rfl (fun hlt => ?_) (fun hlt => ?_)
  · have hlt : j < g.length := by omega
    obtain ⟨a, ha⟩ : ∃ a, g[j]? = some a := ⟨_, List.getElem?_eq_getElem hlt⟩
    obtain ⟨b, o, rfl, hb, hc⟩ := S2.elI ha
    refine go T_ok 200 rfl ?_
    refine idx T_ok rfl rfl rfl rfl rfl j rfl hlt ?_
    refine go T_ok 200 rfl ?_
    refine ld T_ok rfl rfl rfl rfl (hc) ?_
    refine go T_ok 200 rfl ?_
    refine call rfl rfl rfl (ok _ (by decide) rfl) (rin_any _ _ _ _) ?_
    rintro x w' ⟨rfl, rfl⟩
    refine go T_ok 200 rfl ?_
    refine cond rfl (fun h => ?_) (fun h => ?_)
    · have h := ndT h
      refine go T_ok 200 rfl ?_
      exact ret (ret1 (v := .bool false) Try.results27 rfl ⟨congrArg Value.bool (decide_eq_false fun hr => h (hr.1 a (List.mem_of_getElem? ha))).symm, q1.trans q2⟩)
    · have h := ndF h
      refine go T_ok 200 rfl ?_
      have e3 : w64 ((j : Int) + 1) = ((j + 1 : Nat) : Int) := w64_id (by omega) (by omega)
      rw [e3]
      refine round ⟨j + 1, rfl, ⟨by omega, q2, fun b hb => ?_⟩, by omega⟩
      rw [take_snoc ha, List.mem_append, List.mem_singleton] at hb
      rcases hb with hb | rfl
      · exact hI b hb
      · exact h
  · have hj3 : j = g.length := by omega
    subst hj3
    rw [List.take_length] at hI
    refine go T_ok 200 rfl ?_
    refine ldA T_ok rfl rfl rfl rfl rfl B2.all ?_
    refine go T_ok 200 rfl ?_
    refine call rfl rfl rfl (ok _ (by decide) rfl) (Cells_any v _ hv) ?_
    rintro x w3 ⟨rfl, q3⟩
    refine go T_ok 200 rfl ?_
    refine ret (ret1 (v := .bool _) Try.results27 rfl ⟨?_, q1.trans (q2.trans q3)⟩)
    congr 1
    rw [Bool.eq_iff_iff, decide_eq_true_iff]
    unfold DlOk
    exact ⟨fun h => ⟨hI, by simpa using h⟩, fun h => by simpa using h.2⟩
set_option maxHeartbeats 4000000 in
theorem rOpacity_any (v : Vo) (r : Ra) (g l : List Int) (A A2 : Option Addr) (c c2 B B2 : Nat) (w : World) (hv : VoOk v) (hr : RaOk r) (hg : GrOk v g) (hS : Sl w B 1 A g.length (iL g)) (hl : DlOk v l) (hS2 : Sl w B2 1 A2 l.length (iL l)) :
    Ret Try.prog 28 [.agg (vL v).toArray, .slice A g.length c, .slice A2 l.length c2, .agg (rL r).toArray] w fun x w' => x = .int .i64 (opS v r g (dnl l)) ∧ Chg No w w' := by
  refine enter Try.func28 rfl Try.ntmps28 rfl ?_
  refine go T_ok 200 rfl ?_
  refine bx rfl rfl rfl (cs := vL v) rfl ?_
  intro g1 u1 hg1 hs1 q1 B1
  refine go T_ok 200 rfl ?_
  refine bx rfl rfl rfl (cs := rL r) rfl ?_
  intro g2 u2 hg2 hs2 q2 B2
  have B1 := B1.no q2
  have q12 := q1.trans q2
  refine go T_ok 200 rfl ?_
  refine ldA T_ok rfl rfl rfl rfl rfl B1.all ?_
  refine go T_ok 200 rfl ?_
  refine ldA T_ok rfl rfl rfl rfl rfl B2.all ?_
  refine go T_ok 200 rfl ?_
  refine call rfl rfl rfl (ok _ (by decide) rfl) (rUnder_any v r g A c B _ hv hr hg (hS.no q12)) ?_
  rintro x w1 ⟨A1, c1, rfl, o1, p1⟩
  have S1 := own_sl o1
  have hopS : opS v r g (dnl l) = sumF (dnl l) (cutS (und v r g) (pcs v r)) := rfl
  have hmem : ∀ p ∈ cutS (und v r g) (pcs v r), PcR v p ∧ p.a < p.u := fun p hp => by
    have := mem_cut hv hr (shr_und v r g) hp
    exact ⟨this.1, this.2.1⟩
  have hlen := cut_len r (und v r g) hv
  have q0 := q12.trans p1
  have hS3 := hS2.no q0
  rw [hopS]
  generalize cutS (und v r g) (pcs v r) = L at S1 hmem hlen ⊢
  refine go T_ok 200 rfl ?_
  refine loop [2, 9, 10, 11] (fun j : Nat => [.slice A2 l.length c2, .int .i64 (sumF (dnl l) (L.take j)), .slice A1 L.length c1, .int .i64 (j : Int)])
    (fun j w' => j ≤ L.length ∧ Chg No w1 w' ∧ 0 ≤ sumF (dnl l) (L.take j) ∧ sumF (dnl l) (L.take j) ≤ (j : Int) * 241920000000000) (fun j => L.length - j) 0 (fun _ => rfl) rfl ⟨by omega, Chg.refl _ _, by simp [sumF], by simp [sumF]⟩ ?_
  rintro j τ w6 ⟨hj, p6, h0, h1⟩
  have S6 := S1.no p6
  have D6 := hS3.no p6
  refine go T_ok 200 rfl ?_
  refine condD rfl (fun hlt => ?_) (fun hlt => ?_)
  · have hlt : j < L.length := by omega
    obtain ⟨p, hp⟩ : ∃ p, L[j]? = some p := ⟨_, List.getElem?_eq_getElem hlt⟩
    obtain ⟨⟨k1, k2, k3, k4, k5, k6⟩, k7⟩ := hmem p (List.mem_of_getElem? hp)
    obtain ⟨b, o, rfl, hb, hc⟩ := S6.el pL_len hp
    have hll := hl.2
    have hdg := dnl_get (l := l) k1 (by omega)
    obtain ⟨bd, od, rfl, hbd, hcd⟩ := D6.elI hdg
    have hlt6 : b < w6.heap.size := Nat.lt_of_lt_of_le hb S6.2.1
    have hltd : bd < w6.heap.size := Nat.lt_of_lt_of_le hbd D6.2.1
    obtain ⟨d0, d1⟩ := hl.1 _ (List.mem_of_getElem? hdg)
    have hs : sumF (dnl l) (L.take (j + 1)) = sumF (dnl l) (L.take j) + (p.u - p.a) * dnl l p.c := by rw [take_snoc hp, sumF_snoc]
    have m1 := mul_bd (a := p.u - p.a) (b := dnl l p.c) (A := 24192000000) (B := 10000) (by omega) d0 (by omega) d1
    have e1 : w64 (p.u - p.a) = p.u - p.a := w64_id (by omega) (by omega)
    have e2 : w64 ((p.u - p.a) * dnl l p.c) = (p.u - p.a) * dnl l p.c := w64_id (by omega) (by omega)
    have e3 : w64 (sumF (dnl l) (L.take j) + (p.u - p.a) * dnl l p.c) = sumF (dnl l) (L.take j) + (p.u - p.a) * dnl l p.c := w64_id (by omega) (by omega)
    have e4 : w64 ((j : Int) + 1) = ((j + 1 : Nat) : Int) := w64_id (by omega) (by omega)
    have k0 : ∀ (i : Nat) (x : Value), nth? (pL p) i = some x → ∀ w', Chg No w6 w' → w'.cell? ⟨b, o + j * 3 + i, none⟩ = some x := fun i x hx w' hS => (hS.cell (a := ⟨b, o + j * 3 + i, none⟩) hlt6 (fun h => h)).trans (hc.get hx)
    refine go T_ok 200 rfl ?_
    refine draw mixed (fun w' => Chg No w6 w') ([0,1,2,3,4,5,6,7,8,9,10,11,12,13,14,15,16,17,18,19,20,21,22].map (fun i => (i, true))) rfl (by kernel_rfl) (Chg.drew _) ?_
    refine goH T_ok 200 rfl ?_
    refine quietH rfl (fun w' hS => r_idx T_ok rfl rfl rfl rfl j rfl hlt) ?_
    refine goH T_ok 200 rfl ?_
    refine quietH rfl (fun w' hS => r_load T_ok rfl rfl rfl (k0 2 _ rfl w' hS)) ?_
    refine goH T_ok 200 rfl ?_
    refine quietH rfl (fun w' hS => r_idx T_ok rfl rfl rfl rfl j rfl hlt) ?_
    refine goH T_ok 200 rfl ?_
    refine quietH rfl (fun w' hS => r_load T_ok rfl rfl rfl (k0 1 _ rfl w' hS)) ?_
    refine goH T_ok 200 rfl ?_
    refine quietH rfl (fun w' hS => r_idx T_ok rfl rfl rfl rfl j rfl hlt) ?_
    refine goH T_ok 200 rfl ?_
    refine quietH rfl (fun w' hS => r_load T_ok rfl rfl rfl (k0 0 _ rfl w' hS)) ?_
    refine goH T_ok 200 rfl ?_
    refine quietH rfl (fun w' hS => r_idx T_ok rfl rfl rfl rfl p.c.toNat (by omega) (by omega)) ?_
    refine goH T_ok 200 rfl ?_
    refine quietH rfl (fun w' hS => r_load T_ok rfl rfl rfl ((hS.cell (a := ⟨bd, od + p.c.toNat * 1, none⟩) hltd (fun h => h)).trans hcd)) ?_
    refine goH T_ok 200 rfl ?_
    rw [e1, e2, e3]
    refine endH ?_
    refine go T_ok 200 rfl ?_
    rw [e4]
    refine round ⟨j + 1, by rw [hs]; rfl, ⟨by omega, p6.trans (Chg.drew _), by omega, by omega⟩, by omega⟩
  · have hjl : j = L.length := by omega
    subst hjl
    rw [List.take_length]
    refine go T_ok 200 rfl ?_
    exact ret (ret1 (v := .int .i64 _) Try.results28 rfl ⟨rfl, q0.trans p6⟩)
set_option maxHeartbeats 4000000 in
theorem rHorizon_any (v : Vo) (r : Ra) (g : List Int) (A : Option Addr) (c B : Nat) (w : World) (hv : VoOk v) (hr : RaOk r) (hg : GrOk v g) (hxy : r.dx ≠ 0 ∨ r.dy ≠ 0) (hS : Sl w B 1 A g.length (iL g)) :
    Ret Try.prog 37 [.agg (vL v).toArray, .slice A g.length c, .agg (rL r).toArray] w fun x w' => x = .int .i64 (hzn v r g) ∧ Chg No w w' := by
  refine enter Try.func37 rfl Try.ntmps37 rfl ?_
  refine go T_ok 200 rfl ?_
  refine bx rfl rfl rfl (cs := vL v) rfl ?_
  intro g1 u1 hg1 hs1 q1 B1
  refine go T_ok 200 rfl ?_
  refine bx rfl rfl rfl (cs := rL r) rfl ?_
  intro g2 u2 hg2 hs2 q2 B2
  have B1 := B1.no q2
  have q12 := q1.trans q2
  refine go T_ok 200 rfl ?_
  refine loop [1, 3, 5, 7, 8] (fun n : Nat => [.slice A g.length c, .pointer (some ⟨g1, 0, none⟩), .pointer (some ⟨g2, 0, none⟩), .int .i64 ((n : Int) - 60), .int .i64 ((n : Int) - 61)])
    (fun n w' => n ≤ 121 ∧ Chg No w w' ∧ Bk w' g1 23 (vL v) ∧ (∃ d, Bk w' g2 26 (rL (rz r d))) ∧ hzn v r g = hzI (clr v r g) n ((n : Int) - 60)) (fun n => n) 121 (fun _ => rfl) rfl ⟨by omega, q12, B1, ⟨r.dz, B2⟩, rfl⟩ ?_
  rintro n τ w4 ⟨hn, q4, B1, ⟨d0, B2⟩, hz⟩
  refine go T_ok 200 rfl ?_
  refine condD rfl (fun hlt => ?_) (fun hlt => ?_)
  · obtain ⟨m, rfl⟩ : ∃ m, n = m + 1 := ⟨n - 1, by omega⟩
    obtain ⟨d, hd⟩ : ∃ d : Int, ((m + 1 : Nat) : Int) - 61 = d := ⟨_, rfl⟩
    have hdr := rz_ok (d := d) hr hxy (by omega) (by omega)
    have hne : g1 ≠ g2 := by have := q1.size; omega
    have e1 : w64 (d - 1) = d - 1 := w64_id (by omega) (by omega)
    rw [hd]
    refine go T_ok 200 rfl ?_
    refine st T_ok rfl rfl rfl rfl (v := .int .i64 d) rfl rfl B2 rfl ?_
    intro w5 p5 B5 hs5
    have B5 : Bk w5 g2 26 (rL (rz r d)) := B5
    have B1 := B1.keep p5 hne
    have q5 : Chg No w w5 := q4.step p5 (fun k hk e => by have := q1.size; omega)
    refine go T_ok 200 rfl ?_
    refine ldA T_ok rfl rfl rfl rfl rfl B1.all ?_
    refine go T_ok 200 rfl ?_
    refine ldA T_ok rfl rfl rfl rfl rfl B5.all ?_
    refine go T_ok 200 rfl ?_
    refine call rfl rfl rfl (ok _ (by decide) rfl) (rUnder_any v (rz r d) g A c B _ hv hdr hg (hS.no q5)) ?_
    rintro x w6 ⟨A6, c6, rfl, o6, p6⟩
    have hstep : hzn v r g = if clr v r g d = true then hzI (clr v r g) m d else d + 1 := by
      rw [hz]
      show (if clr v r g (((m + 1 : Nat) : Int) - 60 - 1) = true then hzI (clr v r g) m (((m + 1 : Nat) : Int) - 60 - 1) else ((m + 1 : Nat) : Int) - 60) = _
      have : ((m + 1 : Nat) : Int) - 60 - 1 = d := by omega
      rw [this]
      congr 1
      omega
    have hclr : clr v r g d = decide ((cutS (und v (rz r d) g) (pcs v (rz r d))).length = 0) := by
      unfold clr
      generalize cutS (und v (rz r d) g) (pcs v (rz r d)) = L
      cases L <;> simp
    generalize cutS (und v (rz r d) g) (pcs v (rz r d)) = L at hclr ⊢
    refine go T_ok 200 rfl ?_
    refine condD rfl (fun h0 => ?_) (fun h0 => ?_)
    · have hc : clr v r g d = false := by rw [hclr]; exact decide_eq_false (by omega)
      rw [hc, if_neg (by simp)] at hstep
      refine go T_ok 200 rfl ?_
      exact ret (ret1 (v := .int .i64 _) Try.results37 rfl ⟨congrArg I (by rw [hstep]; omega), q5.trans p6⟩)
    · have hc : clr v r g d = true := by rw [hclr]; exact decide_eq_true (by omega)
      rw [if_pos hc] at hstep
      refine go T_ok 200 rfl ?_
      rw [e1]
      have hd' : d = (m : Int) - 60 := by omega
      have hd1 : (m : Int) - 60 - 1 = (m : Int) - 61 := by omega
      rw [hd'] at hstep B5 ⊢
      rw [hd1]
      exact round ⟨m, rfl, ⟨by omega, q5.trans p6, B1.no p6, ⟨_, B5.no p6⟩, hstep⟩, by omega⟩
  · have hn0 : n = 0 := by omega
    subst hn0
    have hz : hzn v r g = ((0 : Nat) : Int) - 60 := hz
    refine go T_ok 200 rfl ?_
    exact ret (ret1 (v := .int .i64 _) Try.results37 rfl ⟨congrArg I hz.symm, q4⟩)
theorem getE {α : Type} {l m : List α} (h : l.length = m.length) {j : Nat} (hj : j < l.length) : ∃ a b, l[j]? = some a ∧ m[j]? = some b := ⟨_, _, List.getElem?_eq_getElem hj, List.getElem?_eq_getElem (by omega)⟩
theorem take_eq {α : Type} {l m : List α} {j : Nat} {a b : α} (ha : l[j]? = some a) (hb : m[j]? = some b) (h : l.take j = m.take j) (e : a = b) : l.take (j + 1) = m.take (j + 1) := by
  rw [take_snoc ha, take_snoc hb, h, e]
set_option maxHeartbeats 4000000 in
theorem Same_any (l m : List Int) (A A2 : Option Addr) (c c2 B B2 : Nat) (w : World) (hL : l.length ≤ maxLen) (hS : Sl w B 1 A l.length (iL l)) (hS2 : Sl w B2 1 A2 m.length (iL m)) :
    Ret Try.prog 33 [.slice A l.length c, .slice A2 m.length c2] w fun x w' => x = .bool (decide (l = m)) ∧ Chg No w w' := by
  have hL := len63 hL
  refine enter Try.func33 rfl Try.ntmps33 rfl ?_
  refine go T_ok 200 rfl ?_
  refine cond rfl (fun h => ?_) (fun h => ?_)
  · have h : (l.length : Int) ≠ (m.length : Int) := by simpa using h
    refine go T_ok 200 rfl ?_
    exact ret (ret1 (v := .bool false) Try.results33 rfl ⟨congrArg Value.bool (decide_eq_false fun e => h (by rw [e])).symm, Chg.refl _ _⟩)
  · have h : l.length = m.length := by
      have h : (l.length : Int) = (m.length : Int) := by simpa using h
      omega
    refine go T_ok 200 rfl ?_
    refine loop [0, 1, 5] (fun j : Nat => [.slice A l.length c, .slice A2 m.length c2, .int .i64 (j : Int)])
      (fun j w' => j ≤ l.length ∧ Chg No w w' ∧ l.take j = m.take j) (fun j => l.length - j) 0 (fun _ => rfl) rfl ⟨by omega, Chg.refl _ _, rfl⟩ ?_
    rintro j τ w1 ⟨hj, q1, hI⟩
    have S1 := hS.no q1
    have S2 := hS2.no q1
    refine go T_ok 200 rfl ?_
    refine condD rfl (fun hlt => ?_) (fun hlt => ?_)
    · have hlt : j < l.length := by omega
      obtain ⟨a, b, ha, hb⟩ := getE h hlt
      obtain ⟨b1, o1, rfl, hb1, hc1⟩ := S1.elI ha
      obtain ⟨b2, o2, rfl, hb2, hc2⟩ := S2.elI hb
      have l1 : b1 < w1.heap.size := Nat.lt_of_lt_of_le hb1 S1.2.1
      have l2 : b2 < w1.heap.size := Nat.lt_of_lt_of_le hb2 S2.2.1
      have e3 : w64 ((j : Int) + 1) = ((j + 1 : Nat) : Int) := w64_id (by omega) (by omega)
      refine go T_ok 200 rfl ?_
      refine draw mixed (fun w' => Chg No w1 w') ([0,1,2,3,4,5,6,7,8].map (fun i => (i, true))) rfl (by kernel_rfl) (Chg.drew _) ?_
      refine goH T_ok 200 rfl ?_
      refine quietH rfl (fun w' hS => r_idx T_ok rfl rfl rfl rfl j rfl hlt) ?_
      refine goH T_ok 200 rfl ?_
      refine quietH rfl (fun w' hS => r_load T_ok rfl rfl rfl ((hS.cell (a := ⟨b1, o1 + j * 1, none⟩) l1 (fun h => h)).trans hc1)) ?_
      refine goH T_ok 200 rfl ?_
      refine quietH rfl (fun w' hS => r_idx T_ok rfl rfl rfl rfl j rfl (by omega)) ?_
      refine goH T_ok 200 rfl ?_
      refine quietH rfl (fun w' hS => r_load T_ok rfl rfl rfl ((hS.cell (a := ⟨b2, o2 + j * 1, none⟩) l2 (fun h => h)).trans hc2)) ?_
      refine goH T_ok 200 rfl ?_
      refine endH ?_
      refine go T_ok 200 rfl ?_
      refine cond rfl (fun hab => ?_) (fun hab => ?_)
      · have hab : a ≠ b := by simpa using hab
        refine go T_ok 200 rfl ?_
        exact ret (ret1 (v := .bool false) Try.results33 rfl ⟨congrArg Value.bool (decide_eq_false fun e => hab (by rw [e, hb] at ha; exact (Option.some.inj ha).symm)).symm, q1.trans (Chg.drew _)⟩)
      · have hab : a = b := by simpa using hab
        refine go T_ok 200 rfl ?_
        rw [e3]
        exact round ⟨j + 1, rfl, ⟨by omega, q1.trans (Chg.drew _), take_eq ha hb hI hab⟩, by omega⟩
    · have hjl : j = l.length := by omega
      subst hjl
      rw [List.take_length, h, List.take_length] at hI
      refine go T_ok 200 rfl ?_
      exact ret (ret1 (v := .bool true) Try.results33 rfl ⟨congrArg Value.bool (decide_eq_true hI).symm, q1⟩)
theorem eqStr59 : eqStr Try.prog 59 2 = true := by kernel_rfl
theorem pairBeq (a b : Int × Int) : ([a.1, a.2] == [b.1, b.2]) = decide (a = b) := by
  obtain ⟨a1, a2⟩ := a
  obtain ⟨b1, b2⟩ := b
  rw [Bool.eq_iff_iff]
  simp
set_option maxHeartbeats 4000000 in
theorem SameChords_any (l m : List (Int × Int)) (A A2 : Option Addr) (c c2 B B2 : Nat) (w : World) (hL : l.length ≤ maxLen) (hS : Sl w B 2 A l.length (l.flatMap cL)) (hS2 : Sl w B2 2 A2 m.length (m.flatMap cL)) :
    Ret Try.prog 24 [.slice A l.length c, .slice A2 m.length c2] w fun x w' => x = .bool (decide (l = m)) ∧ Chg No w w' := by
  have hL := len63 hL
  refine enter Try.func24 rfl Try.ntmps24 rfl ?_
  refine go T_ok 200 rfl ?_
  refine cond rfl (fun h => ?_) (fun h => ?_)
  · have h : (l.length : Int) ≠ (m.length : Int) := by simpa using h
    refine go T_ok 200 rfl ?_
    exact ret (ret1 (v := .bool false) Try.results24 rfl ⟨congrArg Value.bool (decide_eq_false fun e => h (by rw [e])).symm, Chg.refl _ _⟩)
  · have h : l.length = m.length := by
      have h : (l.length : Int) = (m.length : Int) := by simpa using h
      omega
    refine go T_ok 200 rfl ?_
    refine loop [0, 1, 5] (fun j : Nat => [.slice A l.length c, .slice A2 m.length c2, .int .i64 (j : Int)])
      (fun j w' => j ≤ l.length ∧ Chg No w w' ∧ l.take j = m.take j) (fun j => l.length - j) 0 (fun _ => rfl) rfl ⟨by omega, Chg.refl _ _, rfl⟩ ?_
    rintro j τ w1 ⟨hj, q1, hI⟩
    have S1 := hS.no q1
    have S2 := hS2.no q1
    refine go T_ok 200 rfl ?_
    refine condD rfl (fun hlt => ?_) (fun hlt => ?_)
    · have hlt : j < l.length := by omega
      obtain ⟨a, b, ha, hb⟩ := getE h hlt
      obtain ⟨b1, o1, rfl, hb1, hc1⟩ := S1.el cL_len ha
      obtain ⟨b2, o2, rfl, hb2, hc2⟩ := S2.el cL_len hb
      have l1 : b1 < w1.heap.size := Nat.lt_of_lt_of_le hb1 S1.2.1
      have l2 : b2 < w1.heap.size := Nat.lt_of_lt_of_le hb2 S2.2.1
      have e3 : w64 ((j : Int) + 1) = ((j + 1 : Nat) : Int) := w64_id (by omega) (by omega)
      refine go T_ok 200 rfl ?_
      refine draw mixed (fun w' => Chg No w1 w') ([0,1,2,3,4,5,6,7,8].map (fun i => (i, true))) rfl (by kernel_rfl) (Chg.drew _) ?_
      refine goH T_ok 200 rfl ?_
      refine quietH rfl (fun w' hS => r_idx T_ok rfl rfl rfl rfl j rfl hlt) ?_
      refine goH T_ok 200 rfl ?_
      refine quietH rfl (fun w' hS => r_loadA T_ok rfl rfl rfl (cs := cL a) rfl (hc1.keep l1 hS (fun h => h))) ?_
      refine goH T_ok 200 rfl ?_
      refine quietH rfl (fun w' hS => r_idx T_ok rfl rfl rfl rfl j rfl (by omega)) ?_
      refine goH T_ok 200 rfl ?_
      refine quietH rfl (fun w' hS => r_loadA T_ok rfl rfl rfl (cs := cL b) rfl (hc2.keep l2 hS (fun h => h))) ?_
      refine goH T_ok 200 rfl ?_
      refine quietH rfl (fun w' hS => r_neqS rfl (l := [a.1, a.2]) (m := [b.1, b.2]) eqStr59 rfl rfl rfl) ?_
      refine endH ?_
      refine go T_ok 200 rfl ?_
      rw [pairBeq]
      refine cond rfl (fun hab => ?_) (fun hab => ?_)
      · have hab := ndT hab
        refine go T_ok 200 rfl ?_
        exact ret (ret1 (v := .bool false) Try.results24 rfl ⟨congrArg Value.bool (decide_eq_false fun e => hab (by rw [e, hb] at ha; exact (Option.some.inj ha).symm)).symm, q1.trans (Chg.drew _)⟩)
      · have hab := ndF hab
        refine go T_ok 200 rfl ?_
        rw [e3]
        exact round ⟨j + 1, rfl, ⟨by omega, q1.trans (Chg.drew _), take_eq ha hb hI hab⟩, by omega⟩
    · have hjl : j = l.length := by omega
      subst hjl
      rw [List.take_length, h, List.take_length] at hI
      refine go T_ok 200 rfl ?_
      exact ret (ret1 (v := .bool true) Try.results24 rfl ⟨congrArg Value.bool (decide_eq_true hI).symm, q1⟩)
end Go.Proofs.Ytkkjfjeniaiaiaa
