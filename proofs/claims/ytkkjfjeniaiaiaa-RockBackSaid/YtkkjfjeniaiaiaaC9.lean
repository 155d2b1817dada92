/- The contracts of Chords, Through, Between, Under. -/
import Derived.Test.YtkkjfjeniaiaiaaC8
namespace Go.Proofs.Ytkkjfjeniaiaiaa
open Go.Ev Go.Proofs Go.Rock
attribute [local irreducible] At AtH

/-- a row that was told -/
theorem own_slN {w : World} {B : Nat} {e : TypeId} {sz n : Nat} {A : Option Addr} {c : Nat} {xs : List Value} (h : w.ownsRow B e sz (.slice A n c) n xs) : Sl w w.heap.size sz A n xs := own_sl h
theorem slNil (w : World) (sz : Nat) (A : Option Addr) : Sl w w.heap.size sz A 0 [] := (Sl.nil w sz A).more (Nat.zero_le _) (Nat.le_refl _)
theorem cut_id {v : Vo} {r : Ra} (hv : VoOk v) : cutS id (pcs v r) = pcs v r := by
  unfold cutS
  rw [List.map_id]
  exact List.filter_eq_self.2 fun p hp => decide_eq_true (mem_pcs hv hp).2.2.2.1
def chR (v : Vo) (r : Ra) : Int × List (Int × Int) := if VoOk v ∧ RaOk r then (0, chs (pcs v r)) else (2, [])
set_option maxHeartbeats 4000000 in
theorem Chords_any (v : Vo) (r : Ra) (w : World) : Ret Try.prog 38 [.agg (vL v).toArray, .agg (rL r).toArray] w fun x w' => ∃ A c e l, x = .tuple #[.slice A l.length c, .int .i64 e] ∧ Sl w' w'.heap.size 2 A l.length (l.flatMap cL) ∧ Chg No w w' ∧ (e, l) = chR v r := by
  refine enter Try.func38 rfl Try.ntmps38 rfl ?_
  refine go T_ok 200 rfl ?_
  refine bx rfl rfl rfl (cs := vL v) rfl ?_
  intro g1 u1 hg1 hs1 q1 B1
  refine go T_ok 200 rfl ?_
  refine bx rfl rfl rfl (cs := rL r) rfl ?_
  intro g2 u2 hg2 hs2 q2 B2
  have B1 := B1.no q2
  have q12 := q1.trans q2
  refine go T_ok 200 rfl ?_
  refine ldA T_ok rfl rfl rfl rfl rfl B1.all ?_
  refine go T_ok 200 rfl ?_
  refine call rfl rfl rfl (ok _ (by decide) rfl) (volume_any v _) ?_
  rintro x w1 ⟨rfl, p1⟩
  refine go T_ok 200 rfl ?_
  refine guardN rfl rfl rfl (fun hv => ?_) (fun hv => ?_)
  · have hv := of_decide_eq_false hv
    refine go T_ok 200 rfl ?_
    repeat (first | (refine guardA (b := true) rfl rfl rfl rfl (fun _ => ?_) (fun e => by cases e); refine go T_ok 200 rfl ?_) | (refine guardA (b := false) rfl rfl rfl rfl (fun e => by cases e) (fun _ => ?_); refine go T_ok 200 rfl ?_) | (refine condT rfl rfl ?_; refine go T_ok 200 rfl ?_) | (refine condF rfl rfl ?_; refine go T_ok 200 rfl ?_))
    exact ret (ret2 (v := .slice none 0 0) (x := .int .i64 2) Try.results38 rfl rfl ⟨none, 0, 2, [], rfl, slNil _ _ _, (q12.trans p1), by unfold chR; rw [if_neg (fun h => hv h.1)]⟩)
  · have hv := of_decide_eq_true hv
    refine go T_ok 200 rfl ?_
    refine ldA T_ok rfl rfl rfl rfl rfl (B2.no p1).all ?_
    refine go T_ok 200 rfl ?_
    refine call rfl rfl rfl (ok _ (by decide) rfl) (ray_any r _) ?_
    rintro x w2 ⟨rfl, p2⟩
    refine go T_ok 200 rfl ?_
    refine cond rfl (fun hr => ?_) (fun hr => ?_)
    · have hr := ndT hr
      refine go T_ok 200 rfl ?_
      repeat (first | (refine guardA (b := true) rfl rfl rfl rfl (fun _ => ?_) (fun e => by cases e); refine go T_ok 200 rfl ?_) | (refine guardA (b := false) rfl rfl rfl rfl (fun e => by cases e) (fun _ => ?_); refine go T_ok 200 rfl ?_) | (refine condT rfl rfl ?_; refine go T_ok 200 rfl ?_) | (refine condF rfl rfl ?_; refine go T_ok 200 rfl ?_))
      exact ret (ret2 (v := .slice none 0 0) (x := .int .i64 2) Try.results38 rfl rfl ⟨none, 0, 2, [], rfl, slNil _ _ _, ((q12.trans p1).trans p2), by unfold chR; rw [if_neg (fun h => hr h.2)]⟩)
    · have hr := ndF hr
      refine go T_ok 200 rfl ?_
      refine ldA T_ok rfl rfl rfl rfl rfl ((B1.no p1).no p2).all ?_
      refine go T_ok 200 rfl ?_
      refine ldA T_ok rfl rfl rfl rfl rfl ((B2.no p1).no p2).all ?_
      refine go T_ok 200 rfl ?_
      refine call rfl rfl rfl (ok _ (by decide) rfl) (through_any v r _ hr) ?_
      rintro x w3 ⟨rfl, p3⟩
      refine go T_ok 200 rfl ?_
      refine call rfl rfl rfl (ok _ (by decide) rfl) (parts_any v r id none 0 0 _ hv hr (Cuts.none v _)) ?_
      rintro x w4 ⟨A4, c4, rfl, o4, p4⟩
      refine go T_ok 200 rfl ?_
      refine call rfl rfl rfl (ok _ (by decide) rfl) (chordsC_any v r id A4 c4 _ _ hv hr shr_id (own_sl o4)) ?_
      rintro x w5 ⟨A5, c5, rfl, o5, p5⟩
      refine go T_ok 200 rfl ?_
      rw [cut_id hv] at o5 ⊢
      have hl : (chs (pcs v r)).length = (pcs v r).length := by simp [chs]
      rw [← hl] at o5 ⊢
      exact ret (ret2 (v := .slice _ _ _) (x := .int .i64 0) Try.results38 rfl rfl ⟨A5, c5, 0, chs (pcs v r), rfl, own_sl o5, ((((q12.trans p1).trans p2).trans p3).trans p4).trans p5, by unfold chR; rw [if_pos ⟨hv, hr⟩]⟩)
def thrL (l : List Pc) : Int × Int × Int := match l with
  | [] => (0, 0, 5)
  | p :: l => (p.a, ((p :: l).getLast (by simp)).u, 0)
def thR (v : Vo) (r : Ra) : Int × Int × Int := if VoOk v ∧ RaOk r then thrL (pcs v r) else (0, 0, 2)
set_option maxHeartbeats 4000000 in
theorem Through_any (v : Vo) (r : Ra) (w : World) : Ret Try.prog 43 [.agg (vL v).toArray, .agg (rL r).toArray] w fun x w' => x = .tuple #[.int .i64 (thR v r).1, .int .i64 (thR v r).2.1, .int .i64 (thR v r).2.2] ∧ Chg No w w' := by
  refine enter Try.func43 rfl Try.ntmps43 rfl ?_
  refine go T_ok 200 rfl ?_
  refine bx rfl rfl rfl (cs := vL v) rfl ?_
  intro g1 u1 hg1 hs1 q1 B1
  refine go T_ok 200 rfl ?_
  refine bx rfl rfl rfl (cs := rL r) rfl ?_
  intro g2 u2 hg2 hs2 q2 B2
  have B1 := B1.no q2
  have q12 := q1.trans q2
  refine go T_ok 200 rfl ?_
  refine ldA T_ok rfl rfl rfl rfl rfl B1.all ?_
  refine go T_ok 200 rfl ?_
  refine call rfl rfl rfl (ok _ (by decide) rfl) (volume_any v _) ?_
  rintro x w1 ⟨rfl, p1⟩
  refine go T_ok 200 rfl ?_
  refine guardN rfl rfl rfl (fun hv => ?_) (fun hv => ?_)
  · have hv := of_decide_eq_false hv
    refine go T_ok 200 rfl ?_
    repeat (first | (refine guardA (b := true) rfl rfl rfl rfl (fun _ => ?_) (fun e => by cases e); refine go T_ok 200 rfl ?_) | (refine guardA (b := false) rfl rfl rfl rfl (fun e => by cases e) (fun _ => ?_); refine go T_ok 200 rfl ?_) | (refine condT rfl rfl ?_; refine go T_ok 200 rfl ?_) | (refine condF rfl rfl ?_; refine go T_ok 200 rfl ?_))
    have hR : thR v r = (0, 0, 2) := by unfold thR; rw [if_neg (fun h => hv h.1)]
    rw [hR]
    exact ret (ret3 (v := .int .i64 0) (x := .int .i64 0) (y := .int .i64 2) Try.results43 rfl rfl rfl ⟨rfl, q12.trans p1⟩)
  · have hv := of_decide_eq_true hv
    refine go T_ok 200 rfl ?_
    refine ldA T_ok rfl rfl rfl rfl rfl (B2.no p1).all ?_
    refine go T_ok 200 rfl ?_
    refine call rfl rfl rfl (ok _ (by decide) rfl) (ray_any r _) ?_
    rintro x w2 ⟨rfl, p2⟩
    refine go T_ok 200 rfl ?_
    refine cond rfl (fun hr => ?_) (fun hr => ?_)
    · have hr := ndT hr
      refine go T_ok 200 rfl ?_
      repeat (first | (refine guardA (b := true) rfl rfl rfl rfl (fun _ => ?_) (fun e => by cases e); refine go T_ok 200 rfl ?_) | (refine guardA (b := false) rfl rfl rfl rfl (fun e => by cases e) (fun _ => ?_); refine go T_ok 200 rfl ?_) | (refine condT rfl rfl ?_; refine go T_ok 200 rfl ?_) | (refine condF rfl rfl ?_; refine go T_ok 200 rfl ?_))
      have hR : thR v r = (0, 0, 2) := by unfold thR; rw [if_neg (fun h => hr h.2)]
      rw [hR]
      exact ret (ret3 (v := .int .i64 0) (x := .int .i64 0) (y := .int .i64 2) Try.results43 rfl rfl rfl ⟨rfl, (q12.trans p1).trans p2⟩)
    · have hr := ndF hr
      refine go T_ok 200 rfl ?_
      refine ldA T_ok rfl rfl rfl rfl rfl ((B1.no p1).no p2).all ?_
      refine go T_ok 200 rfl ?_
      refine ldA T_ok rfl rfl rfl rfl rfl ((B2.no p1).no p2).all ?_
      refine go T_ok 200 rfl ?_
      refine call rfl rfl rfl (ok _ (by decide) rfl) (through_any v r _ hr) ?_
      rintro x w3 ⟨rfl, p3⟩
      refine go T_ok 200 rfl ?_
      refine call rfl rfl rfl (ok _ (by decide) rfl) (parts_any v r id none 0 0 _ hv hr (Cuts.none v _)) ?_
      rintro x w4 ⟨A4, c4, rfl, o4, p4⟩
      rw [cut_id hv] at o4 ⊢
      have hR : thR v r = thrL (pcs v r) := by unfold thR; rw [if_pos ⟨hv, hr⟩]
      have hlen := pcs_len r hv
      have qq := (((q12.trans p1).trans p2).trans p3).trans p4
      rw [hR]
      generalize pcs v r = L at o4 hlen ⊢
      have S4 := own_sl o4
      cases L with
      | nil =>
        refine go T_ok 200 rfl ?_
        refine condT rfl rfl ?_
        refine go T_ok 200 rfl ?_
        exact ret (ret3 (v := .int .i64 0) (x := .int .i64 0) (y := .int .i64 5) Try.results43 rfl rfl rfl ⟨rfl, qq⟩)
      | cons p l =>
        refine go T_ok 200 rfl ?_
        refine condF rfl (by simp; omega) ?_
        obtain ⟨b, o, rfl, _, hc0⟩ := S4.el pL_len (j := 0) (x := p) rfl
        have hlast : (p :: l)[l.length]? = some ((p :: l).getLast (by simp)) := by rw [List.getLast_eq_getElem]; simp
        obtain ⟨b', o', hA, hb', hc1⟩ := S4.el pL_len hlast
        simp only [Option.some.injEq, Addr.mk.injEq, and_true] at hA
        obtain ⟨rfl, rfl⟩ := hA
        have hlt : b < w4.heap.size := hb'
        have e1 : w64 (((p :: l).length : Int) - 1) = (l.length : Int) := by rw [List.length_cons]; rw [w64_id (by simp at hlen; omega) (by simp at hlen; omega)]; omega
        have k0 : ∀ w', Chg No w4 w' → w'.cell? ⟨b, o + 0 * 3 + 1, none⟩ = some (.int .i64 p.a) := fun w' hS => (hS.cell (a := ⟨b, o + 0 * 3 + 1, none⟩) hlt (fun h => h)).trans (hc0.get (i := 1) rfl)
        have k1 : ∀ w', Chg No w4 w' → w'.cell? ⟨b, o + l.length * 3 + 2, none⟩ = some (.int .i64 ((p :: l).getLast (by simp)).u) := fun w' hS => (hS.cell (a := ⟨b, o + l.length * 3 + 2, none⟩) hlt (fun h => h)).trans (hc1.get (i := 2) rfl)
        refine go T_ok 200 rfl ?_
        refine draw mixed (fun w' => Chg No w4 w') ([0,1,2,3,4,5,6,7,8,9,10,11,12,13].map (fun i => (i, true))) rfl (by kernel_rfl) (Chg.drew _) ?_
        refine goH T_ok 200 rfl ?_
        refine quietH rfl (fun w' hS => r_idx T_ok rfl rfl rfl rfl 0 rfl (by simp)) ?_
        refine goH T_ok 200 rfl ?_
        refine quietH rfl (fun w' hS => r_load T_ok rfl rfl rfl (k0 w' hS)) ?_
        refine goH T_ok 200 rfl ?_
        rw [e1]
        refine quietH rfl (fun w' hS => r_idx T_ok rfl rfl rfl rfl l.length rfl (by simp)) ?_
        refine goH T_ok 200 rfl ?_
        refine quietH rfl (fun w' hS => r_load T_ok rfl rfl rfl (k1 w' hS)) ?_
        refine goH T_ok 200 rfl ?_
        refine endH ?_
        refine go T_ok 200 rfl ?_
        exact ret (ret3 (v := .int .i64 _) (x := .int .i64 _) (y := .int .i64 0) Try.results43 rfl rfl rfl ⟨rfl, qq.trans (Chg.drew _)⟩)
def BtOk (v : Vo) (r : Ra) (a u : Int) : Prop := VoOk v ∧ RaOk r ∧ 0 ≤ a ∧ a ≤ u ∧ u ≤ 1000000000000
instance (v : Vo) (r : Ra) (a u : Int) : Decidable (BtOk v r a u) := by unfold BtOk; infer_instance
def btR (v : Vo) (r : Ra) (a u : Int) : Int × List (Int × Int) := if BtOk v r a u then (0, chs (cutS (btw a u) (pcs v r))) else (2, [])
set_option maxHeartbeats 4000000 in
theorem Between_any (v : Vo) (r : Ra) (a u : Int) (w : World) : Ret Try.prog 39 [.agg (vL v).toArray, .agg (rL r).toArray, .int .i64 a, .int .i64 u] w fun x w' => ∃ A c e l, x = .tuple #[.slice A l.length c, .int .i64 e] ∧ Sl w' w'.heap.size 2 A l.length (l.flatMap cL) ∧ Chg No w w' ∧ (e, l) = btR v r a u := by
  refine enter Try.func39 rfl Try.ntmps39 rfl ?_
  refine go T_ok 200 rfl ?_
  refine bx rfl rfl rfl (cs := vL v) rfl ?_
  intro g1 u1 hg1 hs1 q1 B1
  refine go T_ok 200 rfl ?_
  refine bx rfl rfl rfl (cs := rL r) rfl ?_
  intro g2 u2 hg2 hs2 q2 B2
  refine go T_ok 200 rfl ?_
  refine bx rfl rfl rfl (cs := [I a]) rfl ?_
  intro g3 u3 hg3 hs3 q3 B3
  refine go T_ok 200 rfl ?_
  refine bx rfl rfl rfl (cs := [I u]) rfl ?_
  intro g4 u4 hg4 hs4 q4 B4
  have B1 := ((B1.no q2).no q3).no q4
  have B2 := (B2.no q3).no q4
  have B3 := B3.no q4
  have q12 := ((q1.trans q2).trans q3).trans q4
  refine go T_ok 200 rfl ?_
  refine ldA T_ok rfl rfl rfl rfl rfl B1.all ?_
  refine go T_ok 200 rfl ?_
  refine call rfl rfl rfl (ok _ (by decide) rfl) (volume_any v _) ?_
  rintro x w1 ⟨rfl, p1⟩
  refine go T_ok 200 rfl ?_
  refine guardN rfl rfl rfl (fun hv => ?_) (fun hv => ?_)
  · have hv := of_decide_eq_false hv
    refine go T_ok 200 rfl ?_
    repeat (first | (refine guardA (b := true) rfl rfl rfl rfl (fun _ => ?_) (fun e => by cases e); refine go T_ok 200 rfl ?_) | (refine guardA (b := false) rfl rfl rfl rfl (fun e => by cases e) (fun _ => ?_); refine go T_ok 200 rfl ?_) | (refine condT rfl rfl ?_; refine go T_ok 200 rfl ?_) | (refine condF rfl rfl ?_; refine go T_ok 200 rfl ?_))
    exact ret (ret2 (v := .slice none 0 0) (x := .int .i64 2) Try.results39 rfl rfl ⟨none, 0, 2, [], rfl, slNil _ _ _, (q12.trans p1), by unfold btR; rw [if_neg (fun h => hv h.1)]⟩)
  · have hv := of_decide_eq_true hv
    refine go T_ok 200 rfl ?_
    refine ldA T_ok rfl rfl rfl rfl rfl (B2.no p1).all ?_
    refine go T_ok 200 rfl ?_
    refine call rfl rfl rfl (ok _ (by decide) rfl) (ray_any r _) ?_
    rintro x w2 ⟨rfl, p2⟩
    have B1 := (B1.no p1).no p2
    have B2 := (B2.no p1).no p2
    have B3 := (B3.no p1).no p2
    have B4 := (B4.no p1).no p2
    have q12 := (q12.trans p1).trans p2
    refine go T_ok 200 rfl ?_
    refine guardN rfl rfl rfl (fun hr => ?_) (fun hr => ?_)
    · have hr := of_decide_eq_false hr
      refine go T_ok 200 rfl ?_
      repeat (first | (refine guardA (b := true) rfl rfl rfl rfl (fun _ => ?_) (fun e => by cases e); refine go T_ok 200 rfl ?_) | (refine guardA (b := false) rfl rfl rfl rfl (fun e => by cases e) (fun _ => ?_); refine go T_ok 200 rfl ?_) | (refine condT rfl rfl ?_; refine go T_ok 200 rfl ?_) | (refine condF rfl rfl ?_; refine go T_ok 200 rfl ?_))
      exact ret (ret2 (v := .slice none 0 0) (x := .int .i64 2) Try.results39 rfl rfl ⟨none, 0, 2, [], rfl, slNil _ _ _, q12, by unfold btR; rw [if_neg (fun h => hr h.2.1)]⟩)
    · have hr := of_decide_eq_true hr
      refine go T_ok 200 rfl ?_
      repeat (first | (refine ld T_ok rfl rfl rfl rfl (Bk.get B3 rfl) ?_; refine go T_ok 200 rfl ?_) | (refine ld T_ok rfl rfl rfl rfl (Bk.get B4 rfl) ?_; refine go T_ok 200 rfl ?_) | (refine guardA (b := true) rfl rfl rfl rfl (fun _ => ?_) (fun e => by cases e); refine go T_ok 200 rfl ?_) | (refine guardA (b := false) rfl rfl rfl rfl (fun e => by cases e) (fun _ => ?_); refine go T_ok 200 rfl ?_) | (refine condT rfl rfl ?_; refine go T_ok 200 rfl ?_) | (refine condF rfl rfl ?_; refine go T_ok 200 rfl ?_))
      refine guardD rfl rfl rfl (fun h1 => ?_) (fun h1 => ?_)
      · refine go T_ok 200 rfl ?_
        repeat (first | (refine guardA (b := true) rfl rfl rfl rfl (fun _ => ?_) (fun e => by cases e); refine go T_ok 200 rfl ?_) | (refine guardA (b := false) rfl rfl rfl rfl (fun e => by cases e) (fun _ => ?_); refine go T_ok 200 rfl ?_) | (refine condT rfl rfl ?_; refine go T_ok 200 rfl ?_) | (refine condF rfl rfl ?_; refine go T_ok 200 rfl ?_))
        exact ret (ret2 (v := .slice none 0 0) (x := .int .i64 2) Try.results39 rfl rfl ⟨none, 0, 2, [], rfl, slNil _ _ _, q12, by unfold btR; rw [if_neg (fun h => (by have := h.2.2.1; omega))]⟩)
      · refine go T_ok 200 rfl ?_
        repeat (first | (refine ld T_ok rfl rfl rfl rfl (Bk.get B3 rfl) ?_; refine go T_ok 200 rfl ?_) | (refine ld T_ok rfl rfl rfl rfl (Bk.get B4 rfl) ?_; refine go T_ok 200 rfl ?_) | (refine guardA (b := true) rfl rfl rfl rfl (fun _ => ?_) (fun e => by cases e); refine go T_ok 200 rfl ?_) | (refine guardA (b := false) rfl rfl rfl rfl (fun e => by cases e) (fun _ => ?_); refine go T_ok 200 rfl ?_) | (refine condT rfl rfl ?_; refine go T_ok 200 rfl ?_) | (refine condF rfl rfl ?_; refine go T_ok 200 rfl ?_))
        refine guardD rfl rfl rfl (fun h2 => ?_) (fun h2 => ?_)
        · refine go T_ok 200 rfl ?_
          repeat (first | (refine guardA (b := true) rfl rfl rfl rfl (fun _ => ?_) (fun e => by cases e); refine go T_ok 200 rfl ?_) | (refine guardA (b := false) rfl rfl rfl rfl (fun e => by cases e) (fun _ => ?_); refine go T_ok 200 rfl ?_) | (refine condT rfl rfl ?_; refine go T_ok 200 rfl ?_) | (refine condF rfl rfl ?_; refine go T_ok 200 rfl ?_))
          exact ret (ret2 (v := .slice none 0 0) (x := .int .i64 2) Try.results39 rfl rfl ⟨none, 0, 2, [], rfl, slNil _ _ _, q12, by unfold btR; rw [if_neg (fun h => (by have := h.2.2.2.1; omega))]⟩)
        · refine go T_ok 200 rfl ?_
          repeat (first | (refine ld T_ok rfl rfl rfl rfl (Bk.get B3 rfl) ?_; refine go T_ok 200 rfl ?_) | (refine ld T_ok rfl rfl rfl rfl (Bk.get B4 rfl) ?_; refine go T_ok 200 rfl ?_) | (refine guardA (b := true) rfl rfl rfl rfl (fun _ => ?_) (fun e => by cases e); refine go T_ok 200 rfl ?_) | (refine guardA (b := false) rfl rfl rfl rfl (fun e => by cases e) (fun _ => ?_); refine go T_ok 200 rfl ?_) | (refine condT rfl rfl ?_; refine go T_ok 200 rfl ?_) | (refine condF rfl rfl ?_; refine go T_ok 200 rfl ?_))
          refine condD rfl (fun h3 => ?_) (fun h3 => ?_)
          · refine go T_ok 200 rfl ?_
            repeat (first | (refine guardA (b := true) rfl rfl rfl rfl (fun _ => ?_) (fun e => by cases e); refine go T_ok 200 rfl ?_) | (refine guardA (b := false) rfl rfl rfl rfl (fun e => by cases e) (fun _ => ?_); refine go T_ok 200 rfl ?_) | (refine condT rfl rfl ?_; refine go T_ok 200 rfl ?_) | (refine condF rfl rfl ?_; refine go T_ok 200 rfl ?_))
            exact ret (ret2 (v := .slice none 0 0) (x := .int .i64 2) Try.results39 rfl rfl ⟨none, 0, 2, [], rfl, slNil _ _ _, q12, by unfold btR; rw [if_neg (fun h => (by have := h.2.2.2.2; omega))]⟩)
          · refine go T_ok 200 rfl ?_
            refine ldA T_ok rfl rfl rfl rfl rfl B1.all ?_
            refine go T_ok 200 rfl ?_
            refine ldA T_ok rfl rfl rfl rfl rfl B2.all ?_
            refine go T_ok 200 rfl ?_
            refine call rfl rfl rfl (ok _ (by decide) rfl) (through_any v r _ hr) ?_
            rintro x w3 ⟨rfl, p3⟩
            refine go T_ok 200 rfl ?_
            refine row T_ok rfl rfl rfl rfl rfl rfl (cs := [.func (.func 78) #[] #[.pointer (some ⟨g3, 0, none⟩), .pointer (some ⟨g4, 0, none⟩)]]) rfl ?_
            intro g5 w4 hg5 hs5 p4 B5 _
            refine go T_ok 200 rfl ?_
            refine call rfl rfl rfl (ok _ (by decide) rfl) (parts_any v r (btw a u) _ 1 1 _ hv hr (cuts_btw B5 ((B3.no p3).no p4) ((B4.no p3).no p4))) ?_
            rintro x w5 ⟨A5, c5, rfl, o5, p5⟩
            refine go T_ok 200 rfl ?_
            refine call rfl rfl rfl (ok _ (by decide) rfl) (chordsC_any v r (btw a u) A5 c5 _ _ hv hr (shr_btw a u) (own_sl o5)) ?_
            rintro x w6 ⟨A6, c6, rfl, o6, p6⟩
            refine go T_ok 200 rfl ?_
            have hl : (chs (cutS (btw a u) (pcs v r))).length = (cutS (btw a u) (pcs v r)).length := by simp [chs]
            rw [← hl] at o6 ⊢
            exact ret (ret2 (v := .slice _ _ _) (x := .int .i64 0) Try.results39 rfl rfl ⟨A6, c6, 0, chs (cutS (btw a u) (pcs v r)), rfl, own_sl o6, (((q12.trans p3).trans p4).trans p5).trans p6, by unfold btR; rw [if_pos ⟨hv, hr, by omega, by omega, by omega⟩]⟩)
def UnOk (v : Vo) (r : Ra) (g : List Int) : Prop := VoOk v ∧ RaOk r ∧ GrOk v g
instance (v : Vo) (r : Ra) (g : List Int) : Decidable (UnOk v r g) := by unfold UnOk; infer_instance
def unR (v : Vo) (r : Ra) (g : List Int) : Int × List (Int × Int) := if UnOk v r g then (0, chs (cutS (und v r g) (pcs v r))) else (2, [])
set_option maxHeartbeats 4000000 in
theorem Under_any (v : Vo) (r : Ra) (g : List Int) (A : Option Addr) (c B : Nat) (w : World) (hL : g.length ≤ maxLen) (hS : Sl w B 1 A g.length (iL g)) :
    Ret Try.prog 19 [.agg (vL v).toArray, .slice A g.length c, .agg (rL r).toArray] w fun x w' => ∃ A c e l, x = .tuple #[.slice A l.length c, .int .i64 e] ∧ Sl w' w'.heap.size 2 A l.length (l.flatMap cL) ∧ Chg No w w' ∧ (e, l) = unR v r g := by
  refine enter Try.func19 rfl Try.ntmps19 rfl ?_
  refine go T_ok 200 rfl ?_
  refine bx rfl rfl rfl (cs := vL v) rfl ?_
  intro g1 u1 hg1 hs1 q1 B1
  refine go T_ok 200 rfl ?_
  refine bx rfl rfl rfl (cs := rL r) rfl ?_
  intro g2 u2 hg2 hs2 q2 B2
  have B1 := B1.no q2
  have q12 := q1.trans q2
  refine go T_ok 200 rfl ?_
  refine ldA T_ok rfl rfl rfl rfl rfl B1.all ?_
  refine go T_ok 200 rfl ?_
  refine call rfl rfl rfl (ok _ (by decide) rfl) (volume_any v _) ?_
  rintro x w1 ⟨rfl, p1⟩
  refine go T_ok 200 rfl ?_
  refine guardN rfl rfl rfl (fun hv => ?_) (fun hv => ?_)
  · have hv := of_decide_eq_false hv
    refine go T_ok 200 rfl ?_
    repeat (first | (refine guardA (b := true) rfl rfl rfl rfl (fun _ => ?_) (fun e => by cases e); refine go T_ok 200 rfl ?_) | (refine guardA (b := false) rfl rfl rfl rfl (fun e => by cases e) (fun _ => ?_); refine go T_ok 200 rfl ?_) | (refine condT rfl rfl ?_; refine go T_ok 200 rfl ?_) | (refine condF rfl rfl ?_; refine go T_ok 200 rfl ?_))
    exact ret (ret2 (v := .slice none 0 0) (x := .int .i64 2) Try.results19 rfl rfl ⟨none, 0, 2, [], rfl, slNil _ _ _, (q12.trans p1), by unfold unR; rw [if_neg (fun h => hv h.1)]⟩)
  · have hv := of_decide_eq_true hv
    refine go T_ok 200 rfl ?_
    refine ldA T_ok rfl rfl rfl rfl rfl (B2.no p1).all ?_
    refine go T_ok 200 rfl ?_
    refine call rfl rfl rfl (ok _ (by decide) rfl) (ray_any r _) ?_
    rintro x w2 ⟨rfl, p2⟩
    have B1 := (B1.no p1).no p2
    have B2 := (B2.no p1).no p2
    have q12 := (q12.trans p1).trans p2
    refine go T_ok 200 rfl ?_
    refine guardN rfl rfl rfl (fun hr => ?_) (fun hr => ?_)
    · have hr := of_decide_eq_false hr
      refine go T_ok 200 rfl ?_
      repeat (first | (refine guardA (b := true) rfl rfl rfl rfl (fun _ => ?_) (fun e => by cases e); refine go T_ok 200 rfl ?_) | (refine guardA (b := false) rfl rfl rfl rfl (fun e => by cases e) (fun _ => ?_); refine go T_ok 200 rfl ?_) | (refine condT rfl rfl ?_; refine go T_ok 200 rfl ?_) | (refine condF rfl rfl ?_; refine go T_ok 200 rfl ?_))
      exact ret (ret2 (v := .slice none 0 0) (x := .int .i64 2) Try.results19 rfl rfl ⟨none, 0, 2, [], rfl, slNil _ _ _, q12, by unfold unR; rw [if_neg (fun h => hr h.2.1)]⟩)
    · have hr := of_decide_eq_true hr
      refine go T_ok 200 rfl ?_
      refine ldA T_ok rfl rfl rfl rfl rfl B1.all ?_
      refine go T_ok 200 rfl ?_
      refine call rfl rfl rfl (ok _ (by decide) rfl) (grounded_any v g A c B _ hv hL (hS.no q12)) ?_
      rintro x w3 ⟨rfl, p3⟩
      have B1 := B1.no p3
      have B2 := B2.no p3
      have q12 := q12.trans p3
      refine go T_ok 200 rfl ?_
      refine cond rfl (fun hg => ?_) (fun hg => ?_)
      · have hg := ndT hg
        refine go T_ok 200 rfl ?_
        repeat (first | (refine guardA (b := true) rfl rfl rfl rfl (fun _ => ?_) (fun e => by cases e); refine go T_ok 200 rfl ?_) | (refine guardA (b := false) rfl rfl rfl rfl (fun e => by cases e) (fun _ => ?_); refine go T_ok 200 rfl ?_) | (refine condT rfl rfl ?_; refine go T_ok 200 rfl ?_) | (refine condF rfl rfl ?_; refine go T_ok 200 rfl ?_))
        exact ret (ret2 (v := .slice none 0 0) (x := .int .i64 2) Try.results19 rfl rfl ⟨none, 0, 2, [], rfl, slNil _ _ _, q12, by unfold unR; rw [if_neg (fun h => hg h.2.2)]⟩)
      · have hg := ndF hg
        refine go T_ok 200 rfl ?_
        refine ldA T_ok rfl rfl rfl rfl rfl B1.all ?_
        refine go T_ok 200 rfl ?_
        refine ldA T_ok rfl rfl rfl rfl rfl B2.all ?_
        refine go T_ok 200 rfl ?_
        refine call rfl rfl rfl (ok _ (by decide) rfl) (through_any v r _ hr) ?_
        rintro x w4 ⟨rfl, p4⟩
        refine go T_ok 200 rfl ?_
        refine nw rfl rfl (z := .agg #[I 0, I 0, I 0, I 0, I 0, I 0, I 0, I 0, I 0, I 0, I 0, I 0, I 0, I 0]) (by kernel_rfl) (cs := [I 0, I 0, I 0, I 0, I 0, I 0, I 0, I 0, I 0, I 0, I 0, I 0, I 0, I 0]) rfl ?_
        intro g5 w5 hg5 hs5 p5 B5
        refine go T_ok 200 rfl ?_
        refine stA T_ok rfl rfl rfl rfl (vs := wL v r) rfl rfl rfl B5 rfl ?_
        intro w6 p6 B6 hs6
        have B6 : Bk w6 g5 103 (wL v r) := B6
        have q46 : Chg No w3 w6 := (p4.trans p5).step p6 (fun k hk e => by have := p4.size; omega)
        have q06 := q12.trans q46
        refine go T_ok 200 rfl ?_
        refine draw mixed (fun w' => Chg No w6 w') ([0,1,2].map (fun i => (i, true)) ++ [(3, false)] ++ [(4, false)] ++ [(5, false)] ++ [(6, false)] ++ [7,8].map (fun i => (i, true))) rfl (by kernel_rfl) (Chg.drew _) ?_
        refine goH T_ok 200 rfl ?_
        refine quietH rfl (fun w' hS => r_loadA T_ok rfl rfl rfl rfl (B6.no hS).all) ?_
        refine goH T_ok 200 rfl ?_
        refine quietH rfl (fun w' hS => r_loadA T_ok rfl rfl rfl rfl (B6.no hS).all) ?_
        refine goH T_ok 200 rfl ?_
        refine callE rfl rfl rfl (ok _ (by decide) rfl) (under_any v r A g.length c _) ?_
        rintro x w7 ⟨gG, gW, rfl, p7, G7, W7⟩
        have q67 : Chg No w6 w7 := (Chg.drew _).trans p7
        refine ⟨q67, ?_⟩
        refine goH T_ok 200 rfl ?_
        refine rowE T_ok rfl rfl rfl rfl rfl rfl (cs := [.func (.func 89) #[] #[.pointer (some ⟨gG, 0, none⟩), .pointer (some ⟨gW, 0, none⟩)]]) rfl ?_
        intro gr w8 hgr hs8 p8 R8
        refine ⟨q67.trans p8, ?_⟩
        refine goH T_ok 200 rfl ?_
        have S8 := hS.no ((q06.trans q67).trans p8)
        refine callE rfl rfl rfl (ok _ (by decide) rfl) (parts_any v r (und v r g) _ 1 1 _ hv hr (cuts_und hv hr hg R8 (G7.no p8) (W7.no p8) S8)) ?_
        rintro x w9 ⟨A9, c9, rfl, o9, p9⟩
        refine ⟨(q67.trans p8).trans p9, ?_⟩
        refine goH T_ok 200 rfl ?_
        refine callE rfl rfl rfl (ok _ (by decide) rfl) (chordsC_any v r (und v r g) A9 c9 _ _ hv hr (shr_und v r g) (own_sl o9)) ?_
        rintro x w10 ⟨A10, c10, rfl, o10, p10⟩
        have q610 := ((q67.trans p8).trans p9).trans p10
        refine ⟨q610, ?_⟩
        refine goH T_ok 200 rfl ?_
        refine endH ?_
        refine go T_ok 200 rfl ?_
        have hl : (chs (cutS (und v r g) (pcs v r))).length = (cutS (und v r g) (pcs v r)).length := by simp [chs]
        rw [← hl] at o10 ⊢
        exact ret (ret2 (v := .slice _ _ _) (x := .int .i64 0) Try.results19 rfl rfl ⟨A10, c10, 0, chs (cutS (und v r g) (pcs v r)), rfl, own_sl o10, q06.trans q610, by unfold unR; rw [if_pos ⟨hv, hr, hg⟩]⟩)
end Go.Proofs.Ytkkjfjeniaiaiaa
