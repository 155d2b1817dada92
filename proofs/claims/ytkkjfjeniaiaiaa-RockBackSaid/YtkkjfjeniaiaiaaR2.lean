/- The contracts of the specification of layer 6: Pieces, Chords, Cut, Same. -/
import Derived.Test.YtkkjfjeniaiaiaaR1
namespace Go.Proofs.Ytkkjfjeniaiaiaa
open Go.Ev Go.Proofs Go.Rock
attribute [local irreducible] At AtH

theorem rcellX_any (v : Vo) (r : Ra) (x : Ax) (a c : Int) (w : World) (hv : VoOk v) (hr : RaOk r) (hx : x ∈ axs v r) (ha : 0 ≤ a) (ha' : a ≤ 24192000000) (hc : 0 ≤ c) (hc' : c ≤ 24192000000) :
    Ret Try.prog 84 [.int .i64 (tk r), .int .i64 x.1, .int .i64 x.2.1, .int .i64 x.2.2, .int .i64 v.sz, .int .i64 a, .int .i64 c] w fun y w' => y = .int .i64 (celX v r a c x) ∧ w = w' := by
  obtain ⟨h1, h2, h3, _⟩ := axs_ok hv hr hx
  have hs : 1 ≤ v.sz ∧ v.sz ≤ 1000 := hv.2.2.2.2
  have K := rcell_any (tk r) v.sz x.1 x.2.1 a c x.2.2.toNat w (tk_pos r) (tk_le hr) hs.1 hs.2 h1.1 h1.2 h2.1 h2.2 (by omega) ha ha' hc hc'
  rw [show ((x.2.2.toNat : Nat) : Int) = x.2.2 by omega] at K
  exact K
theorem rcrossX_any (v : Vo) (r : Ra) (x : Ax) (l : List Int) (A : Option Addr) (c B : Nat) (w : World) (hv : VoOk v) (hr : RaOk r) (hx : x ∈ axs v r) (hL : l.length ≤ 100) (hc : l.length ≤ c) (hS : Sl w B 1 A l.length (iL l)) :
    Ret Try.prog 83 [.slice A l.length c, .int .i64 (tk r), .int .i64 x.1, .int .i64 x.2.1, .int .i64 x.2.2, .int .i64 v.sz] w fun y w' => ∃ A' c', y = .slice A' (crR l (tk r) x.1 x.2.1 x.2.2.toNat v.sz).length c' ∧ (crR l (tk r) x.1 x.2.1 x.2.2.toNat v.sz).length ≤ c' ∧ Sl w' w'.heap.size 1 A' (crR l (tk r) x.1 x.2.1 x.2.2.toNat v.sz).length (iL (crR l (tk r) x.1 x.2.1 x.2.2.toNat v.sz)) ∧ Chg No w w' := by
  obtain ⟨h1, h2, h3, h4⟩ := axs_ok hv hr hx
  have hs : 1 ≤ v.sz ∧ v.sz ≤ 1000 := hv.2.2.2.2
  have K := rcross_any l (tk r) x.1 x.2.1 v.sz x.2.2.toNat A c B w hL hc hS (tk_pos r) (tk_le hr) h4 (by omega) hs.2 h1.1 h1.2 (by omega)
  rw [show ((x.2.2.toNat : Nat) : Int) = x.2.2 by omega] at K
  exact K
theorem pL_ones (l : List Pc) : (l.flatMap pL).all (·.oneCell') = true := by
  induction l with
  | nil => rfl
  | cons p l ih => rw [List.flatMap_cons, List.all_append, ih]; rfl
set_option maxHeartbeats 4000000 in
theorem Pieces_any (v : Vo) (r : Ra) (w : World) (hv : VoOk v) (hr : RaOk r) :
    Ret Try.prog 52 [.agg (vL v).toArray, .agg (rL r).toArray] w fun x w' => ∃ A c, x = .slice A (pcs v r).length c ∧ w'.ownsRow w.heap.size 85 3 x (pcs v r).length ((pcs v r).flatMap pL) ∧ Chg No w w' := by
  have t0 := tk_pos r
  have t1 := tk_le hr
  have htl := ts_len r hv
  refine enter Try.func52 rfl Try.ntmps52 rfl ?_
  refine go T_ok 200 rfl ?_
  refine bx rfl rfl rfl (cs := vL v) rfl ?_
  intro g1 u1 hg1 hs1 q1 B1
  refine go T_ok 200 rfl ?_
  refine bx rfl rfl rfl (cs := rL r) rfl ?_
  intro g2 u2 hg2 hs2 q2 B2
  have B1 := B1.no q2
  have q12 := q1.trans q2
  refine go T_ok 200 rfl ?_
  refine ldA T_ok rfl rfl rfl rfl rfl B2.all ?_
  refine go T_ok 200 rfl ?_
  refine call rfl rfl rfl (ok _ (by decide) rfl) (rTicks_any r _ hr) ?_
  rintro x w1 ⟨rfl, p1⟩
  refine go T_ok 200 rfl ?_
  refine row T_ok rfl rfl rfl rfl rfl rfl (cs := iL [0]) rfl ?_
  intro g3 w2 hg3 hs3 p2 B3 _
  have S2 := B3.sl (sz := 1) (m := [(0 : Int)].length) rfl
  have p12 := p1.trans p2
  have B1 := B1.no p12
  have B2 := B2.no p12
  have n1 := crR_len [0] (tk r) r.x r.dx v.nx.toNat v.sz
  have n2 := crR_len (crR [0] (tk r) r.x r.dx v.nx.toNat v.sz) (tk r) r.y r.dy v.ny.toNat v.sz
  have hv' := hv
  unfold VoOk at hv'
  have n0 : ([0] : List Int).length = 1 := rfl
  refine go T_ok 200 rfl ?_
  repeat (first | (refine ld T_ok rfl rfl rfl rfl (Bk.get B1 rfl) ?_; refine go T_ok 200 rfl ?_) | (refine ld T_ok rfl rfl rfl rfl (Bk.get B2 rfl) ?_; refine go T_ok 200 rfl ?_) | (refine guardA (b := true) rfl rfl rfl rfl (fun _ => ?_) (fun e => by cases e); refine go T_ok 200 rfl ?_) | (refine guardA (b := false) rfl rfl rfl rfl (fun e => by cases e) (fun _ => ?_); refine go T_ok 200 rfl ?_) | (refine condT rfl rfl ?_; refine go T_ok 200 rfl ?_) | (refine condF rfl rfl ?_; refine go T_ok 200 rfl ?_))
  refine call rfl rfl rfl (ok _ (by decide) rfl) (rcrossX_any v r (r.x, r.dx, v.nx) [0] _ _ _ _ hv hr (by simp [axs]) (by simp) (Nat.le_refl _) S2) ?_
  rintro x w3 ⟨A3, c3, rfl, hc3, S3, p3⟩
  have B1 := B1.no p3
  have B2 := B2.no p3
  refine go T_ok 200 rfl ?_
  repeat (first | (refine ld T_ok rfl rfl rfl rfl (Bk.get B1 rfl) ?_; refine go T_ok 200 rfl ?_) | (refine ld T_ok rfl rfl rfl rfl (Bk.get B2 rfl) ?_; refine go T_ok 200 rfl ?_) | (refine guardA (b := true) rfl rfl rfl rfl (fun _ => ?_) (fun e => by cases e); refine go T_ok 200 rfl ?_) | (refine guardA (b := false) rfl rfl rfl rfl (fun e => by cases e) (fun _ => ?_); refine go T_ok 200 rfl ?_) | (refine condT rfl rfl ?_; refine go T_ok 200 rfl ?_) | (refine condF rfl rfl ?_; refine go T_ok 200 rfl ?_))
  refine call rfl rfl rfl (ok _ (by decide) rfl) (rcrossX_any v r (r.y, r.dy, v.ny) _ A3 c3 _ _ hv hr (by simp [axs]) (by show (crR [0] (tk r) r.x r.dx v.nx.toNat v.sz).length ≤ 100; omega) hc3 S3) ?_
  rintro x w4 ⟨A4, c4, rfl, hc4, S4, p4⟩
  have B1 := B1.no p4
  have B2 := B2.no p4
  refine go T_ok 200 rfl ?_
  repeat (first | (refine ld T_ok rfl rfl rfl rfl (Bk.get B1 rfl) ?_; refine go T_ok 200 rfl ?_) | (refine ld T_ok rfl rfl rfl rfl (Bk.get B2 rfl) ?_; refine go T_ok 200 rfl ?_) | (refine guardA (b := true) rfl rfl rfl rfl (fun _ => ?_) (fun e => by cases e); refine go T_ok 200 rfl ?_) | (refine guardA (b := false) rfl rfl rfl rfl (fun e => by cases e) (fun _ => ?_); refine go T_ok 200 rfl ?_) | (refine condT rfl rfl ?_; refine go T_ok 200 rfl ?_) | (refine condF rfl rfl ?_; refine go T_ok 200 rfl ?_))
  refine call rfl rfl rfl (ok _ (by decide) rfl) (rcrossX_any v r (r.z, r.dz, v.nz) _ A4 c4 _ _ hv hr (by simp [axs]) (by show (crR (crR [0] (tk r) r.x r.dx v.nx.toNat v.sz) (tk r) r.y r.dy v.ny.toNat v.sz).length ≤ 100; omega) hc4 S4) ?_
  rintro x w5 ⟨A5, c5, rfl, hc5, S5, p5⟩
  have B1 := B1.no p5
  have B2 := B2.no p5
  have q05 : Chg No w w5 := (((q12.trans p12).trans p3).trans p4).trans p5
  have hts : crR (crR (crR [0] (tk r) (r.x, r.dx, v.nx).1 (r.x, r.dx, v.nx).2.1 (r.x, r.dx, v.nx).2.2.toNat v.sz) (tk r) (r.y, r.dy, v.ny).1 (r.y, r.dy, v.ny).2.1 (r.y, r.dy, v.ny).2.2.toNat v.sz) (tk r) (r.z, r.dz, v.nz).1 (r.z, r.dz, v.nz).2.1 (r.z, r.dz, v.nz).2.2.toNat v.sz = ts v r := rfl
  rw [hts] at S5 hc5 ⊢
  have hsz5 := q05.size
  refine go T_ok 200 rfl ?_
  have hh := ts_head v r
  have hne : 1 ≤ (ts v r).length := by have := (List.getElem?_eq_some_iff.1 hh).1; omega
  have hstart : pcsF (cel v r) ((ts v r).take (0 + 1)) = [] := by
    rw [take_snoc hh]
    rfl
  refine loop [2, 3, 5, 6, 7, 8] (fun x : Nat × Value => [.pointer (some ⟨g1, 0, none⟩), .pointer (some ⟨g2, 0, none⟩), .int .i64 (tk r), .slice A5 (ts v r).length c5, x.2, .int .i64 ((x.1 + 1 : Nat) : Int)])
    (fun x w' => x.1 + 1 ≤ (ts v r).length ∧ Chg No w5 w' ∧ w'.ownsRow w5.heap.size 85 3 x.2 (pcsF (cel v r) ((ts v r).take (x.1 + 1))).length ((pcsF (cel v r) ((ts v r).take (x.1 + 1))).flatMap pL)) (fun x => (ts v r).length - x.1) (0, .slice none 0 0) (fun _ => rfl) rfl
    ⟨hne, Chg.refl _ _, by rw [hstart]; exact own_nil⟩ ?_
  rintro ⟨j, out⟩ τ w6 ⟨hj, p6, o6⟩
  simp only at hj o6
  obtain ⟨Ao, co, rfl⟩ := own_form o6
  have B1 := B1.no p6
  have B2 := B2.no p6
  have S6 := S5.no p6
  refine go T_ok 200 rfl ?_
  refine condD rfl (fun hlt => ?_) (fun hlt => ?_)
  · have hlt : j + 1 < (ts v r).length := by omega
    obtain ⟨a, ha⟩ : ∃ a, (ts v r)[j]? = some a := ⟨_, List.getElem?_eq_getElem (by omega)⟩
    obtain ⟨c, hc⟩ : ∃ a, (ts v r)[j + 1]? = some a := ⟨_, List.getElem?_eq_getElem hlt⟩
    have hab := ts_bd hv hr (List.mem_of_getElem? ha)
    have hcb := ts_bd hv hr (List.mem_of_getElem? hc)
    obtain ⟨b, o, rfl, hb, hca⟩ := S6.elI ha
    obtain ⟨b', o', hA, hb', hcc⟩ := S6.elI hc
    simp only [Option.some.injEq, Addr.mk.injEq, and_true] at hA
    obtain ⟨rfl, rfl⟩ := hA
    have hlt6 : b < w6.heap.size := Nat.lt_of_lt_of_le hb S6.2.1
    have k0 : ∀ w', Chg No w6 w' → w'.cell? ⟨b, o + j * 1, none⟩ = some (.int .i64 a) := fun w' hS => (hS.cell (a := ⟨b, o + j * 1, none⟩) hlt6 (fun h => h)).trans hca
    have k1 : ∀ w', Chg No w6 w' → w'.cell? ⟨b, o + (j + 1) * 1, none⟩ = some (.int .i64 c) := fun w' hS => (hS.cell (a := ⟨b, o + (j + 1) * 1, none⟩) hlt6 (fun h => h)).trans hcc
    have e1 : w64 (((j + 1 : Nat) : Int) - 1) = (j : Int) := by rw [w64_id (by omega) (by omega)]; omega
    have e2 : w64 (((j + 1 : Nat) : Int) + 1) = ((j + 1 + 1 : Nat) : Int) := w64_id (by omega) (by omega)
    have hgl : ((ts v r).take (j + 1)).getLast? = some a := by rw [take_snoc ha]; simp
    have hsn := pcsF_snoc (cel v r) c _ a hgl
    rw [← take_snoc hc] at hsn
    have hlen2 := pcsF_len (cel v r) ((ts v r).take (j + 1))
    rw [List.length_take] at hlen2
    refine go T_ok 200 rfl ?_
    refine draw mixed (fun w' => Chg No w6 w') ([0,1,2,3,4,5,6,7,8,9,10].map (fun i => (i, true))) rfl (by kernel_rfl) (Chg.drew _) ?_
    refine goH T_ok 200 rfl ?_
    rw [e1]
    refine quietH rfl (fun w' hS => r_idx T_ok rfl rfl rfl rfl j rfl (by omega)) ?_
    refine goH T_ok 200 rfl ?_
    refine quietH rfl (fun w' hS => r_load T_ok rfl rfl rfl (k0 w' hS)) ?_
    refine goH T_ok 200 rfl ?_
    refine quietH rfl (fun w' hS => r_idx T_ok rfl rfl rfl rfl (j + 1) rfl hlt) ?_
    refine goH T_ok 200 rfl ?_
    refine quietH rfl (fun w' hS => r_load T_ok rfl rfl rfl (k1 w' hS)) ?_
    refine goH T_ok 200 rfl ?_
    refine endH ?_
    have pd := Chg.drew w6
    generalize w6.drew = w7 at pd ⊢
    have B1 := B1.no pd
    have B2 := B2.no pd
    refine go T_ok 200 rfl ?_
    refine draw mixed (fun w' => Chg No w7 w') ([0,1,2,3,4,5,6,7,8,9,10,12,13,14,15,16,17,18,19,20,21,22,24,25,26,27,28,29,30,31,32,33,34].map (fun i => (i, true)) ++ [(11, false)] ++ [(23, false)] ++ [(35, false)] ++ [36,37,38].map (fun i => (i, true))) rfl (by kernel_rfl) (Chg.drew _) ?_
    refine goH T_ok 200 rfl ?_
    repeat (first | (refine quietH rfl (fun w' hS => r_load T_ok rfl rfl rfl (Bk.get (B1.no hS) rfl)) ?_; refine goH T_ok 200 rfl ?_) | (refine quietH rfl (fun w' hS => r_load T_ok rfl rfl rfl (Bk.get (B2.no hS) rfl)) ?_; refine goH T_ok 200 rfl ?_))
    refine callE rfl rfl rfl (ok _ (by decide) rfl) (rcellX_any v r (r.x, r.dx, v.nx) a c _ hv hr (by simp [axs]) hab.1 hab.2 hcb.1 hcb.2) ?_
    rintro x w' ⟨rfl, rfl⟩
    refine ⟨Chg.drew _, ?_⟩
    refine goH T_ok 200 rfl ?_
    refine callE rfl rfl rfl (ok _ (by decide) rfl) (rcellX_any v r (r.y, r.dy, v.ny) a c _ hv hr (by simp [axs]) hab.1 hab.2 hcb.1 hcb.2) ?_
    rintro x w' ⟨rfl, rfl⟩
    refine ⟨Chg.drew _, ?_⟩
    refine goH T_ok 200 rfl ?_
    refine callE rfl rfl rfl (ok _ (by decide) rfl) (rcellX_any v r (r.z, r.dz, v.nz) a c _ hv hr (by simp [axs]) hab.1 hab.2 hcb.1 hcb.2) ?_
    rintro x w' ⟨rfl, rfl⟩
    refine ⟨Chg.drew _, ?_⟩
    refine goH T_ok 200 rfl ?_
    refine endH ?_
    have p8 := pd.trans (Chg.drew w7)
    have B1 := B1.no (Chg.drew w7)
    generalize w7.drew = w8 at p8 B1 ⊢
    have o8 := own_no o6 p8
    have hc0 : cel v r a c = if 0 ≤ celX v r a c (r.x, r.dx, v.nx) ∧ 0 ≤ celX v r a c (r.y, r.dy, v.ny) ∧ 0 ≤ celX v r a c (r.z, r.dz, v.nz) then (celX v r a c (r.z, r.dz, v.nz) * v.ny + celX v r a c (r.y, r.dy, v.ny)) * v.nx + celX v r a c (r.x, r.dx, v.nx) else -1 := rfl
    have bx : 0 ≤ celX v r a c (r.x, r.dx, v.nx) → celX v r a c (r.x, r.dx, v.nx) < v.nx := celA_bd t0 (by omega)
    have by_ : 0 ≤ celX v r a c (r.y, r.dy, v.ny) → celX v r a c (r.y, r.dy, v.ny) < v.ny := celA_bd t0 (by omega)
    have bz : 0 ≤ celX v r a c (r.z, r.dz, v.nz) → celX v r a c (r.z, r.dz, v.nz) < v.nz := celA_bd t0 (by omega)
    generalize celX v r a c (r.x, r.dx, v.nx) = x at *
    generalize celX v r a c (r.y, r.dy, v.ny) = y at *
    generalize celX v r a c (r.z, r.dz, v.nz) = z at *
    refine go T_ok 200 rfl ?_
    refine guardD rfl rfl rfl (fun hx => ?_) (fun hx => ?_)
    · refine go T_ok 200 rfl ?_
      refine guardD rfl rfl rfl (fun hy => ?_) (fun hy => ?_)
      · refine go T_ok 200 rfl ?_
        refine condD rfl (fun hz => ?_) (fun hz => ?_)
        · have bx := bx hx
          have by_ := by_ hy
          have bz := bz hz
          have hcp : cel v r a c = (z * v.ny + y) * v.nx + x := by rw [hc0, if_pos ⟨hx, hy, hz⟩]
          have m1 := mul_bd (a := z) (b := v.ny) (A := 12) (B := 12) hz (by omega) (by omega) (by omega)
          have m2 := mul_bd (a := z * v.ny + y) (b := v.nx) (A := 156) (B := 12) (by omega) (by omega) (by omega) (by omega)
          have f1 : w64 (z * v.ny) = z * v.ny := w64_id (by omega) (by omega)
          have f2 : w64 (z * v.ny + y) = z * v.ny + y := w64_id (by omega) (by omega)
          have f3 : w64 ((z * v.ny + y) * v.nx) = (z * v.ny + y) * v.nx := w64_id (by omega) (by omega)
          have f4 : w64 ((z * v.ny + y) * v.nx + x) = cel v r a c := by rw [hcp]; exact w64_id (by omega) (by omega)
          have epc : pc1 (cel v r) a c = [⟨cel v r a c, a, c⟩] := by unfold pc1; rw [if_pos (by omega)]
          rw [epc] at hsn
          refine go T_ok 200 rfl ?_
          repeat (first | (refine ld T_ok rfl rfl rfl rfl (Bk.get B1 rfl) ?_; refine go T_ok 200 rfl ?_) | (refine guardA (b := true) rfl rfl rfl rfl (fun _ => ?_) (fun e => by cases e); refine go T_ok 200 rfl ?_) | (refine guardA (b := false) rfl rfl rfl rfl (fun e => by cases e) (fun _ => ?_); refine go T_ok 200 rfl ?_) | (refine condT rfl rfl ?_; refine go T_ok 200 rfl ?_) | (refine condF rfl rfl ?_; refine go T_ok 200 rfl ?_))
          rw [f1, f2, f3, f4]
          refine app1 T_ok rfl rfl rfl rfl rfl rfl (cs := pL ⟨cel v r a c, a, c⟩) rfl rfl rfl rfl (fun _ => rfl) (fun _ => rfl) (fun _ => rfl) o8 (by unfold maxLen; omega) (by omega) (by have := q05.size; have := p6.size; have := p8.size; omega) ?_
          intro gx A' c' w9 o9 p9 hs9 _
          refine go T_ok 200 rfl ?_
          rw [e2]
          have hlen3 : (pcsF (cel v r) ((ts v r).take (j + 1))).length + 1 = (pcsF (cel v r) ((ts v r).take (j + 1 + 1))).length := by rw [hsn]; simp
          have hfl : (pcsF (cel v r) ((ts v r).take (j + 1))).flatMap pL ++ pL ⟨cel v r a c, a, c⟩ = (pcsF (cel v r) ((ts v r).take (j + 1 + 1))).flatMap pL := by rw [hsn]; simp
          rw [hlen3, hfl] at o9
          rw [hlen3]
          refine round ⟨(j + 1, _), rfl, ⟨by show j + 1 + 1 ≤ _; omega, (p6.trans p8).step p9 (fun k hk e => by have := own_ge o8 e; omega), o9⟩, by show (ts v r).length - (j + 1) < (ts v r).length - j; omega⟩
        · have hcn : cel v r a c = -1 := by rw [hc0, if_neg (by omega)]
          have epc : pc1 (cel v r) a c = [] := by unfold pc1; rw [hcn]; rfl
          rw [epc, List.append_nil] at hsn
          refine go T_ok 200 rfl ?_
          repeat (first | (refine guardA (b := true) rfl rfl rfl rfl (fun _ => ?_) (fun e => by cases e); refine go T_ok 200 rfl ?_) | (refine guardA (b := false) rfl rfl rfl rfl (fun e => by cases e) (fun _ => ?_); refine go T_ok 200 rfl ?_) | (refine condT rfl rfl ?_; refine go T_ok 200 rfl ?_) | (refine condF rfl rfl ?_; refine go T_ok 200 rfl ?_))
          rw [e2]
          rw [← hsn] at o8 ⊢
          exact round ⟨(j + 1, _), rfl, ⟨by show j + 1 + 1 ≤ _; omega, p6.trans p8, o8⟩, by show (ts v r).length - (j + 1) < (ts v r).length - j; omega⟩
      · have hcn : cel v r a c = -1 := by rw [hc0, if_neg (by omega)]
        have epc : pc1 (cel v r) a c = [] := by unfold pc1; rw [hcn]; rfl
        rw [epc, List.append_nil] at hsn
        refine go T_ok 200 rfl ?_
        repeat (first | (refine guardA (b := true) rfl rfl rfl rfl (fun _ => ?_) (fun e => by cases e); refine go T_ok 200 rfl ?_) | (refine guardA (b := false) rfl rfl rfl rfl (fun e => by cases e) (fun _ => ?_); refine go T_ok 200 rfl ?_) | (refine condT rfl rfl ?_; refine go T_ok 200 rfl ?_) | (refine condF rfl rfl ?_; refine go T_ok 200 rfl ?_))
        rw [e2]
        rw [← hsn] at o8 ⊢
        exact round ⟨(j + 1, _), rfl, ⟨by show j + 1 + 1 ≤ _; omega, p6.trans p8, o8⟩, by show (ts v r).length - (j + 1) < (ts v r).length - j; omega⟩
    · have hcn : cel v r a c = -1 := by rw [hc0, if_neg (by omega)]
      have epc : pc1 (cel v r) a c = [] := by unfold pc1; rw [hcn]; rfl
      rw [epc, List.append_nil] at hsn
      refine go T_ok 200 rfl ?_
      repeat (first | (refine guardA (b := true) rfl rfl rfl rfl (fun _ => ?_) (fun e => by cases e); refine go T_ok 200 rfl ?_) | (refine guardA (b := false) rfl rfl rfl rfl (fun e => by cases e) (fun _ => ?_); refine go T_ok 200 rfl ?_) | (refine condT rfl rfl ?_; refine go T_ok 200 rfl ?_) | (refine condF rfl rfl ?_; refine go T_ok 200 rfl ?_))
      rw [e2]
      rw [← hsn] at o8 ⊢
      exact round ⟨(j + 1, _), rfl, ⟨by show j + 1 + 1 ≤ _; omega, p6.trans p8, o8⟩, by show (ts v r).length - (j + 1) < (ts v r).length - j; omega⟩
  · have hjl : j + 1 = (ts v r).length := by omega
    rw [hjl, List.take_length] at o6
    have hp : pcs v r = pcsF (cel v r) (ts v r) := rfl
    rw [hjl, List.take_length]
    rw [← hp] at o6 ⊢
    refine go T_ok 200 rfl ?_
    exact ret (ret1 (v := .slice _ _ _) Try.results52 rfl ⟨_, _, rfl, own_base o6 hsz5, q05.trans p6⟩)

def cutR (a u : Int) (l : List Pc) : List Pc := cutS (btw a u) l
set_option maxHeartbeats 4000000 in
theorem Cut_any (l : List Pc) (a u : Int) (A : Option Addr) (c B : Nat) (w : World) (hL : l.length ≤ 100) (hS : Sl w B 3 A l.length (l.flatMap pL)) :
    Ret Try.prog 55 [.slice A l.length c, .int .i64 a, .int .i64 u] w fun x w' => ∃ A' c', x = .slice A' (cutS (btw a u) l).length c' ∧ w'.ownsRow w.heap.size 85 3 x (cutS (btw a u) l).length ((cutS (btw a u) l).flatMap pL) ∧ Chg No w w' := by
  refine enter Try.func55 rfl Try.ntmps55 rfl ?_
  refine go T_ok 200 rfl ?_
  refine loop [0, 1, 2, 7, 8] (fun x : Nat × Value => [.slice A l.length c, .int .i64 a, .int .i64 u, x.2, .int .i64 (x.1 : Int)])
    (fun x w' => x.1 ≤ l.length ∧ Chg No w w' ∧ w'.ownsRow w.heap.size 85 3 x.2 (cutS (btw a u) (l.take x.1)).length ((cutS (btw a u) (l.take x.1)).flatMap pL)) (fun x => l.length - x.1) (0, .slice none 0 0) (fun _ => rfl) rfl
    ⟨by show 0 ≤ _; omega, Chg.refl _ _, own_nil⟩ ?_
  rintro ⟨j, out⟩ τ w6 ⟨hj, p6, o6⟩
  simp only at hj o6
  obtain ⟨Ao, co, rfl⟩ := own_form o6
  have S6 := hS.no p6
  refine go T_ok 200 rfl ?_
  refine condD rfl (fun hlt => ?_) (fun hlt => ?_)
  · have hlt : j < l.length := by omega
    obtain ⟨p, hp⟩ : ∃ p, l[j]? = some p := ⟨_, List.getElem?_eq_getElem hlt⟩
    obtain ⟨b, o, rfl, hb, hc⟩ := S6.el pL_len hp
    have hlt6 : b < w6.heap.size := Nat.lt_of_lt_of_le hb S6.2.1
    have k0 : ∀ (i : Nat) (x : Value), nth? (pL p) i = some x → ∀ w', Chg No w6 w' → w'.cell? ⟨b, o + j * 3 + i, none⟩ = some x := fun i x hx w' hS => (hS.cell (a := ⟨b, o + j * 3 + i, none⟩) hlt6 (fun h => h)).trans (hc.get hx)
    have e2 : w64 ((j : Int) + 1) = ((j + 1 : Nat) : Int) := w64_id (by omega) (by omega)
    have hsn : cutS (btw a u) (l.take (j + 1)) = cutS (btw a u) (l.take j) ++ cutS (btw a u) [p] := by rw [take_snoc hp, cutS_app]
    have hlen2 := cutS_len (btw a u) (l.take j)
    rw [List.length_take] at hlen2
    refine go T_ok 200 rfl ?_
    refine draw mixed (fun w' => Chg No w6 w') ([0,1,2,3,4,5,6,7,8,9,10,11,12,13,14,15].map (fun i => (i, true))) rfl (by kernel_rfl) (Chg.drew _) ?_
    refine goH T_ok 200 rfl ?_
    refine quietH rfl (fun w' hS => r_idx T_ok rfl rfl rfl rfl j rfl hlt) ?_
    refine goH T_ok 200 rfl ?_
    refine quietH rfl (fun w' hS => r_load T_ok rfl rfl rfl (k0 1 _ rfl w' hS)) ?_
    refine goH T_ok 200 rfl ?_
    refine quietH rfl (fun w' hS => r_idx T_ok rfl rfl rfl rfl j rfl hlt) ?_
    refine goH T_ok 200 rfl ?_
    refine quietH rfl (fun w' hS => r_load T_ok rfl rfl rfl (k0 2 _ rfl w' hS)) ?_
    refine goH T_ok 200 rfl ?_
    refine endH ?_
    have pd := Chg.drew w6
    have k1 := k0
    generalize w6.drew = w7 at pd ⊢
    have o7 := own_no o6 pd
    refine go T_ok 200 rfl ?_
    refine condD rfl (fun hau => ?_) (fun hau => ?_)
    · have ecut : cutS (btw a u) [p] = [⟨p.c, max p.a a, min p.u u⟩] := by unfold cutS; simp [btw, hau]
      rw [ecut] at hsn
      refine go T_ok 200 rfl ?_
      refine idx T_ok rfl rfl rfl rfl rfl j rfl hlt ?_
      refine go T_ok 200 rfl ?_
      refine ld T_ok rfl rfl rfl rfl (k0 0 _ rfl _ pd) ?_
      refine go T_ok 200 rfl ?_
      refine app1 T_ok rfl rfl rfl rfl rfl rfl (cs := pL ⟨p.c, max p.a a, min p.u u⟩) rfl rfl rfl rfl (fun _ => rfl) (fun _ => rfl) (fun _ => rfl) o7 (by unfold maxLen; omega) (by omega) (by have := p6.size; have := pd.size; omega) ?_
      intro gx A' c' w9 o9 p9 hs9 _
      refine go T_ok 200 rfl ?_
      rw [e2]
      have hlen3 : (cutS (btw a u) (l.take j)).length + 1 = (cutS (btw a u) (l.take (j + 1))).length := by rw [hsn]; simp
      have hfl : (cutS (btw a u) (l.take j)).flatMap pL ++ pL ⟨p.c, max p.a a, min p.u u⟩ = (cutS (btw a u) (l.take (j + 1))).flatMap pL := by rw [hsn]; simp
      rw [hlen3, hfl] at o9
      rw [hlen3]
      exact round ⟨(j + 1, _), rfl, ⟨by show j + 1 ≤ _; omega, (p6.trans pd).step p9 (fun k hk e => by have := own_ge o7 e; omega), o9⟩, by show l.length - (j + 1) < l.length - j; omega⟩
    · have ecut : cutS (btw a u) [p] = [] := by unfold cutS; simp [btw]; omega
      rw [ecut, List.append_nil] at hsn
      refine go T_ok 200 rfl ?_
      rw [e2]
      rw [← hsn] at o7 ⊢
      exact round ⟨(j + 1, _), rfl, ⟨by show j + 1 ≤ _; omega, p6.trans pd, o7⟩, by show l.length - (j + 1) < l.length - j; omega⟩
  · have hjl : j = l.length := by omega
    subst hjl
    rw [List.take_length] at o6 ⊢
    refine go T_ok 200 rfl ?_
    exact ret (ret1 (v := .slice _ _ _) Try.results55 rfl ⟨_, _, rfl, o6, p6⟩)
set_option maxHeartbeats 4000000 in
theorem rChords_any (l : List Pc) (A : Option Addr) (c B : Nat) (w : World) (hL : l.length ≤ 100) (hS : Sl w B 3 A l.length (l.flatMap pL)) (hb : ∀ p ∈ l, -9223372036854775808 ≤ p.u - p.a ∧ p.u - p.a ≤ 9223372036854775807) :
    Ret Try.prog 25 [.slice A l.length c] w fun x w' => ∃ A' c', x = .slice A' (chs l).length c' ∧ Sl w' w'.heap.size 2 A' (chs l).length ((chs l).flatMap cL) ∧ Chg No w w' := by
  have hcl : (chs l).length = l.length := by simp [chs]
  rw [hcl]
  refine enter Try.func25 rfl Try.ntmps25 rfl ?_
  refine go T_ok 200 rfl ?_
  refine loop [0, 3, 4] (fun x : Nat × Value => [.slice A l.length c, x.2, .int .i64 (x.1 : Int)])
    (fun x w' => x.1 ≤ l.length ∧ Chg No w w' ∧ w'.ownsRow w.heap.size 59 2 x.2 x.1 ((chs (l.take x.1)).flatMap cL)) (fun x => l.length - x.1) (0, .slice none 0 0) (fun _ => rfl) rfl
    ⟨by show 0 ≤ _; omega, Chg.refl _ _, own_nil⟩ ?_
  rintro ⟨j, out⟩ τ w6 ⟨hj, p6, o6⟩
  simp only at hj o6
  obtain ⟨Ao, co, rfl⟩ := own_form o6
  have S6 := hS.no p6
  refine go T_ok 200 rfl ?_
  refine condD rfl (fun hlt => ?_) (fun hlt => ?_)
  · have hlt : j < l.length := by omega
    obtain ⟨p, hp⟩ : ∃ p, l[j]? = some p := ⟨_, List.getElem?_eq_getElem hlt⟩
    have hpb := hb p (List.mem_of_getElem? hp)
    obtain ⟨b, o, rfl, hb, hc⟩ := S6.el pL_len hp
    have hlt6 : b < w6.heap.size := Nat.lt_of_lt_of_le hb S6.2.1
    have e1 : w64 (p.u - p.a) = p.u - p.a := w64_id hpb.1 hpb.2
    have e2 : w64 ((j : Int) + 1) = ((j + 1 : Nat) : Int) := w64_id (by omega) (by omega)
    have hsn : chs (l.take (j + 1)) = chs (l.take j) ++ [(p.c, p.u - p.a)] := by rw [take_snoc hp]; simp [chs]
    refine go T_ok 200 rfl ?_
    have hlt0 : b < w.heap.size := Nat.lt_of_lt_of_le hb hS.2.1
    have k0 : ∀ (i : Nat) (x : Value), nth? (pL p) i = some x → ∀ w', Chg (fun k => w.heap.size ≤ k) w6 w' → w'.cell? ⟨b, o + j * 3 + i, none⟩ = some x := fun i x hx w' hS => (hS.cell (a := ⟨b, o + j * 3 + i, none⟩) hlt6 (by show ¬ w.heap.size ≤ b; omega)).trans (hc.get hx)
    refine draw mixed (fun w' => Chg (fun k => w.heap.size ≤ k) w6 w') ([0,1,2,3,4,5,6,7,8,9,10,11,12,13,14,15,16,17].map (fun i => (i, true)) ++ [(18, false)] ++ [(19, false)] ++ [20].map (fun i => (i, true))) rfl (by kernel_rfl) ((Chg.drew _).mono fun _ _ h => h.elim) ?_
    refine goH T_ok 200 rfl ?_
    refine quietH rfl (fun w' hS => r_idx T_ok rfl rfl rfl rfl j rfl hlt) ?_
    refine goH T_ok 200 rfl ?_
    refine quietH rfl (fun w' hS => r_load T_ok rfl rfl rfl (k0 0 _ rfl w' hS)) ?_
    refine goH T_ok 200 rfl ?_
    refine quietH rfl (fun w' hS => r_idx T_ok rfl rfl rfl rfl j rfl hlt) ?_
    refine goH T_ok 200 rfl ?_
    refine quietH rfl (fun w' hS => r_load T_ok rfl rfl rfl (k0 2 _ rfl w' hS)) ?_
    refine goH T_ok 200 rfl ?_
    refine quietH rfl (fun w' hS => r_idx T_ok rfl rfl rfl rfl j rfl hlt) ?_
    refine goH T_ok 200 rfl ?_
    refine quietH rfl (fun w' hS => r_load T_ok rfl rfl rfl (k0 1 _ rfl w' hS)) ?_
    refine goH T_ok 200 rfl ?_
    rw [e1]
    have pd := Chg.drew w6
    have hs6 := p6.size
    refine rowE T_ok rfl rfl rfl rfl rfl rfl (cs := cL (p.c, p.u - p.a)) rfl ?_
    intro g2 w8 hg2 hs8 p8 B8
    have q8 := pd.trans p8
    refine ⟨q8.mono fun _ _ h => h.elim, ?_⟩
    refine goH T_ok 200 rfl ?_
    have o8 := own_no o6 q8
    refine appSE T_ok rfl rfl rfl rfl rfl o8 (B8.sl (sz := 2) (m := 1) rfl) rfl (by unfold maxLen; omega) (by omega) (by have := q8.size; omega) ?_
    intro A9 c9 w9 o9 p9 _
    have q9 : Chg (fun k => w.heap.size ≤ k) w6 w9 := (q8.mono fun _ _ h => h.elim).trans (p9.mono fun k _ e => own_ge o8 e)
    refine ⟨q9, ?_⟩
    refine goH T_ok 200 rfl ?_
    refine endH ?_
    refine go T_ok 200 rfl ?_
    rw [e2]
    have hfl : (chs (l.take j)).flatMap cL ++ cL (p.c, p.u - p.a) = (chs (l.take (j + 1))).flatMap cL := by rw [hsn]; simp
    rw [hfl] at o9
    exact round ⟨(j + 1, _), rfl, ⟨by show j + 1 ≤ _; omega, p6.step q9 (fun k hk e => by omega), o9⟩, by show l.length - (j + 1) < l.length - j; omega⟩
  · have hjl : j = l.length := by omega
    subst hjl
    rw [List.take_length] at o6
    refine go T_ok 200 rfl ?_
    exact ret (ret1 (v := .slice _ _ _) Try.results25 rfl ⟨_, _, rfl, own_sl o6, p6⟩)
end Go.Proofs.Ytkkjfjeniaiaiaa
