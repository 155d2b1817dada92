/- The contracts of the specification of layer 6: Under. -/
import Derived.Test.YtkkjfjeniaiaiaaR2
namespace Go.Proofs.Ytkkjfjeniaiaiaa
open Go.Ev Go.Proofs Go.Rock
attribute [local irreducible] At AtH

/-- one piece of a row, as a row -/
theorem Sl.one {w : World} {B : Nat} {A : Option Addr} {l : List Pc} {c j : Nat} {p : Pc} (h : Sl w B 3 A l.length (l.flatMap pL)) (hc : l.length ≤ c) (hp : l[j]? = some p) :
    Sl w B 3 (if c = j then A else A.map fun x => x.add (j * 3)) (j + 1 - j) ([p].flatMap pL) := by
  have hj := (List.getElem?_eq_some_iff.1 hp).1
  obtain ⟨b, o, rfl, hb, hcell⟩ := Sl.el h pL_len hp
  have e : j + 1 - j = 1 := by omega
  rw [e]
  refine ⟨rfl, h.2.1, fun _ => ⟨b, o + j * 3, ?_, hb, ?_⟩⟩
  · rw [if_neg (by omega), Option.map_some, Addr.add_mid]
  · simpa using hcell
theorem und_len (v : Vo) (r : Ra) (g : List Int) (l : List Pc) : (cutS (und v r g) l).length ≤ l.length := cutS_len _ _
theorem when_bd {r : Ra} {h : Int} (hr : RaOk r) (h0 : 0 ≤ h) (h1 : h ≤ 12000) : -24192000000 ≤ (h - r.z) * (tk r / r.dz) ∧ (h - r.z) * (tk r / r.dz) ≤ 24192000000 ∧ -9223372036854775808 ≤ tk r / r.dz ∧ tk r / r.dz ≤ 9223372036854775807 := by
  have t0 := tk_pos r
  have t1 := tk_le hr
  have n0 := natAbs_ediv_le (t := tk r) (d := r.dz) t0
  have hz := hr.2.2.1
  have n1 : ((h - r.z) * (tk r / r.dz)).natAbs ≤ 112000 * 216000 := by
    rw [Int.natAbs_mul]
    exact Nat.mul_le_mul (by omega) (by omega)
  omega
set_option maxHeartbeats 8000000 in
theorem rUnder_any (v : Vo) (r : Ra) (g : List Int) (A : Option Addr) (c B : Nat) (w : World) (hv : VoOk v) (hr : RaOk r) (hg : GrOk v g) (hS : Sl w B 1 A g.length (iL g)) :
    Ret Try.prog 26 [.agg (vL v).toArray, .slice A g.length c, .agg (rL r).toArray] w fun x w' => ∃ A' c', x = .slice A' (cutS (und v r g) (pcs v r)).length c' ∧ w'.ownsRow w.heap.size 85 3 x (cutS (und v r g) (pcs v r)).length ((cutS (und v r g) (pcs v r)).flatMap pL) ∧ Chg No w w' := by
  have hlen := pcs_len r hv
  have hxy := vo_xy hv
  have t0 := tk_pos r
  have t1 := tk_le hr
  refine enter Try.func26 rfl Try.ntmps26 rfl ?_
  refine go T_ok 200 rfl ?_
  refine bx rfl rfl rfl (cs := vL v) rfl ?_
  intro g1 u1 hg1 hs1 q1 B1
  refine go T_ok 200 rfl ?_
  refine bx rfl rfl rfl (cs := rL r) rfl ?_
  intro g2 u2 hg2 hs2 q2 B2
  have B1 := B1.no q2
  have q12 := q1.trans q2
  refine go T_ok 200 rfl ?_
  refine ldA T_ok rfl rfl rfl rfl rfl B1.all ?_
  refine go T_ok 200 rfl ?_
  refine ldA T_ok rfl rfl rfl rfl rfl B2.all ?_
  refine go T_ok 200 rfl ?_
  refine call rfl rfl rfl (ok _ (by decide) rfl) (Pieces_any v r _ hv hr) ?_
  rintro x w1 ⟨A1, c1, rfl, o1, p1⟩
  have B1 := B1.no p1
  have B2 := B2.no p1
  refine go T_ok 200 rfl ?_
  refine ldA T_ok rfl rfl rfl rfl rfl B2.all ?_
  refine go T_ok 200 rfl ?_
  refine call rfl rfl rfl (ok _ (by decide) rfl) (rTicks_any r _ hr) ?_
  rintro x w2 ⟨rfl, p2⟩
  have B1 := B1.no p2
  have B2 := B2.no p2
  have l2w := B2.lt
  have o2 := own_no o1 p2
  have hcap := own_cap o2
  have S2 := own_sl o2
  have q02 := (q12.trans p1).trans p2
  have hmem : ∀ p ∈ pcs v r, 0 ≤ p.c ∧ 0 ≤ p.a ∧ p.a < p.u ∧ p.u ≤ 24192000000 := fun p hp => by
    obtain ⟨h1, _, h3, h4, _, _, h7⟩ := mem_pcs hv hp
    exact ⟨h1, h3, h4, (ts_bd hv hr h7).2⟩
  generalize pcs v r = L at hlen hcap S2 hmem ⊢
  have hszq := q02.size
  refine go T_ok 200 rfl ?_
  refine loop [1, 3, 5, 7, 8, 9, 10] (fun x : Nat × Value => [.slice A g.length c, .pointer (some ⟨g1, 0, none⟩), .pointer (some ⟨g2, 0, none⟩), x.2, .slice A1 L.length c1, .int .i64 (tk r), .int .i64 (x.1 : Int)])
    (fun x w' => x.1 ≤ L.length ∧ Chg No w2 w' ∧ w'.ownsRow w2.heap.size 85 3 x.2 (cutS (und v r g) (L.take x.1)).length ((cutS (und v r g) (L.take x.1)).flatMap pL)) (fun x => L.length - x.1) (0, .slice none 0 0) (fun _ => rfl) rfl
    ⟨by show 0 ≤ _; omega, Chg.refl _ _, own_nil⟩ ?_
  rintro ⟨j, out⟩ τ w6 ⟨hj, p6, o6⟩
  simp only at hj o6
  obtain ⟨Ao, co, rfl⟩ := own_form o6
  have S6 := S2.no p6
  have B1 := B1.no p6
  have B2 := B2.no p6
  refine go T_ok 200 rfl ?_
  refine condD rfl (fun hlt => ?_) (fun hlt => ?_)
  · have hlt : j < L.length := by omega
    obtain ⟨p, hp⟩ : ∃ p, L[j]? = some p := ⟨_, List.getElem?_eq_getElem hlt⟩
    obtain ⟨m1, m2, m3, m4⟩ := hmem p (List.mem_of_getElem? hp)
    obtain ⟨hlg, hget, h0, h1, hjj⟩ := hgt_ok (c := p.c) hv hg
    have hGS := (hS.no q02).no p6
    obtain ⟨bg, og, rfl, hbg, hcg⟩ := hGS.elI hget
    have hbg6 : bg < w6.heap.size := Nat.lt_of_lt_of_le hbg hGS.2.1
    obtain ⟨b, o, rfl, hb, hc⟩ := S6.el pL_len hp
    have hlt6 : b < w6.heap.size := Nat.lt_of_lt_of_le hb S6.2.1
    have e2 : w64 ((j : Int) + 1) = ((j + 1 : Nat) : Int) := w64_id (by omega) (by omega)
    have hsn : cutS (und v r g) (L.take (j + 1)) = cutS (und v r g) (L.take j) ++ cutS (und v r g) [p] := by rw [take_snoc hp, cutS_app]
    have hlen2 := cutS_len (und v r g) (L.take j)
    rw [List.length_take] at hlen2
    have hszp := p6.size
    refine go T_ok 200 rfl ?_
    refine draw mixed (fun w' => Chg No w6 w') ([0,1,2,3,4,5,6].map (fun i => (i, true)) ++ [(7, false)] ++ [8,9,10,11].map (fun i => (i, true))) rfl (by kernel_rfl) (Chg.drew _) ?_
    refine goH T_ok 200 rfl ?_
    refine quietH rfl (fun w' hS => r_idx T_ok rfl rfl rfl rfl j rfl hlt) ?_
    refine goH T_ok 200 rfl ?_
    refine quietH rfl (fun w' hS => r_load T_ok rfl rfl rfl (((hS.cell (a := ⟨b, o + j * 3 + 0, none⟩) hlt6 (fun h => h)).trans (hc.get (i := 0) rfl)))) ?_
    refine goH T_ok 200 rfl ?_
    refine quietH rfl (fun w' hS => r_loadA T_ok rfl rfl rfl rfl (B1.no hS).all) ?_
    refine goH T_ok 200 rfl ?_
    refine callE rfl rfl rfl (ok _ (by decide) rfl) (Columns_any v _ hv) ?_
    rintro x w7 ⟨rfl, p7⟩
    have q67 := (Chg.drew w6).trans p7
    refine ⟨q67, ?_⟩
    refine goH T_ok 200 rfl ?_
    refine quietH rfl (fun w' hS => by rw [r_rem rfl rfl rfl (by omega), Int.tmod_eq_emod_of_nonneg m1]) ?_
    refine goH T_ok 200 rfl ?_
    refine quietH rfl (fun w' hS => r_idx T_ok rfl rfl rfl rfl (p.c % (v.nx * v.ny)).toNat hjj.symm hlg) ?_
    refine goH T_ok 200 rfl ?_
    refine quietH rfl (fun w' hS => r_load T_ok rfl rfl rfl (((hS.cell (a := ⟨bg, og + (p.c % (v.nx * v.ny)).toNat * 1, none⟩) hbg6 (fun h => h)).trans hcg))) ?_
    refine goH T_ok 200 rfl ?_
    refine endH ?_
    have B2 := B2.no q67
    have o7 := own_no o6 q67
    have S7 := S6.no q67
    have hund : und v r g p = if 0 < r.dz then ⟨p.c, p.a, min p.u ((hgt v g p.c - r.z) * (tk r / r.dz))⟩ else if r.dz < 0 then ⟨p.c, max p.a ((hgt v g p.c - r.z) * (tk r / r.dz)), p.u⟩ else if hgt v g p.c ≤ r.z then ⟨p.c, p.a, p.a⟩ else p := rfl
    generalize hh : hgt v g p.c = h at h0 h1 hund ⊢
    obtain ⟨k1, k2, k3, k4⟩ := when_bd hr h0 h1
    have hz := hr.2.2.1
    have f1 : w64 (h - r.z) = h - r.z := w64_id (by omega) (by omega)
    have f2 : w64 (tk r / r.dz) = tk r / r.dz := w64_id k3 k4
    have f3 : w64 ((h - r.z) * (tk r / r.dz)) = (h - r.z) * (tk r / r.dz) := w64_id (by omega) (by omega)
    have hdiv : r.dz ≠ 0 → (tk r).tdiv r.dz = tk r / r.dz := fun h => Int.tdiv_eq_ediv_of_dvd (tk_dz h)
    have S1 := Sl.one S7 hcap hp
    have ej : j + 1 - j = 1 := by omega
    rw [ej] at S1
    have hsz7 := q67.size
    refine go T_ok 200 rfl ?_
    repeat (first | (refine ld T_ok rfl rfl rfl rfl (Bk.get B2 rfl) ?_; refine go T_ok 200 rfl ?_) | (refine guardA (b := true) rfl rfl rfl rfl (fun _ => ?_) (fun e => by cases e); refine go T_ok 200 rfl ?_) | (refine guardA (b := false) rfl rfl rfl rfl (fun e => by cases e) (fun _ => ?_); refine go T_ok 200 rfl ?_) | (refine condT rfl rfl ?_; refine go T_ok 200 rfl ?_) | (refine condF rfl rfl ?_; refine go T_ok 200 rfl ?_))
    refine condD rfl (fun hdz => ?_) (fun hdz => ?_)
    · have hdz : 0 < r.dz := hdz
      have hb0 : btw 0 ((h - r.z) * (tk r / r.dz)) p = ⟨p.c, p.a, min p.u ((h - r.z) * (tk r / r.dz))⟩ := by unfold btw; congr 1; omega
      rw [if_pos hdz] at hund
      rw [← hb0] at hund
      refine go T_ok 200 rfl ?_
      refine draw mixed (fun w' => Chg (fun k => w2.heap.size ≤ k) w7 w') ([0,1,2,3,4,5,6,7,8,9,10,11,12,13,14].map (fun i => (i, true)) ++ [(15, false)] ++ [(16, false)] ++ [17].map (fun i => (i, true))) rfl (by kernel_rfl) ((Chg.drew _).mono fun _ _ h => h.elim) ?_
      refine goH T_ok 200 rfl ?_
      rw [e2]
      refine quietH rfl (fun w' hS => r_slcLH T_ok rfl rfl rfl rfl rfl j (j + 1) rfl rfl (by omega) (by omega)) ?_
      refine goH T_ok 200 rfl ?_
      repeat (first | (refine quietH rfl (fun w' hS => r_load T_ok rfl rfl rfl (Bk.get (B2.keep hS (by omega)) rfl)) ?_; refine goH T_ok 200 rfl ?_))
      rw [f1]
      refine goH T_ok 200 rfl ?_
      repeat (first | (refine quietH rfl (fun w' hS => r_load T_ok rfl rfl rfl (Bk.get (B2.keep hS (by omega)) rfl)) ?_; refine goH T_ok 200 rfl ?_))
      refine quietH rfl (fun w' hS => by rw [r_quo rfl rfl rfl (by omega), hdiv (by omega), f2]) ?_
      refine goH T_ok 200 rfl ?_
      rw [f3, ej]
      refine callE rfl rfl rfl (ok _ (by decide) rfl) (Cut_any [p] 0 ((h - r.z) * (tk r / r.dz)) _ (c1 - j) _ _ (by simp) (S1.no (Chg.drew w7))) ?_
      rintro x w8 ⟨A8, c8, rfl, o8, p8⟩
      have q8 := (Chg.drew w7).trans p8
      refine ⟨q8.mono fun _ _ h => h.elim, ?_⟩
      refine goH T_ok 200 rfl ?_
      have o7' := own_no o7 q8
      have hcl : (cutS (btw 0 ((h - r.z) * (tk r / r.dz))) [p]).length ≤ 1 := cutS_len _ _
      refine appSE T_ok rfl rfl rfl rfl rfl o7' (own_sl o8) (pL_ones _) (by unfold maxLen; omega) (by omega) (by have := q8.size; omega) ?_
      intro A9 c9 w9 o9 p9 _
      have q9 : Chg (fun k => w2.heap.size ≤ k) w7 w9 := (q8.mono fun _ _ h => h.elim).trans (p9.mono fun k _ e => own_ge o7' e)
      refine ⟨q9, ?_⟩
      refine goH T_ok 200 rfl ?_
      refine endH ?_
      refine go T_ok 200 rfl ?_
      rw [e2]
      have hbt : cutS (btw 0 ((h - r.z) * (tk r / r.dz))) [p] = cutS (und v r g) [p] := by
        unfold cutS
        simp only [List.map_cons, List.map_nil, hund]
      have hlen3 : (cutS (und v r g) (L.take j)).length + (cutS (btw 0 ((h - r.z) * (tk r / r.dz))) [p]).length = (cutS (und v r g) (L.take (j + 1))).length := by rw [hsn, hbt, List.length_append]
      have hfl : (cutS (und v r g) (L.take j)).flatMap pL ++ (cutS (btw 0 ((h - r.z) * (tk r / r.dz))) [p]).flatMap pL = (cutS (und v r g) (L.take (j + 1))).flatMap pL := by rw [hsn, hbt, List.flatMap_append]
      rw [hlen3, hfl] at o9
      rw [hlen3]
      exact round ⟨(j + 1, _), rfl, ⟨by show j + 1 ≤ _; omega, (p6.trans q67).step q9 (fun k hk e => by omega), o9⟩, by show L.length - (j + 1) < L.length - j; omega⟩
    · refine go T_ok 200 rfl ?_
      repeat (first | (refine ld T_ok rfl rfl rfl rfl (Bk.get B2 rfl) ?_; refine go T_ok 200 rfl ?_) | (refine guardA (b := true) rfl rfl rfl rfl (fun _ => ?_) (fun e => by cases e); refine go T_ok 200 rfl ?_) | (refine guardA (b := false) rfl rfl rfl rfl (fun e => by cases e) (fun _ => ?_); refine go T_ok 200 rfl ?_) | (refine condT rfl rfl ?_; refine go T_ok 200 rfl ?_) | (refine condF rfl rfl ?_; refine go T_ok 200 rfl ?_))
      refine condD rfl (fun hdz2 => ?_) (fun hdz2 => ?_)
      · have hdz2 : r.dz < 0 := hdz2
        have hb0 : btw ((h - r.z) * (tk r / r.dz)) 1000000000000 p = ⟨p.c, max p.a ((h - r.z) * (tk r / r.dz)), p.u⟩ := by unfold btw; congr 1; omega
        rw [if_neg hdz, if_pos hdz2] at hund
        rw [← hb0] at hund
        refine go T_ok 200 rfl ?_
        refine draw mixed (fun w' => Chg (fun k => w2.heap.size ≤ k) w7 w') ([0,1,2,3,4,5,6,7,8,9,10,11,12,13,14].map (fun i => (i, true)) ++ [(15, false)] ++ [(16, false)] ++ [17].map (fun i => (i, true))) rfl (by kernel_rfl) ((Chg.drew _).mono fun _ _ h => h.elim) ?_
        refine goH T_ok 200 rfl ?_
        rw [e2]
        refine quietH rfl (fun w' hS => r_slcLH T_ok rfl rfl rfl rfl rfl j (j + 1) rfl rfl (by omega) (by omega)) ?_
        refine goH T_ok 200 rfl ?_
        repeat (first | (refine quietH rfl (fun w' hS => r_load T_ok rfl rfl rfl (Bk.get (B2.keep hS (by omega)) rfl)) ?_; refine goH T_ok 200 rfl ?_))
        rw [f1]
        refine goH T_ok 200 rfl ?_
        repeat (first | (refine quietH rfl (fun w' hS => r_load T_ok rfl rfl rfl (Bk.get (B2.keep hS (by omega)) rfl)) ?_; refine goH T_ok 200 rfl ?_))
        refine quietH rfl (fun w' hS => by rw [r_quo rfl rfl rfl (by omega), hdiv (by omega), f2]) ?_
        refine goH T_ok 200 rfl ?_
        rw [f3, ej]
        refine callE rfl rfl rfl (ok _ (by decide) rfl) (Cut_any [p] ((h - r.z) * (tk r / r.dz)) 1000000000000 _ (c1 - j) _ _ (by simp) (S1.no (Chg.drew w7))) ?_
        rintro x w8 ⟨A8, c8, rfl, o8, p8⟩
        have q8 := (Chg.drew w7).trans p8
        refine ⟨q8.mono fun _ _ h => h.elim, ?_⟩
        refine goH T_ok 200 rfl ?_
        have o7' := own_no o7 q8
        have hcl : (cutS (btw ((h - r.z) * (tk r / r.dz)) 1000000000000) [p]).length ≤ 1 := cutS_len _ _
        refine appSE T_ok rfl rfl rfl rfl rfl o7' (own_sl o8) (pL_ones _) (by unfold maxLen; omega) (by omega) (by have := q8.size; omega) ?_
        intro A9 c9 w9 o9 p9 _
        have q9 : Chg (fun k => w2.heap.size ≤ k) w7 w9 := (q8.mono fun _ _ h => h.elim).trans (p9.mono fun k _ e => own_ge o7' e)
        refine ⟨q9, ?_⟩
        refine goH T_ok 200 rfl ?_
        refine endH ?_
        refine go T_ok 200 rfl ?_
        rw [e2]
        have hbt : cutS (btw ((h - r.z) * (tk r / r.dz)) 1000000000000) [p] = cutS (und v r g) [p] := by
          unfold cutS
          simp only [List.map_cons, List.map_nil, hund]
        have hlen3 : (cutS (und v r g) (L.take j)).length + (cutS (btw ((h - r.z) * (tk r / r.dz)) 1000000000000) [p]).length = (cutS (und v r g) (L.take (j + 1))).length := by rw [hsn, hbt, List.length_append]
        have hfl : (cutS (und v r g) (L.take j)).flatMap pL ++ (cutS (btw ((h - r.z) * (tk r / r.dz)) 1000000000000) [p]).flatMap pL = (cutS (und v r g) (L.take (j + 1))).flatMap pL := by rw [hsn, hbt, List.flatMap_append]
        rw [hlen3, hfl] at o9
        rw [hlen3]
        exact round ⟨(j + 1, _), rfl, ⟨by show j + 1 ≤ _; omega, (p6.trans q67).step q9 (fun k hk e => by omega), o9⟩, by show L.length - (j + 1) < L.length - j; omega⟩
      · rw [if_neg hdz, if_neg hdz2] at hund
        refine go T_ok 200 rfl ?_
        repeat (first | (refine ld T_ok rfl rfl rfl rfl (Bk.get B2 rfl) ?_; refine go T_ok 200 rfl ?_) | (refine guardA (b := true) rfl rfl rfl rfl (fun _ => ?_) (fun e => by cases e); refine go T_ok 200 rfl ?_) | (refine guardA (b := false) rfl rfl rfl rfl (fun e => by cases e) (fun _ => ?_); refine go T_ok 200 rfl ?_) | (refine condT rfl rfl ?_; refine go T_ok 200 rfl ?_) | (refine condF rfl rfl ?_; refine go T_ok 200 rfl ?_))
        refine condD rfl (fun hzz => ?_) (fun hzz => ?_)
        · rw [if_neg (by omega)] at hund
          have hcut : cutS (und v r g) [p] = [p] := by unfold cutS; simp [hund, m3]
          rw [hcut] at hsn
          refine go T_ok 200 rfl ?_
          refine idx T_ok rfl rfl rfl rfl rfl j rfl hlt ?_
          refine go T_ok 200 rfl ?_
          refine ldA T_ok rfl rfl rfl (cs := pL p) rfl rfl (hc.keep hlt6 q67 (fun h => h)) ?_
          refine go T_ok 200 rfl ?_
          refine app1 T_ok rfl rfl rfl rfl rfl rfl (cs := pL p) rfl rfl rfl rfl (fun _ => rfl) (fun _ => rfl) (fun _ => rfl) o7 (by unfold maxLen; omega) (by omega) (by omega) ?_
          intro gx A' c' w9 o9 p9 hs9 _
          refine go T_ok 200 rfl ?_
          rw [e2]
          have hlen3 : (cutS (und v r g) (L.take j)).length + 1 = (cutS (und v r g) (L.take (j + 1))).length := by rw [hsn]; simp
          have hfl : (cutS (und v r g) (L.take j)).flatMap pL ++ pL p = (cutS (und v r g) (L.take (j + 1))).flatMap pL := by rw [hsn]; simp
          rw [hlen3, hfl] at o9
          rw [hlen3]
          exact round ⟨(j + 1, _), rfl, ⟨by show j + 1 ≤ _; omega, (p6.trans q67).step p9 (fun k hk e => by have := own_ge o7 e; omega), o9⟩, by show L.length - (j + 1) < L.length - j; omega⟩
        · rw [if_pos (by omega)] at hund
          have hcut : cutS (und v r g) [p] = [] := by unfold cutS; simp [hund]
          rw [hcut, List.append_nil] at hsn
          refine go T_ok 200 rfl ?_
          rw [e2]
          rw [← hsn] at o7 ⊢
          exact round ⟨(j + 1, _), rfl, ⟨by show j + 1 ≤ _; omega, p6.trans q67, o7⟩, by show L.length - (j + 1) < L.length - j; omega⟩
  · have hjl : j = L.length := by omega
    subst hjl
    rw [List.take_length] at o6 ⊢
    refine go T_ok 200 rfl ?_
    exact ret (ret1 (v := .slice _ _ _) Try.results26 rfl ⟨_, _, rfl, own_base o6 hszq, q02.trans p6⟩)
end Go.Proofs.Ytkkjfjeniaiaiaa
