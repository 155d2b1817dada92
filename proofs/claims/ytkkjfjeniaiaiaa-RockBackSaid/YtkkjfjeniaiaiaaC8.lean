/- The contracts of the cuts, of Chords, Through, Between, Under. -/
import Derived.Test.YtkkjfjeniaiaiaaC7
namespace Go.Proofs.Ytkkjfjeniaiaiaa
open Go.Ev Go.Proofs Go.Rock
attribute [local irreducible] At AtH

/-- a cut makes pieces shorter -/
def Shr (f : Pc → Pc) : Prop := ∀ q : Pc, q.a ≤ q.u → (f q).c = q.c ∧ q.a ≤ (f q).a ∧ (f q).u ≤ q.u
theorem shr_id : Shr id := fun _ _ => ⟨rfl, Int.le_refl _, Int.le_refl _⟩
theorem shr_btw (a u : Int) : Shr (btw a u) := fun q _ => ⟨rfl, by show q.a ≤ max q.a a; omega, by show min q.u u ≤ q.u; omega⟩
theorem shr_und (v : Vo) (r : Ra) (g : List Int) : Shr (und v r g) := by
  intro q h
  unfold und
  split
  · exact ⟨rfl, Int.le_refl _, by show min q.u _ ≤ q.u; omega⟩
  · split
    · exact ⟨rfl, by show q.a ≤ max q.a _; omega, Int.le_refl _⟩
    · split
      · exact ⟨rfl, Int.le_refl _, h⟩
      · exact ⟨rfl, Int.le_refl _, Int.le_refl _⟩
theorem mem_cut {v : Vo} {r : Ra} {f : Pc → Pc} (hv : VoOk v) (hr : RaOk r) (hf : Shr f) {p : Pc} (h : p ∈ cutS f (pcs v r)) : PcR v p ∧ p.a < p.u ∧ ∃ q ∈ pcs v r, p = f q := by
  unfold cutS at h
  obtain ⟨h1, h2⟩ := List.mem_filter.1 h
  have h2 := of_decide_eq_true h2
  obtain ⟨q, hq, rfl⟩ := List.mem_map.1 h1
  obtain ⟨a1, a2, a3, a4, _, a6, a7⟩ := mem_pcs hv hq
  have b6 := ts_bd hv hr a6
  have b7 := ts_bd hv hr a7
  obtain ⟨c1, c2, c3⟩ := hf q (by omega)
  exact ⟨⟨by omega, by omega, by omega, by omega, by omega, by omega⟩, h2, q, hq, rfl⟩
theorem cut_len {v : Vo} (r : Ra) (f : Pc → Pc) (hv : VoOk v) : (cutS f (pcs v r)).length ≤ 40 := Nat.le_trans (cutS_len _ _) (pcs_len r hv)
/-- chords of parts that a call has told -/
theorem chordsC_any (v : Vo) (r : Ra) (f : Pc → Pc) (A : Option Addr) (c B : Nat) (w : World) (hv : VoOk v) (hr : RaOk r) (hf : Shr f) (hS : Sl w B 3 A (cutS f (pcs v r)).length ((cutS f (pcs v r)).flatMap pL)) :
    Ret Try.prog 62 [.slice A (cutS f (pcs v r)).length c] w fun x w' => ∃ A' c', x = .slice A' (cutS f (pcs v r)).length c' ∧ w'.ownsRow w.heap.size 59 2 x (cutS f (pcs v r)).length ((chs (cutS f (pcs v r))).flatMap cL) ∧ Chg No w w' :=
  chords_any _ A c B w (cut_len r f hv) hS fun p hp => by
    obtain ⟨⟨_, _, h3, h4, h5, h6⟩, h7, _⟩ := mem_cut hv hr hf hp
    omega
theorem hgt_ok {v : Vo} {g : List Int} {c : Int} (hv : VoOk v) (hg : GrOk v g) : (c % (v.nx * v.ny)).toNat < g.length ∧ g[(c % (v.nx * v.ny)).toNat]? = some (hgt v g c) ∧ 0 ≤ hgt v g c ∧ hgt v g c ≤ 12000 ∧ ((c % (v.nx * v.ny)).toNat : Int) = c % (v.nx * v.ny) := by
  have h1 := vo_xy hv
  have h2 := vo_zs hv
  have h3 := Int.emod_nonneg c (by omega : v.nx * v.ny ≠ 0)
  have h4 := Int.emod_lt_of_pos c (by omega : 0 < v.nx * v.ny)
  have h5 := hg.2
  have hlt : (c % (v.nx * v.ny)).toNat < g.length := by omega
  have he : hgt v g c = g[(c % (v.nx * v.ny)).toNat] := by unfold hgt; rw [List.getD_eq_getElem?_getD, List.getElem?_eq_getElem hlt]; rfl
  have hm := hg.1 _ (List.getElem_mem hlt)
  rw [← he] at hm
  exact ⟨hlt, by rw [he]; exact List.getElem?_eq_getElem hlt, hm.1, by omega, by omega⟩
theorem under_any (v : Vo) (r : Ra) (A : Option Addr) (n c : Nat) (w : World) : Ret Try.prog 64 [.agg (wL v r).toArray, .slice A n c] w fun x w' => ∃ gG gW, x = .func (.func 89) #[] #[.pointer (some ⟨gG, 0, none⟩), .pointer (some ⟨gW, 0, none⟩)] ∧ Chg No w w' ∧ Bk w' gG 24 [.slice A n c] ∧ Bk w' gW 103 (wL v r) := by
  refine enter Try.func64 rfl Try.ntmps64 rfl ?_
  refine go T_ok 200 rfl ?_
  refine bx rfl rfl rfl (cs := wL v r) rfl ?_
  intro g1 u1 hg1 hs1 q1 B1
  refine go T_ok 200 rfl ?_
  refine bx rfl rfl rfl (cs := [.slice A n c]) rfl ?_
  intro g2 u2 hg2 hs2 q2 B2
  refine go T_ok 200 rfl ?_
  exact ret (ret1 (v := .func _ _ _) Try.results64 rfl ⟨g2, g1, rfl, q1.trans q2, B2, B1.no q2⟩)
set_option maxHeartbeats 4000000 in
theorem undC_any (v : Vo) (r : Ra) (g : List Int) (A : Option Addr) (c B gG gW : Nat) (p : Pc) (w : World) (hv : VoOk v) (hr : RaOk r) (hg : GrOk v g) (hp : PcR v p) (H1 : Bk w gG 24 [.slice A g.length c]) (H2 : Bk w gW 103 (wL v r)) (hS : Sl w B 1 A g.length (iL g)) :
    Ret Try.prog 89 [.agg (pL p).toArray, .pointer (some ⟨gG, 0, none⟩), .pointer (some ⟨gW, 0, none⟩)] w fun x w' => x = .agg (pL (und v r g p)).toArray ∧ Chg No w w' := by
  obtain ⟨hlt, hget, h0, h1, hj⟩ := hgt_ok (c := p.c) hv hg
  have hxy := vo_xy hv
  have e1 : w64 (v.nx * v.ny) = v.nx * v.ny := w64_id (by omega) (by omega)
  obtain ⟨b, o, rfl, hb, hc⟩ := hS.elI hget
  have hb' : b < w.heap.size := Nat.lt_of_lt_of_le hb hS.2.1
  have hax : ((r.z, r.dz, v.nz) : Ax) ∈ axs v r := by simp [axs]
  refine enter Try.func89 rfl Try.ntmps89 rfl ?_
  refine go T_ok 200 rfl ?_
  refine bx rfl rfl rfl (cs := pL p) rfl ?_
  intro g1 u1 hg1 hs1 q1 B1
  refine go T_ok 200 rfl ?_
  refine nw rfl rfl (z := .agg #[I 0, I 0, I 0]) (by kernel_rfl) (cs := [I 0, I 0, I 0]) rfl ?_
  intro g2 u2 hg2 hs2 q2 B2
  have B1 := B1.no q2
  have q12 := q1.trans q2
  have H1 := H1.no q12
  have H2 := H2.no q12
  have hcell : ∀ w', Chg No u2 w' → w'.cell? ⟨b, o + (p.c % (v.nx * v.ny)).toNat * 1, none⟩ = some (.int .i64 (hgt v g p.c)) := fun w' hS =>
    ((q12.trans hS).cell (a := ⟨b, o + (p.c % (v.nx * v.ny)).toNat * 1, none⟩) hb' (fun h => h)).trans hc
  refine go T_ok 200 rfl ?_
  refine draw mixed (fun w' => Chg No u2 w') ([0,1,2,3,4,5,6,7,8,9,10,11,12,13,14,15].map (fun i => (i, true)) ++ [(16, false)] ++ [17].map (fun i => (i, true)) ++ [(18, false)]) rfl (by kernel_rfl) (Chg.drew _) ?_
  refine goH T_ok 200 rfl ?_
  repeat (first | (refine quietH rfl (fun w' hS => r_load T_ok rfl rfl rfl (Bk.get (H1.no hS) rfl)) ?_; refine goH T_ok 200 rfl ?_) | (refine quietH rfl (fun w' hS => r_load T_ok rfl rfl rfl (Bk.get (H2.no hS) rfl)) ?_; refine goH T_ok 200 rfl ?_) | (refine quietH rfl (fun w' hS => r_load T_ok rfl rfl rfl (Bk.get (B1.no hS) rfl)) ?_; refine goH T_ok 200 rfl ?_))
  rw [e1]
  refine quietH rfl (fun w' hS => by rw [r_rem rfl rfl rfl (by omega), Int.tmod_eq_emod_of_nonneg hp.1]) ?_
  refine goH T_ok 200 rfl ?_
  refine quietH rfl (fun w' hS => r_idx T_ok rfl rfl rfl rfl (p.c % (v.nx * v.ny)).toNat hj.symm hlt) ?_
  refine goH T_ok 200 rfl ?_
  refine quietH rfl (fun w' hS => r_load T_ok rfl rfl rfl (hcell w' hS)) ?_
  refine goH T_ok 200 rfl ?_
  refine quietH rfl (fun w' hS => r_idxA T_ok rfl rfl rfl rfl 2 rfl (by omega)) ?_
  refine goH T_ok 200 rfl ?_
  refine quietH rfl (fun w' hS => r_loadA T_ok rfl rfl rfl (cs := xL (r.z, r.dz, v.nz)) rfl ((H2.no hS).sub _ _ rfl)) ?_
  refine goH T_ok 200 rfl ?_
  refine nwE rfl rfl (z := .agg #[I 0, I 0, I 0]) (by kernel_rfl) (cs := [I 0, I 0, I 0]) rfl ?_
  intro g3 u3 hg3 hs3 q3 B3
  have q3' : Chg No u2 u3 := (Chg.drew _).trans q3
  have q3s := q3'.size
  refine ⟨q3', ?_⟩
  refine goH T_ok 200 rfl ?_
  refine stAE T_ok rfl rfl rfl rfl (vs := xL (r.z, r.dz, v.nz)) rfl rfl rfl B3 rfl ?_
  intro u4 q4 B4 hs4
  have B4 : Bk u4 g3 100 (xL (r.z, r.dz, v.nz)) := B4
  have hg3' : u2.heap.size ≤ g3 := by have : u2.drew.heap.size = u2.heap.size := rfl; omega
  have q24 : Chg No u2 u4 := q3'.step q4 (fun k hk e => by omega)
  refine ⟨q24, ?_⟩
  refine goH T_ok 200 rfl ?_
  refine endH ?_
  have B1 := B1.no q24
  have B2 := B2.no q24
  have H2 := H2.no q24
  have q04 := q12.trans q24
  have l1 := B1.lt
  have l2 := B2.lt
  have hg1' := q1.size
  have hg2' := q2.size
  have hg4' := q24.size
  generalize hh : hgt v g p.c = h at h0 h1
  refine go T_ok 200 rfl ?_
  repeat (first | (refine ld T_ok rfl rfl rfl rfl (Bk.get B4 rfl) ?_; refine go T_ok 200 rfl ?_) | (refine guardA (b := true) rfl rfl rfl rfl (fun _ => ?_) (fun e => by cases e); refine go T_ok 200 rfl ?_) | (refine guardA (b := false) rfl rfl rfl rfl (fun e => by cases e) (fun _ => ?_); refine go T_ok 200 rfl ?_) | (refine condT rfl rfl ?_; refine go T_ok 200 rfl ?_) | (refine condF rfl rfl ?_; refine go T_ok 200 rfl ?_))
  -- the end: the piece is laid out
  refine condD rfl (fun hdz => ?_) (fun hdz => ?_)
  · have hdz : 0 < r.dz := hdz
    refine go T_ok 200 rfl ?_
    refine draw mixed (fun w' => Chg No u4 w') ([0,1,2,3,4].map (fun i => (i, true)) ++ [(5, false)] ++ [6,7].map (fun i => (i, true)) ++ [(8, false)]) rfl (by kernel_rfl) (Chg.drew _) ?_
    refine goH T_ok 200 rfl ?_
    repeat (first | (refine quietH rfl (fun w' hS => r_load T_ok rfl rfl rfl (Bk.get (B1.no hS) rfl)) ?_; refine goH T_ok 200 rfl ?_))
    refine quietH rfl (fun w' hS => r_loadA T_ok rfl rfl rfl rfl (H2.no hS).all) ?_
    refine goH T_ok 200 rfl ?_
    refine quietH rfl (fun w' hS => r_loadA T_ok rfl rfl rfl rfl (B4.no hS).all) ?_
    refine goH T_ok 200 rfl ?_
    refine callE rfl rfl rfl (ok _ (by decide) rfl) (when_any v r (r.z, r.dz, v.nz) _ _ hv hr hax (by show r.dz ≠ 0; omega) h0 h1) ?_
    rintro y u5 ⟨rfl, q5⟩
    have q45 : Chg No u4 u5 := (Chg.drew _).trans q5
    refine ⟨q45, ?_⟩
    refine goH T_ok 200 rfl ?_
    refine storeL T_ok rfl rfl rfl rfl (v := .int .i64 (min p.u ((h - r.z) * (tk r / r.dz)))) rfl rfl (B1.no q45) rfl (by kernel_rfl) ?_
    intro u6 q6 B6 hs6
    refine goH T_ok 200 rfl ?_
    refine endH ?_
    have q06 : Chg No w u6 := (q04.trans q45).step q6 (fun k hk e => by omega)
    have B2' := (B2.no q45).keep q6 (by omega)
    have B6 : Bk u6 g1 124 [I p.c, I p.a, I (min p.u ((h - r.z) * (tk r / r.dz)))] := B6
    refine go T_ok 200 rfl ?_
    refine ldA T_ok rfl rfl rfl rfl rfl (B6).all ?_
    refine go T_ok 200 rfl ?_
    refine stA T_ok rfl rfl rfl rfl (vs := [I p.c, I p.a, I (min p.u ((h - r.z) * (tk r / r.dz)))]) rfl rfl rfl (B2') rfl ?_
    intro u9 q9 B9 hs9
    refine go T_ok 200 rfl ?_
    have B9 : Bk u9 g2 124 ([I p.c, I p.a, I (min p.u ((h - r.z) * (tk r / r.dz)))]) := B9
    refine ret (retR1 Try.results89 (resA T_ok rfl rfl rfl B9.all) ⟨?_, q06.step q9 (fun k hk e => by omega)⟩)
    unfold und
    rw [if_pos hdz, hh]
    rfl
  · refine go T_ok 200 rfl ?_
    repeat (first | (refine ld T_ok rfl rfl rfl rfl (Bk.get B4 rfl) ?_; refine go T_ok 200 rfl ?_) | (refine guardA (b := true) rfl rfl rfl rfl (fun _ => ?_) (fun e => by cases e); refine go T_ok 200 rfl ?_) | (refine guardA (b := false) rfl rfl rfl rfl (fun e => by cases e) (fun _ => ?_); refine go T_ok 200 rfl ?_) | (refine condT rfl rfl ?_; refine go T_ok 200 rfl ?_) | (refine condF rfl rfl ?_; refine go T_ok 200 rfl ?_))
    refine condD rfl (fun hdz2 => ?_) (fun hdz2 => ?_)
    · have hdz2 : r.dz < 0 := hdz2
      refine go T_ok 200 rfl ?_
      refine draw mixed (fun w' => Chg No u4 w') ([0,1,2,3,4].map (fun i => (i, true)) ++ [(5, false)] ++ [6,7].map (fun i => (i, true)) ++ [(8, false)]) rfl (by kernel_rfl) (Chg.drew _) ?_
      refine goH T_ok 200 rfl ?_
      repeat (first | (refine quietH rfl (fun w' hS => r_load T_ok rfl rfl rfl (Bk.get (B1.no hS) rfl)) ?_; refine goH T_ok 200 rfl ?_))
      refine quietH rfl (fun w' hS => r_loadA T_ok rfl rfl rfl rfl (H2.no hS).all) ?_
      refine goH T_ok 200 rfl ?_
      refine quietH rfl (fun w' hS => r_loadA T_ok rfl rfl rfl rfl (B4.no hS).all) ?_
      refine goH T_ok 200 rfl ?_
      refine callE rfl rfl rfl (ok _ (by decide) rfl) (when_any v r (r.z, r.dz, v.nz) _ _ hv hr hax (by show r.dz ≠ 0; omega) h0 h1) ?_
      rintro y u5 ⟨rfl, q5⟩
      have q45 : Chg No u4 u5 := (Chg.drew _).trans q5
      refine ⟨q45, ?_⟩
      refine goH T_ok 200 rfl ?_
      refine storeL T_ok rfl rfl rfl rfl (v := .int .i64 (max p.a ((h - r.z) * (tk r / r.dz)))) rfl rfl (B1.no q45) rfl (by kernel_rfl) ?_
      intro u6 q6 B6 hs6
      refine goH T_ok 200 rfl ?_
      refine endH ?_
      have q06 : Chg No w u6 := (q04.trans q45).step q6 (fun k hk e => by omega)
      have B2' := (B2.no q45).keep q6 (by omega)
      have B6 : Bk u6 g1 124 [I p.c, I (max p.a ((h - r.z) * (tk r / r.dz))), I p.u] := B6
      refine go T_ok 200 rfl ?_
      refine ldA T_ok rfl rfl rfl rfl rfl (B6).all ?_
      refine go T_ok 200 rfl ?_
      refine stA T_ok rfl rfl rfl rfl (vs := [I p.c, I (max p.a ((h - r.z) * (tk r / r.dz))), I p.u]) rfl rfl rfl (B2') rfl ?_
      intro u9 q9 B9 hs9
      refine go T_ok 200 rfl ?_
      have B9 : Bk u9 g2 124 ([I p.c, I (max p.a ((h - r.z) * (tk r / r.dz))), I p.u]) := B9
      refine ret (retR1 Try.results89 (resA T_ok rfl rfl rfl B9.all) ⟨?_, q06.step q9 (fun k hk e => by omega)⟩)
      unfold und
      rw [if_neg hdz, if_pos hdz2, hh]
      rfl
    · refine go T_ok 200 rfl ?_
      repeat (first | (refine ld T_ok rfl rfl rfl rfl (Bk.get B4 rfl) ?_; refine go T_ok 200 rfl ?_) | (refine guardA (b := true) rfl rfl rfl rfl (fun _ => ?_) (fun e => by cases e); refine go T_ok 200 rfl ?_) | (refine guardA (b := false) rfl rfl rfl rfl (fun e => by cases e) (fun _ => ?_); refine go T_ok 200 rfl ?_) | (refine condT rfl rfl ?_; refine go T_ok 200 rfl ?_) | (refine condF rfl rfl ?_; refine go T_ok 200 rfl ?_))
      refine condD rfl (fun hz => ?_) (fun hz => ?_)
      · refine go T_ok 200 rfl ?_
        repeat (first | (refine ld T_ok rfl rfl rfl rfl (Bk.get B1 rfl) ?_; refine go T_ok 200 rfl ?_) | (refine guardA (b := true) rfl rfl rfl rfl (fun _ => ?_) (fun e => by cases e); refine go T_ok 200 rfl ?_) | (refine guardA (b := false) rfl rfl rfl rfl (fun e => by cases e) (fun _ => ?_); refine go T_ok 200 rfl ?_) | (refine condT rfl rfl ?_; refine go T_ok 200 rfl ?_) | (refine condF rfl rfl ?_; refine go T_ok 200 rfl ?_))
        refine st T_ok rfl rfl rfl rfl (v := .int .i64 p.a) rfl rfl B1 rfl ?_
        intro u6 q6 B6 hs6
        have q06 : Chg No w u6 := q04.step q6 (fun k hk e => by omega)
        have B2' := B2.keep q6 (by omega)
        have B6 : Bk u6 g1 124 [I p.c, I p.a, I p.a] := B6
        refine go T_ok 200 rfl ?_
        refine ldA T_ok rfl rfl rfl rfl rfl (B6).all ?_
        refine go T_ok 200 rfl ?_
        refine stA T_ok rfl rfl rfl rfl (vs := [I p.c, I p.a, I p.a]) rfl rfl rfl (B2') rfl ?_
        intro u9 q9 B9 hs9
        refine go T_ok 200 rfl ?_
        have B9 : Bk u9 g2 124 ([I p.c, I p.a, I p.a]) := B9
        refine ret (retR1 Try.results89 (resA T_ok rfl rfl rfl B9.all) ⟨?_, q06.step q9 (fun k hk e => by omega)⟩)
        unfold und
        rw [if_neg hdz, if_neg hdz2, hh, if_pos hz]
        rfl
      · refine go T_ok 200 rfl ?_
        refine ldA T_ok rfl rfl rfl rfl rfl (B1).all ?_
        refine go T_ok 200 rfl ?_
        refine stA T_ok rfl rfl rfl rfl (vs := (pL p)) rfl rfl rfl (B2) rfl ?_
        intro u9 q9 B9 hs9
        refine go T_ok 200 rfl ?_
        have B9 : Bk u9 g2 124 ((pL p)) := B9
        refine ret (retR1 Try.results89 (resA T_ok rfl rfl rfl B9.all) ⟨?_, q04.step q9 (fun k hk e => by omega)⟩)
        unfold und
        rw [if_neg hdz, if_neg hdz2, hh, if_neg (by omega)]
theorem btwC_any (a u : Int) (g1 g2 : Nat) (p : Pc) (w : World) (H1 : Bk w g1 3 [I a]) (H2 : Bk w g2 3 [I u]) :
    Ret Try.prog 78 [.agg (pL p).toArray, .pointer (some ⟨g1, 0, none⟩), .pointer (some ⟨g2, 0, none⟩)] w fun x w' => x = .agg (pL (btw a u p)).toArray ∧ Chg No w w' := by
  refine enter Try.func78 rfl Try.ntmps78 rfl ?_
  refine go T_ok 200 rfl ?_
  refine bx rfl rfl rfl (cs := pL p) rfl ?_
  intro g3 u3 hg3 hs3 q3 B3
  refine go T_ok 200 rfl ?_
  refine nw rfl rfl (z := .agg #[I 0, I 0, I 0]) (by kernel_rfl) (cs := [I 0, I 0, I 0]) rfl ?_
  intro g4 u4 hg4 hs4 q4 B4
  have B3 := B3.no q4
  have q34 := q3.trans q4
  have H1 := H1.no q34
  have H2 := H2.no q34
  refine go T_ok 200 rfl ?_
  repeat (first | (refine ld T_ok rfl rfl rfl rfl (Bk.get B3 rfl) ?_; refine go T_ok 200 rfl ?_) | (refine ld T_ok rfl rfl rfl rfl (Bk.get H1 rfl) ?_; refine go T_ok 200 rfl ?_) | (refine ld T_ok rfl rfl rfl rfl (Bk.get H2 rfl) ?_; refine go T_ok 200 rfl ?_) | (refine guardA (b := true) rfl rfl rfl rfl (fun _ => ?_) (fun e => by cases e); refine go T_ok 200 rfl ?_) | (refine guardA (b := false) rfl rfl rfl rfl (fun e => by cases e) (fun _ => ?_); refine go T_ok 200 rfl ?_) | (refine condT rfl rfl ?_; refine go T_ok 200 rfl ?_) | (refine condF rfl rfl ?_; refine go T_ok 200 rfl ?_))
  refine stA T_ok rfl rfl rfl rfl (vs := pL (btw a u p)) rfl rfl rfl B4 rfl ?_
  intro u9 q9 B9 hs9
  refine go T_ok 200 rfl ?_
  have B9 : Bk u9 g4 124 (pL (btw a u p)) := B9
  refine ret (retR1 Try.results78 (resA T_ok rfl rfl rfl B9.all) ⟨rfl, q34.step q9 (fun k hk e => by have := q3.size; omega)⟩)
theorem cuts_und {v : Vo} {r : Ra} {g : List Int} {A : Option Addr} {c B gr gG gW : Nat} {w : World} (hv : VoOk v) (hr : RaOk r) (hg : GrOk v g) (H0 : Bk w gr 109 [.func (.func 89) #[] #[.pointer (some ⟨gG, 0, none⟩), .pointer (some ⟨gW, 0, none⟩)]])
    (H1 : Bk w gG 24 [.slice A g.length c]) (H2 : Bk w gW 103 (wL v r)) (hS : Sl w B 1 A g.length (iL g)) : Cuts v (und v r g) (some ⟨gr, 0, none⟩) 1 w := by
  refine ⟨by omega, fun h => by omega, fun _ => ⟨_, gr, 0, rfl, H0.lt, H0.get (i := 0) rfl, 89, _, rfl, ok _ (by decide) rfl, ?_⟩⟩
  intro p w' hp q
  have l1 := H1.lt
  have l2 := H2.lt
  exact undC_any v r g A c B gG gW p w' hv hr hg hp (H1.keep q (by omega)) (H2.keep q (by omega)) (hS.keep q (fun k hk e => by have := hS.2.1; omega))
theorem cuts_btw {v : Vo} {a u : Int} {gr g1 g2 : Nat} {w : World} (H0 : Bk w gr 109 [.func (.func 78) #[] #[.pointer (some ⟨g1, 0, none⟩), .pointer (some ⟨g2, 0, none⟩)]])
    (H1 : Bk w g1 3 [I a]) (H2 : Bk w g2 3 [I u]) : Cuts v (btw a u) (some ⟨gr, 0, none⟩) 1 w := by
  refine ⟨by omega, fun h => by omega, fun _ => ⟨_, gr, 0, rfl, H0.lt, H0.get (i := 0) rfl, 78, _, rfl, ok _ (by decide) rfl, ?_⟩⟩
  intro p w' hp q
  have l1 := H1.lt
  have l2 := H2.lt
  exact btwC_any a u g1 g2 p w' (H1.keep q (by omega)) (H2.keep q (by omega))
end Go.Proofs.Ytkkjfjeniaiaiaa
