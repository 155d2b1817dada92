/- The contracts of the times of an order in the specification; of its slack. -/
import Derived.Test.YteenhfnamjbaiaaT2
namespace Go.Proofs.Yteenhfnamjbaiaa
open Go.Ev Go.Proofs
open Go.Camp (Cl wayT stopT TrOk begT okT leaveT endT begs)
attribute [local irreducible] At AtH
theorem iN_get' {k : List Nat} {j i : Nat} (h : k[j]? = some i) : (iN k)[j]? = some (i : Int) := by unfold iN; rw [List.getElem?_map, h]; rfl
set_option maxRecDepth 20000 in
set_option maxHeartbeats 8000000 in
theorem rTimes_any (m : Tm) (k : List Nat) (x0 : Int) (A1 : Option Addr) (c1 B B1 : Nat) (w0 : World) (H : TrM w0 B m) (h : TrOk (trP m)) (S1 : Sl w0 B1 1 A1 k.length (iL (iN k))) (hk : ∀ i ∈ k, i < m.S.l.length) (hkl : k.length ≤ 1000) (h0 : 0 ≤ x0) (h1 : x0 ≤ 1000000) :
  Ret Try.prog 64 [.agg (tmL m).toArray, .slice A1 k.length c1, I x0] w0 fun v w' => Chg No w0 w' ∧ ((endT (trP m) k 0 x0 = none ∧ v = .tuple #[.slice none 0 0, I 0, .bool false]) ∨
   ∃ e A c, endT (trP m) k 0 x0 = some e ∧ v = .tuple #[.slice A (begs (trP m) k 0 x0).length c, I e, .bool true] ∧ w'.ownsRow w0.heap.size 3 1 (.slice A (begs (trP m) k 0 x0).length c) (begs (trP m) k 0 x0).length (iL (begs (trP m) k 0 x0))) := by
 have n8 : m.S.l.length ≤ 8 := h.n8
 have hwl : m.W.l.length = m.S.l.length + 1 := by have := h.w; simpa [trP] using this
 refine enter Try.func64 rfl Try.ntmps64 rfl ?_
 refine go TL_ok 200 rfl ?_
 refine bx rfl rfl rfl (cs := tmL m) rfl ?_
 intro g3 u3 hg3 hs3 q3 B3
 have q := q3
 have l3 := B3.lt
 have hw3 : w0.heap.size ≤ g3 := by omega
 clear hg3
 refine go TL_ok 200 rfl ?_
 refine loop [1, 3, 9, 10, 11, 12] (fun y : Nat × Nat × Int × Option Addr × Nat × List Int => [.slice A1 k.length c1, .pointer (some ⟨g3, 0, none⟩), .slice y.2.2.2.1 y.2.2.2.2.2.length y.2.2.2.2.1, I y.2.2.1, .int .i64 (y.2.1 : Int), .int .i64 (y.1 : Int)])
  (fun y w' => y.1 ≤ k.length ∧ y.2.2.2.2.2.length = y.1 ∧ y.2.1 ≤ m.S.l.length ∧ 0 ≤ y.2.2.1 ∧ y.2.2.1 ≤ 2000000 ∧ Chg No w0 w' ∧ Bk w' g3 56 (tmL m) ∧ w'.ownsRow (g3 + 1) 3 1 (.slice y.2.2.2.1 y.2.2.2.2.2.length y.2.2.2.2.1) y.2.2.2.2.2.length (iL y.2.2.2.2.2) ∧
   begs (trP m) k 0 x0 = y.2.2.2.2.2 ++ begs (trP m) (k.drop y.1) y.2.1 y.2.2.1 ∧ endT (trP m) k 0 x0 = endT (trP m) (k.drop y.1) y.2.1 y.2.2.1) (fun y => k.length - y.1) (0, 0, x0, none, 0, []) (fun _ => rfl) rfl ⟨Nat.zero_le _, rfl, Nat.zero_le _, h0, by simp only; omega, q, B3, own_nil, rfl, rfl⟩ ?_
 rintro ⟨j, p, x, A, c, out⟩ τ w ⟨hj, hol, hpl, hx0, hx1, q, B3, own, hbg, hen⟩
 simp only at hj hol hpl hx0 hx1 own hbg hen
 dsimp only
 refine go TL_ok 200 rfl ?_
 refine condD rfl (fun hlt => ?_) (fun hlt => ?_)
 ·have hlt : j < k.length := by have : (j : Int) < (k.length : Int) := hlt; omega
  obtain ⟨i, hi⟩ := getA_of hlt
  have hin := hk i (List.mem_of_getElem? hi)
  have hkn : (iN k).length = k.length := by simp [iN]
  have S1' : Sl w B1 1 A1 (iN k).length ((iN k).map (Value.int .i64)) := by rw [hkn]; exact S1.no q
  obtain ⟨b3, o3, hA3, hb3, hc3⟩ := S1'.elI (iN_get' hi)
  obtain ⟨s, hs, hsl, hsx, hw0, hw1⟩ := way_at h hpl (show i + 1 ≤ m.S.l.length by omega)
  obtain ⟨hst, ⟨⟨k1, k2⟩, k3, k4, k5⟩⟩ := stop_at h hin
  have H1 := H.no q
  obtain ⟨b1, o1, hA1, hb1, hc1⟩ := Sl.el H1.w1 slI_len hs
  obtain ⟨b2, o2, hA2, hb2, hc2⟩ := (H1.w2 s (List.mem_of_getElem? hs)).1.elI hsx
  obtain ⟨b4, o4, hA4, hb4, hc4⟩ := Sl.el H1.s clL_len hst
  have hBB := H1.w1.2.1
  have y3 := S1'.2.1
  have hdr := drop_at hi
  rw [hdr] at hbg hen
  simp only [begs, endT] at hbg hen
  have hb := beg_bd hx0 hw0 hw1 hx1 k1 (by omega)
  refine go TL_ok 200 rfl ?_
  refine draw mixed (fun w' => Chg No w w') ([0,1,2,3,4,5,6,7].map (fun i => (i, true)) ++ [(8, false)] ++ [(9, false)]) rfl (by kernel_rfl) (Chg.drew _) ?_
  refine goH TL_ok 200 rfl ?_
  repeat (first | (refine quietH rfl (fun w' hS => r_load TL_ok rfl rfl rfl (Bk.get (B3.no hS) rfl)) ?_; refine goH TL_ok 200 rfl ?_))
  rw [hA3]
  refine quietH rfl (fun w' hS => r_idx TL_ok rfl rfl rfl rfl j rfl hlt) ?_
  refine goH TL_ok 200 rfl ?_
  refine quietH rfl (fun w' hS => r_load TL_ok rfl rfl rfl ((hS.cell (a := ⟨b3, o3 + j * 1, none⟩) (by show b3 < _; omega) (fun h => h)).trans hc3)) ?_
  rw [← hA3]
  refine goH TL_ok 200 rfl ?_
  rw [hA4]
  refine quietH rfl (fun w' hS => r_idx TL_ok rfl rfl rfl rfl i rfl hin) ?_
  refine goH TL_ok 200 rfl ?_
  refine quietH rfl (fun w' hS => r_loadA TL_ok rfl rfl rfl (cs := clL (stopT (trP m) i)) rfl (hc4.keep (by omega) hS (fun h => h))) ?_
  rw [← hA4]
  refine goH TL_ok 200 rfl ?_
  have qd := Chg.drew w
  have hdw : w.drew.heap.size = w.heap.size := rfl
  refine nwE rfl rfl (z := .agg #[I 0, I 0, I 0]) (by kernel_rfl) (cs := [I 0, I 0, I 0]) rfl ?_
  intro g13 w2 hg13 hs13 qk B13
  have qd := qd.trans qk
  refine ⟨qd, ?_⟩
  refine goH TL_ok 200 rfl ?_
  refine stAE TL_ok rfl rfl rfl rfl (vs := clL (stopT (trP m) i)) rfl rfl rfl B13 rfl ?_
  intro w3 qk B13 hz13
  have B13 : Bk w3 g13 148 (clL (stopT (trP m) i)) := B13
  have qd : Chg No w w3 := qd.step qk (fun k hk e => by omega)
  refine ⟨qd, ?_⟩
  refine goH TL_ok 200 rfl ?_
  refine endH ?_
  have hl9 : ∀ k, (Value.slice A out.length c).ownBlock = some k → g3 + 1 ≤ k ∧ k ≠ g13 := fun k e => ⟨own_ge own e, by have := lt_own own e; omega⟩
  have B3 := B3.no qd
  have own := own_no own qd
  have q := q.trans qd
  have hqs := qd.size
  have hc1 := hc1.keep (by omega) qd (fun h => h)
  have hc2 := (qd.cell (a := ⟨b2, o2 + (i + 1) * 1, none⟩) (by show b2 < _; omega) (fun h => h)).trans hc2
  have hc3 := (qd.cell (a := ⟨b3, o3 + j * 1, none⟩) (by show b3 < _; omega) (fun h => h)).trans hc3
  refine go TL_ok 200 rfl ?_
  refine draw mixed (fun w' => Chg No w3 w') ([0,1,2,3,4,5,6,7,8,9,10,11,12,13,14,15,16,17].map (fun i => (i, true))) rfl (by kernel_rfl) (Chg.drew _) ?_
  refine goH TL_ok 200 rfl ?_
  repeat (first | (refine quietH rfl (fun w' hS => r_load TL_ok rfl rfl rfl (Bk.get (B13.no hS) rfl)) ?_; refine goH TL_ok 200 rfl ?_) | (refine quietH rfl (fun w' hS => r_load TL_ok rfl rfl rfl (Bk.get (B3.no hS) rfl)) ?_; refine goH TL_ok 200 rfl ?_))
  rw [hA1]
  refine quietH rfl (fun w' hS => r_idx TL_ok rfl rfl rfl rfl p rfl (by omega)) ?_
  refine goH TL_ok 200 rfl ?_
  refine quietH rfl (fun w' hS => r_load TL_ok rfl rfl rfl ((hc1.keep (by omega) hS (fun h => h)).get (i := 0) rfl)) ?_
  rw [← hA1]
  refine goH TL_ok 200 rfl ?_
  rw [hA3]
  refine quietH rfl (fun w' hS => r_idx TL_ok rfl rfl rfl rfl j rfl hlt) ?_
  refine goH TL_ok 200 rfl ?_
  refine quietH rfl (fun w' hS => r_load TL_ok rfl rfl rfl ((hS.cell (a := ⟨b3, o3 + j * 1, none⟩) (by show b3 < _; omega) (fun h => h)).trans hc3)) ?_
  rw [← hA3]
  refine goH TL_ok 200 rfl ?_
  rw [w64_id (x := (i : Int) + 1) (by omega) (by omega), hA2]
  refine quietH rfl (fun w' hS => r_idx TL_ok rfl rfl rfl rfl (i + 1) (by push_cast; rfl) (by omega)) ?_
  refine goH TL_ok 200 rfl ?_
  refine quietH rfl (fun w' hS => r_load TL_ok rfl rfl rfl ((hS.cell (a := ⟨b2, o2 + (i + 1) * 1, none⟩) (by show b2 < _; omega) (fun h => h)).trans hc2)) ?_
  rw [← hA2]
  refine goH TL_ok 200 rfl ?_
  rw [w64_id (x := x + wayT (trP m) p (i + 1)) (by omega) (by omega)]
  refine endH ?_
  have qd := Chg.drew w3
  have B3 := B3.no qd
  have B13 := B13.no qd
  have own := own_no own qd
  have q := q.trans qd
  have hc3 := (qd.cell (a := ⟨b3, o3 + j * 1, none⟩) (by show b3 < _; omega) (fun h => h)).trans hc3
  have hqs : w.heap.size ≤ w3.drew.heap.size := hqs
  generalize w3.drew = w4 at *
  have hbd : max (stopT (trP m) i).opn (x + wayT (trP m) p (i + 1)) = begT (trP m) p i x := rfl
  refine go TL_ok 200 rfl ?_
  repeat ((first | refine ldA TL_ok rfl rfl rfl rfl rfl (Bk.all B13) ?_ | refine ld TL_ok rfl rfl rfl rfl (Bk.get B13 rfl) ?_ | refine gT rfl rfl rfl rfl ?_ | refine gF rfl rfl rfl rfl ?_ | refine condT rfl rfl ?_ | refine condF rfl rfl ?_); refine go TL_ok 200 rfl ?_)
  rw [hbd]
  by_cases hle : (stopT (trP m) i).due < begT (trP m) p i x
  case pos =>
   rw [decide_eq_true hle]
   have hok : okT (trP m) p i x = false := by unfold okT; simpa using hle
   rw [hok] at hen
   refine go TL_ok 200 rfl ?_
   repeat ((first | refine ldA TL_ok rfl rfl rfl rfl rfl (Bk.all B13) ?_ | refine ld TL_ok rfl rfl rfl rfl (Bk.get B13 rfl) ?_ | refine gT rfl rfl rfl rfl ?_ | refine gF rfl rfl rfl rfl ?_ | refine condT rfl rfl ?_ | refine condF rfl rfl ?_); refine go TL_ok 200 rfl ?_)
   exact ret (ret3 (v := .slice none 0 0) (x := I 0) (y := .bool false) Try.results64 rfl rfl rfl ⟨q, .inl ⟨by rw [hen]; rfl, rfl⟩⟩)
  rw [decide_eq_false hle]
  have hok : okT (trP m) p i x = true := by unfold okT; simp; omega
  rw [hok] at hen
  simp only [if_true] at hen
  have l3 := B3.lt
  refine go TL_ok 200 rfl ?_
  repeat ((first | refine ldA TL_ok rfl rfl rfl rfl rfl (Bk.all B13) ?_ | refine ld TL_ok rfl rfl rfl rfl (Bk.get B13 rfl) ?_ | refine gT rfl rfl rfl rfl ?_ | refine gF rfl rfl rfl rfl ?_ | refine condT rfl rfl ?_ | refine condF rfl rfl ?_); refine go TL_ok 200 rfl ?_)
  refine app1 TL_ok rfl rfl rfl rfl rfl rfl (cs := [I (begT (trP m) p i x)]) rfl rfl rfl rfl (fun _ => rfl) (fun _ => rfl) (fun _ => rfl) own (by unfold maxLen; omega) (by show (out.length + 1) * 8 ≤ _; omega) (by omega) ?_
  intro gx A5 c5 w5 own5 q5 hs5 hown
  have hb3A : ∀ k, (Value.slice A out.length c).ownBlock = some k → k ≠ b3 := fun k e => by have := (hl9 k e).1; have := S1.2.1; omega
  have B3 := B3.keep q5 (fun e => by have := (hl9 _ e).1; omega)
  have B13 := B13.keep q5 (fun e => (hl9 _ e).2 rfl)
  have hc3 := (q5.cell (a := ⟨b3, o3 + j * 1, none⟩) (by show b3 < _; omega) (fun e => hb3A _ e rfl)).trans hc3
  have q := q.step q5 (fun k hk e => by have := (hl9 _ e).1; omega)
  refine go TL_ok 200 rfl ?_
  have hqs5 := q5.size
  refine draw mixed (fun w' => Chg No w5 w') ([0,1,2,3,4,5,6,7,8,9,10].map (fun i => (i, true))) rfl (by kernel_rfl) (Chg.drew _) ?_
  refine goH TL_ok 200 rfl ?_
  repeat (first | (refine quietH rfl (fun w' hS => r_load TL_ok rfl rfl rfl (Bk.get (B13.no hS) rfl)) ?_; refine goH TL_ok 200 rfl ?_))
  rw [hA3]
  refine quietH rfl (fun w' hS => r_idx TL_ok rfl rfl rfl rfl j rfl hlt) ?_
  refine goH TL_ok 200 rfl ?_
  refine quietH rfl (fun w' hS => r_load TL_ok rfl rfl rfl ((hS.cell (a := ⟨b3, o3 + j * 1, none⟩) (by show b3 < _; omega) (fun h => h)).trans hc3)) ?_
  rw [← hA3]
  refine goH TL_ok 200 rfl ?_
  rw [w64_id (x := (i : Int) + 1) (by omega) (by omega), w64_id (x := begT (trP m) p i x + (stopT (trP m) i).work) (by omega) (by omega)]
  refine endH ?_
  have qd := Chg.drew w5
  have B3 := B3.no qd
  have own5 := own_no own5 qd
  have q := q.trans qd
  refine go TL_ok 200 rfl ?_
  rw [w64_id (x := (j : Int) + 1) (by omega) (by omega)]
  have e1 : (out ++ [begT (trP m) p i x]).length = out.length + 1 := by simp
  refine round ⟨(j + 1, i + 1, leaveT (trP m) p i x, A5, c5, out ++ [begT (trP m) p i x]), by simp only [e1]; rfl, ⟨by simp only; omega, by simp only [e1]; omega, by simp only; omega, by simp only [leaveT]; omega, by simp only [leaveT]; omega, q, B3, ?_, ?_, hen⟩, by simp only; omega⟩
  ·simp only
   rw [e1, show iL (out ++ [begT (trP m) p i x]) = iL out ++ [I (begT (trP m) p i x)] by simp [iL]]
   exact own5
  ·simp only
   rw [hbg, List.append_assoc]
   rfl
 ·obtain rfl : j = k.length := by have : ¬ (j : Int) < (k.length : Int) := hlt; omega
  rw [List.drop_length] at hbg hen
  simp only [begs, endT, List.append_nil] at hbg hen
  obtain ⟨s, hs, hsl, hsx, hw0, hw1⟩ := way_at h hpl (Nat.zero_le _)
  have H1 := H.no q
  obtain ⟨b1, o1, hA1, hb1, hc1⟩ := Sl.el H1.w1 slI_len hs
  obtain ⟨b2, o2, hA2, hb2, hc2⟩ := (H1.w2 s (List.mem_of_getElem? hs)).1.elI hsx
  have hBB := H1.w1.2.1
  refine go TL_ok 200 rfl ?_
  refine draw mixed (fun w' => Chg No w w') ([0,1,2,3,4,5,6,7,8,9,10,11,12].map (fun i => (i, true))) rfl (by kernel_rfl) (Chg.drew _) ?_
  refine goH TL_ok 200 rfl ?_
  repeat (first | (refine quietH rfl (fun w' hS => r_load TL_ok rfl rfl rfl (Bk.get (B3.no hS) rfl)) ?_; refine goH TL_ok 200 rfl ?_))
  rw [hA1]
  refine quietH rfl (fun w' hS => r_idx TL_ok rfl rfl rfl rfl p rfl (by omega)) ?_
  refine goH TL_ok 200 rfl ?_
  refine quietH rfl (fun w' hS => r_load TL_ok rfl rfl rfl ((hc1.keep (by omega) hS (fun h => h)).get (i := 0) rfl)) ?_
  rw [← hA1]
  refine goH TL_ok 200 rfl ?_
  rw [hA2]
  refine quietH rfl (fun w' hS => r_idx TL_ok rfl rfl rfl rfl 0 rfl (by omega)) ?_
  refine goH TL_ok 200 rfl ?_
  refine quietH rfl (fun w' hS => r_load TL_ok rfl rfl rfl ((hS.cell (a := ⟨b2, o2 + 0 * 1, none⟩) (by show b2 < _; omega) (fun h => h)).trans hc2)) ?_
  rw [← hA2]
  refine goH TL_ok 200 rfl ?_
  rw [w64_id (x := x + wayT (trP m) p 0) (by omega) (by omega)]
  refine endH ?_
  refine go TL_ok 200 rfl ?_
  refine ret (ret3 (v := .slice A out.length c) (x := I (x + wayT (trP m) p 0)) (y := .bool true) Try.results64 rfl rfl rfl ⟨q.trans (Chg.drew _), .inr ⟨_, A, c, hen, ?_, ?_⟩⟩)
  ·rw [hbg]
  ·rw [hbg]
   exact own_no (own_base own (by omega)) (Chg.drew _)
end Go.Proofs.Yteenhfnamjbaiaa
