/- The contract of the slack of an order in the specification. -/
import Derived.Test.YteenhfnamjbaiaaT4
namespace Go.Proofs.Yteenhfnamjbaiaa
open Go.Ev Go.Proofs
open Go.Camp (Cl wayT stopT TrOk begT okT leaveT endT begs)
attribute [local irreducible] At AtH
set_option maxRecDepth 20000 in
set_option maxHeartbeats 8000000 in
theorem rSlack_any (m : Tm) (k : List Nat) (A1 : Option Addr) (c1 B B1 : Nat) (w0 : World) (H : TrM w0 B m) (h : TrOk (trP m)) (S1 : Sl w0 B1 1 A1 k.length (iL (iN k))) (hk : ∀ i ∈ k, i < m.S.l.length) (hkl : k.length = m.S.l.length) :
  Ret Try.prog 65 [.agg (tmL m).toArray, .slice A1 k.length c1] w0 fun v w' => v = I (latT (trP m) k - wayT (trP m) 0 (k.getD 0 0 + 1)) ∧ Chg No w0 w' := by
 have n8 : m.S.l.length ≤ 8 := h.n8
 have n1 : 1 ≤ m.S.l.length := h.n1
 have hwl : m.W.l.length = m.S.l.length + 1 := by have := h.w; simpa [trP] using this
 have hkn : (iN k).length = k.length := by simp [iN]
 refine enter Try.func65 rfl Try.ntmps65 rfl ?_
 refine go TL_ok 200 rfl ?_
 refine bx rfl rfl rfl (cs := tmL m) rfl ?_
 intro g2 u2 hg2 hs2 q2 B2
 have q := q2
 refine go TL_ok 200 rfl ?_
 rw [w64_id (x := (k.length : Int) - 1) (by omega) (by omega)]
 refine loop [1, 2, 5, 6] (fun j : Nat => [.slice A1 k.length c1, .pointer (some ⟨g2, 0, none⟩), I (latT (trP m) (k.drop (k.length - j))), I ((k.length : Int) - 1 - (j : Int))])
  (fun j w' => j ≤ k.length ∧ Chg No w0 w' ∧ Bk w' g2 56 (tmL m)) (fun j => k.length - j) 0 (fun _ => rfl) (by rw [Nat.sub_zero, List.drop_length]; show [_, _, _, I ((k.length : Int) - 1)] = [_, _, _, I ((k.length : Int) - 1 - ((0 : Nat) : Int))]; rw [show (k.length : Int) - 1 - ((0 : Nat) : Int) = (k.length : Int) - 1 by omega]; rfl) ⟨Nat.zero_le _, q, B2⟩ ?_
 rintro j τ w ⟨hj, q, B2⟩
 refine go TL_ok 200 rfl ?_
 refine condD rfl (fun hlt => ?_) (fun hlt => ?_)
 ·have hlt : j < k.length := by omega
  obtain ⟨a, ha⟩ : ∃ a : Nat, a = k.length - 1 - j := ⟨_, rfl⟩
  have hal : a < k.length := by omega
  have haj : k.length - (j + 1) = a := by omega
  have hja : k.length - j = a + 1 := by omega
  rw [show (k.length : Int) - 1 - (j : Int) = (a : Int) by omega, hja]
  obtain ⟨i, hi⟩ := getA_of hal
  have hin := hk i (List.mem_of_getElem? hi)
  have S1' : Sl w B1 1 A1 (iN k).length ((iN k).map (Value.int .i64)) := by rw [hkn]; exact S1.no q
  obtain ⟨b3, o3, hA3, hb3, hc3⟩ := S1'.elI (iN_get' hi)
  obtain ⟨hst, ⟨⟨k1, k2⟩, k3, k4, k5⟩⟩ := stop_at h hin
  have H1 := H.no q
  obtain ⟨b4, o4, hA4, hb4, hc4⟩ := Sl.el H1.s clL_len hst
  have hBB := H1.w1.2.1
  have y3 := S1'.2.1
  have hls := lat_step (trP m) hi
  have hlb := lat_bd h (k.drop (a + 1)) (fun x hx => hk x (List.mem_of_mem_drop hx))
  have hld : (k.drop (a + 1)).length ≤ 8 := by rw [List.length_drop]; omega
  refine go TL_ok 200 rfl ?_
  refine draw mixed (fun w' => Chg No w w') ([0,1,2,3,4,5,6,7].map (fun i => (i, true)) ++ [(8, false)] ++ [(9, false)]) rfl (by kernel_rfl) (Chg.drew _) ?_
  refine goH TL_ok 200 rfl ?_
  repeat (first | (refine quietH rfl (fun w' hS => r_load TL_ok rfl rfl rfl (Bk.get (B2.no hS) rfl)) ?_; refine goH TL_ok 200 rfl ?_))
  rw [hA3]
  refine quietH rfl (fun w' hS => r_idx TL_ok rfl rfl rfl rfl a rfl hal) ?_
  refine goH TL_ok 200 rfl ?_
  refine quietH rfl (fun w' hS => r_load TL_ok rfl rfl rfl ((hS.cell (a := ⟨b3, o3 + a * 1, none⟩) (by show b3 < _; omega) (fun h => h)).trans hc3)) ?_
  rw [← hA3]
  refine goH TL_ok 200 rfl ?_
  rw [hA4]
  refine quietH rfl (fun w' hS => r_idx TL_ok rfl rfl rfl rfl i rfl hin) ?_
  refine goH TL_ok 200 rfl ?_
  refine quietH rfl (fun w' hS => r_loadA TL_ok rfl rfl rfl (cs := clL (stopT (trP m) i)) rfl (hc4.keep (by omega) hS (fun h => h))) ?_
  rw [← hA4]
  refine goH TL_ok 200 rfl ?_
  have qd := Chg.drew w
  have hdw : w.drew.heap.size = w.heap.size := rfl
  refine nwE rfl rfl (z := .agg #[I 0, I 0, I 0]) (by kernel_rfl) (cs := [I 0, I 0, I 0]) rfl ?_
  intro g7 w2 hg7 hs7 qk B7
  have qd := qd.trans qk
  refine ⟨qd, ?_⟩
  refine goH TL_ok 200 rfl ?_
  refine stAE TL_ok rfl rfl rfl rfl (vs := clL (stopT (trP m) i)) rfl rfl rfl B7 rfl ?_
  intro w3 qk B7 hz7
  have B7 : Bk w3 g7 148 (clL (stopT (trP m) i)) := B7
  have qd : Chg No w w3 := qd.step qk (fun k hk e => by omega)
  refine ⟨qd, ?_⟩
  refine goH TL_ok 200 rfl ?_
  refine endH ?_
  have B2 := B2.no qd
  have q := q.trans qd
  have hqs := qd.size
  have hc3 := (qd.cell (a := ⟨b3, o3 + a * 1, none⟩) (by show b3 < _; omega) (fun h => h)).trans hc3
  have S1' := S1'.no qd
  have H1 := H1.no qd
  refine go TL_ok 200 rfl ?_
  rw [w64_id (x := (k.length : Int) - 1) (by omega) (by omega)]
  by_cases hlast : a + 1 = k.length
  ·rw [if_pos hlast] at hls
   have e : ((a : Int) == (k.length : Int) - 1) = true := by simp; omega
   rw [e]
   refine go TL_ok 200 rfl ?_
   repeat ((first | refine ldA TL_ok rfl rfl rfl rfl rfl (Bk.all B7) ?_ | refine ld TL_ok rfl rfl rfl rfl (Bk.get B7 rfl) ?_ | refine gT rfl rfl rfl rfl ?_ | refine gF rfl rfl rfl rfl ?_ | refine condT rfl rfl ?_ | refine condF rfl rfl ?_); refine go TL_ok 200 rfl ?_)
   refine go TL_ok 200 rfl ?_
   rw [w64_id (x := (a : Int) - 1) (by omega) (by omega)]
   refine round ⟨j + 1, ?_, ⟨by omega, q, B2⟩, by omega⟩
   rw [haj, hls, show (k.length : Int) - 1 - ((j + 1 : Nat) : Int) = (a : Int) - 1 by omega]
   rfl
  ·rw [if_neg hlast] at hls
   have e : ((a : Int) == (k.length : Int) - 1) = false := by simp; omega
   rw [e]
   have hj2 : k[a + 1]? = some (k.getD (a + 1) 0) := getD_at (by omega)
   obtain ⟨i2, hi2⟩ : ∃ i2, i2 = k.getD (a + 1) 0 := ⟨_, rfl⟩
   rw [← hi2] at hj2 hls
   have hin2 := hk i2 (List.mem_of_getElem? hj2)
   obtain ⟨s, hs, hsl, hsx, hw0, hw1⟩ := way_at h (show i + 1 ≤ m.S.l.length by omega) (show i2 + 1 ≤ m.S.l.length by omega)
   obtain ⟨b5, o5, hA5, hb5, hc5⟩ := S1'.elI (iN_get' hj2)
   obtain ⟨b1, o1, hA1, hb1, hc1⟩ := Sl.el H1.w1 slI_len hs
   obtain ⟨b2, o2, hA2, hb2, hc2⟩ := (H1.w2 s (List.mem_of_getElem? hs)).1.elI hsx
   refine go TL_ok 200 rfl ?_
   repeat (first | (refine gT rfl rfl rfl rfl ?_; refine go TL_ok 200 rfl ?_) | (refine gF rfl rfl rfl rfl ?_; refine go TL_ok 200 rfl ?_) | (refine condT rfl rfl ?_; refine go TL_ok 200 rfl ?_) | (refine condF rfl rfl ?_; refine go TL_ok 200 rfl ?_))
   refine draw mixed (fun w' => Chg No w3 w') ([0,1,2,3,4,5,6,7,8,9,10,11,12,13,14,15,16,17,18,19,20,21,22,23,24,25].map (fun i => (i, true))) rfl (by kernel_rfl) (Chg.drew _) ?_
   refine goH TL_ok 200 rfl ?_
   repeat (first | (refine quietH rfl (fun w' hS => r_load TL_ok rfl rfl rfl (Bk.get (B7.no hS) rfl)) ?_; refine goH TL_ok 200 rfl ?_) | (refine quietH rfl (fun w' hS => r_load TL_ok rfl rfl rfl (Bk.get (B2.no hS) rfl)) ?_; refine goH TL_ok 200 rfl ?_))
   rw [hA3]
   refine quietH rfl (fun w' hS => r_idx TL_ok rfl rfl rfl rfl a rfl hal) ?_
   refine goH TL_ok 200 rfl ?_
   refine quietH rfl (fun w' hS => r_load TL_ok rfl rfl rfl ((hS.cell (a := ⟨b3, o3 + a * 1, none⟩) (by show b3 < _; omega) (fun h => h)).trans hc3)) ?_
   rw [← hA3]
   refine goH TL_ok 200 rfl ?_
   rw [w64_id (x := (i : Int) + 1) (by omega) (by omega), hA1]
   refine quietH rfl (fun w' hS => r_idx TL_ok rfl rfl rfl rfl (i + 1) (by push_cast; rfl) (by omega)) ?_
   refine goH TL_ok 200 rfl ?_
   refine quietH rfl (fun w' hS => r_load TL_ok rfl rfl rfl ((hc1.keep (by omega) hS (fun h => h)).get (i := 0) rfl)) ?_
   rw [← hA1]
   refine goH TL_ok 200 rfl ?_
   rw [w64_id (x := (a : Int) + 1) (by omega) (by omega), hA5]
   refine quietH rfl (fun w' hS => r_idx TL_ok rfl rfl rfl rfl (a + 1) (by push_cast; rfl) (by omega)) ?_
   refine goH TL_ok 200 rfl ?_
   refine quietH rfl (fun w' hS => r_load TL_ok rfl rfl rfl ((hS.cell (a := ⟨b5, o5 + (a + 1) * 1, none⟩) (by show b5 < _; omega) (fun h => h)).trans hc5)) ?_
   rw [← hA5]
   refine goH TL_ok 200 rfl ?_
   rw [w64_id (x := (i2 : Int) + 1) (by omega) (by omega), hA2]
   refine quietH rfl (fun w' hS => r_idx TL_ok rfl rfl rfl rfl (i2 + 1) (by push_cast; rfl) (by omega)) ?_
   refine goH TL_ok 200 rfl ?_
   refine quietH rfl (fun w' hS => r_load TL_ok rfl rfl rfl ((hS.cell (a := ⟨b2, o2 + (i2 + 1) * 1, none⟩) (by show b2 < _; omega) (fun h => h)).trans hc2)) ?_
   rw [← hA2]
   refine goH TL_ok 200 rfl ?_
   repeat (first | (refine quietH rfl (fun w' hS => r_load TL_ok rfl rfl rfl (Bk.get (B7.no hS) rfl)) ?_; refine goH TL_ok 200 rfl ?_))
   rw [w64_id (x := latT (trP m) (k.drop (a + 1)) - wayT (trP m) (i + 1) (i2 + 1)) (by omega) (by omega), w64_id (x := latT (trP m) (k.drop (a + 1)) - wayT (trP m) (i + 1) (i2 + 1) - (stopT (trP m) i).work) (by omega) (by omega)]
   refine endH ?_
   have qd2 := Chg.drew w3
   refine go TL_ok 200 rfl ?_
   rw [w64_id (x := (a : Int) - 1) (by omega) (by omega)]
   refine round ⟨j + 1, ?_, ⟨by omega, (q.trans qd2), (B2.no qd2)⟩, by omega⟩
   rw [haj, hls, show (k.length : Int) - 1 - ((j + 1 : Nat) : Int) = (a : Int) - 1 by omega]
   rfl
 ·obtain rfl : j = k.length := by omega
  rw [Nat.sub_self, List.drop_zero]
  have hi : k[0]? = some (k.getD 0 0) := getD_at (by omega)
  obtain ⟨i, hi2⟩ : ∃ i, i = k.getD 0 0 := ⟨_, rfl⟩
  rw [← hi2] at hi ⊢
  have hin := hk i (List.mem_of_getElem? hi)
  have S1' : Sl w B1 1 A1 (iN k).length ((iN k).map (Value.int .i64)) := by rw [hkn]; exact S1.no q
  obtain ⟨b3, o3, hA3, hb3, hc3⟩ := S1'.elI (iN_get' hi)
  obtain ⟨s, hs, hsl, hsx, hw0, hw1⟩ := way_at h (Nat.zero_le _) (show i + 1 ≤ m.S.l.length by omega)
  have H1 := H.no q
  obtain ⟨b1, o1, hA1, hb1, hc1⟩ := Sl.el H1.w1 slI_len hs
  obtain ⟨b2, o2, hA2, hb2, hc2⟩ := (H1.w2 s (List.mem_of_getElem? hs)).1.elI hsx
  have hBB := H1.w1.2.1
  have y3 := S1'.2.1
  have hlb := lat_bd h k hk
  refine go TL_ok 200 rfl ?_
  refine draw mixed (fun w' => Chg No w w') ([0,1,2,3,4,5,6,7,8,9,10,11,12].map (fun i => (i, true))) rfl (by kernel_rfl) (Chg.drew _) ?_
  refine goH TL_ok 200 rfl ?_
  repeat (first | (refine quietH rfl (fun w' hS => r_load TL_ok rfl rfl rfl (Bk.get (B2.no hS) rfl)) ?_; refine goH TL_ok 200 rfl ?_))
  rw [hA1]
  refine quietH rfl (fun w' hS => r_idx TL_ok rfl rfl rfl rfl 0 rfl (by omega)) ?_
  refine goH TL_ok 200 rfl ?_
  refine quietH rfl (fun w' hS => r_load TL_ok rfl rfl rfl ((hc1.keep (by omega) hS (fun h => h)).get (i := 0) rfl)) ?_
  rw [← hA1]
  refine goH TL_ok 200 rfl ?_
  rw [hA3]
  refine quietH rfl (fun w' hS => r_idx TL_ok rfl rfl rfl rfl 0 rfl (by omega)) ?_
  refine goH TL_ok 200 rfl ?_
  refine quietH rfl (fun w' hS => r_load TL_ok rfl rfl rfl ((hS.cell (a := ⟨b3, o3 + 0 * 1, none⟩) (by show b3 < _; omega) (fun h => h)).trans hc3)) ?_
  rw [← hA3]
  refine goH TL_ok 200 rfl ?_
  rw [w64_id (x := (i : Int) + 1) (by omega) (by omega), hA2]
  refine quietH rfl (fun w' hS => r_idx TL_ok rfl rfl rfl rfl (i + 1) (by push_cast; rfl) (by omega)) ?_
  refine goH TL_ok 200 rfl ?_
  refine quietH rfl (fun w' hS => r_load TL_ok rfl rfl rfl ((hS.cell (a := ⟨b2, o2 + (i + 1) * 1, none⟩) (by show b2 < _; omega) (fun h => h)).trans hc2)) ?_
  rw [← hA2]
  refine goH TL_ok 200 rfl ?_
  rw [w64_id (x := latT (trP m) k - wayT (trP m) 0 (i + 1)) (by omega) (by omega)]
  refine endH ?_
  refine go TL_ok 200 rfl ?_
  exact ret (ret1 (v := I _) Try.results65 rfl ⟨rfl, q.trans (Chg.drew _)⟩)
end Go.Proofs.Yteenhfnamjbaiaa
