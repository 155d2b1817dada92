/- The contracts of the times of an order, and of tours in the specification. -/
import Derived.Test.YteenhfnamjbaiaaT1
import Derived.Test.YteenhfnamjbaiaaR4
namespace Go.Proofs.Yteenhfnamjbaiaa
open Go.Ev Go.Proofs
open Go.Camp (Cl wayT stopT TrOk begT okT leaveT endT begs)
attribute [local irreducible] At AtH
theorem ord_nat {n : Nat} {l : List Int} (h : OrdOk n l) : ∃ k : List Nat, l = iN k ∧ k.length = n ∧ ∀ i ∈ k, i < n := by
 refine ⟨l.map Int.toNat, ?_, by rw [List.length_map]; exact h.len, fun i hi => ?_⟩
 ·unfold iN
  rw [List.map_map]
  conv => lhs; rw [← List.map_id l]
  refine List.map_congr_left fun x hx => ?_
  have := h.lt x hx
  show x = ((x.toNat : Nat) : Int)
  omega
 ·obtain ⟨x, hx, rfl⟩ := List.mem_map.1 hi
  have := h.lt x hx
  omega
theorem beg_bd {t : Go.Camp.Tr} {p i : Nat} {x : Int} (hx : 0 ≤ x) (hw : 0 ≤ wayT t p (i + 1)) (hw1 : wayT t p (i + 1) ≤ 1000000) (hx1 : x ≤ 2000000) (hc : 0 ≤ (stopT t i).opn) (hc1 : (stopT t i).opn ≤ 1000000) : 0 ≤ begT t p i x ∧ begT t p i x ≤ 3000000 := by
 unfold begT
 omega
theorem iN_inj {k k' : List Nat} (h : iN k = iN k') : k = k' := by
 unfold iN at h
 have := congrArg (List.map Int.toNat) h
 rw [List.map_map, List.map_map] at this
 have e : (Int.toNat ∘ fun (i : Nat) => (i : Int)) = id := by funext i; simp
 rw [e, List.map_id, List.map_id] at this
 exact this
set_option maxRecDepth 20000 in
set_option maxHeartbeats 8000000 in
theorem times_any (m : Tm) (k : List Nat) (x0 : Int) (A1 : Option Addr) (c1 B B1 : Nat) (w0 : World) (H : TrM w0 B m) (h : TrOk (trP m)) (S1 : Sl w0 B1 1 A1 k.length (iL (iN k))) (hk : ∀ i ∈ k, i < m.S.l.length) (hkl : k.length ≤ 1000) (h0 : 0 ≤ x0) (h1 : x0 ≤ 1000000) :
  Ret Try.prog 101 [.agg (tmL m).toArray, .slice A1 k.length c1, I x0] w0 fun v w' => Chg No w0 w' ∧ ((endT (trP m) k 0 x0 = none ∧ v = .tuple #[.slice none 0 0, I 0, .bool false]) ∨
   ∃ e A c, endT (trP m) k 0 x0 = some e ∧ v = .tuple #[.slice A (begs (trP m) k 0 x0).length c, I e, .bool true] ∧ w'.ownsRow w0.heap.size 3 1 (.slice A (begs (trP m) k 0 x0).length c) (begs (trP m) k 0 x0).length (iL (begs (trP m) k 0 x0))) := by
 have n8 : m.S.l.length ≤ 8 := h.n8
 have hwl : m.W.l.length = m.S.l.length + 1 := by have := h.w; simpa [trP] using this
 refine enter Try.func101 rfl Try.ntmps101 rfl ?_
 refine go TL_ok 200 rfl ?_
 refine bx rfl rfl rfl (cs := tmL m) rfl ?_
 intro g3 u3 hg3 hs3 q3 B3
 have q := q3
 have l3 := B3.lt
 have hw3 : w0.heap.size ≤ g3 := by omega
 clear hg3
 refine go TL_ok 200 rfl ?_
 refine loop [3, 9, 10, 11, 18, 19, 20] (fun y : Nat × Nat × Int × Option Addr × Nat × List Int => [.pointer (some ⟨g3, 0, none⟩), .slice y.2.2.2.1 y.2.2.2.2.2.length y.2.2.2.2.1, .int .i64 (y.2.1 : Int), I y.2.2.1, .slice A1 k.length c1, .int .i64 (k.length : Int), .int .i64 (y.1 : Int)])
  (fun y w' => y.1 ≤ k.length ∧ y.2.2.2.2.2.length = y.1 ∧ y.2.1 ≤ m.S.l.length ∧ 0 ≤ y.2.2.1 ∧ y.2.2.1 ≤ 2000000 ∧ Chg No w0 w' ∧ Bk w' g3 56 (tmL m) ∧ w'.ownsRow (g3 + 1) 3 1 (.slice y.2.2.2.1 y.2.2.2.2.2.length y.2.2.2.2.1) y.2.2.2.2.2.length (iL y.2.2.2.2.2) ∧
   begs (trP m) k 0 x0 = y.2.2.2.2.2 ++ begs (trP m) (k.drop y.1) y.2.1 y.2.2.1 ∧ endT (trP m) k 0 x0 = endT (trP m) (k.drop y.1) y.2.1 y.2.2.1) (fun y => k.length - y.1) (0, 0, x0, none, 0, []) (fun _ => rfl) rfl ⟨Nat.zero_le _, rfl, Nat.zero_le _, h0, by simp only; omega, q, B3, own_nil, rfl, rfl⟩ ?_
 rintro ⟨j, p, x, A, c, out⟩ τ w ⟨hj, hol, hpl, hx0, hx1, q, B3, own, hbg, hen⟩
 simp only at hj hol hpl hx0 hx1 own hbg hen
 dsimp only
 refine go TL_ok 200 rfl ?_
 refine condD rfl (fun hlt => ?_) (fun hlt => ?_)
 ·have hlt : j < k.length := by have : (j : Int) < (k.length : Int) := hlt; omega
  obtain ⟨i, hi⟩ := getA_of hlt
  have hin := hk i (List.mem_of_getElem? hi)
  have hii : (iN k)[j]? = some (i : Int) := by unfold iN; rw [List.getElem?_map, hi]; rfl
  have S1' : Sl w B1 1 A1 (iN k).length ((iN k).map (Value.int .i64)) := by rw [show (iN k).length = k.length by simp [iN]]; exact S1.no q
  obtain ⟨b1, o1, hA1, hb1, hc1⟩ := S1'.elI hii
  obtain ⟨_, _, _, _, hw0, hw1⟩ := way_at h hpl (show i + 1 ≤ m.S.l.length by omega)
  obtain ⟨_, ⟨⟨k1, k2⟩, k3, k4, k5⟩⟩ := stop_at h hin
  have hdr := drop_at hi
  rw [hdr] at hbg hen
  simp only [begs, endT] at hbg hen
  rw [hA1]
  refine go TL_ok 200 rfl ?_
  refine idx TL_ok rfl rfl rfl rfl rfl j rfl hlt ?_
  refine go TL_ok 200 rfl ?_
  refine ld TL_ok rfl rfl rfl rfl (hc1) ?_
  refine go TL_ok 200 rfl ?_
  rw [← hA1]
  refine go TL_ok 200 rfl ?_
  repeat ((first | refine ldA TL_ok rfl rfl rfl rfl rfl (Bk.all B3) ?_ | refine ld TL_ok rfl rfl rfl rfl (Bk.get B3 rfl) ?_ | refine gT rfl rfl rfl rfl ?_ | refine gF rfl rfl rfl rfl ?_ | refine condT rfl rfl ?_ | refine condF rfl rfl ?_); refine go TL_ok 200 rfl ?_)
  refine call rfl rfl rfl (ok _ (by decide) rfl) (visit_any m p i x _ _ (H.no q) h hpl hin hx0 hx1) ?_
  rintro v w ⟨rfl, qk⟩
  have B3 := B3.no qk
  have q := q.trans qk
  have own := own_no own qk
  cases hok : okT (trP m) p i x with
  | false =>
   rw [hok] at hen
   refine go TL_ok 200 rfl ?_
   repeat ((first | refine ldA TL_ok rfl rfl rfl rfl rfl (Bk.all B3) ?_ | refine ld TL_ok rfl rfl rfl rfl (Bk.get B3 rfl) ?_ | refine gT rfl rfl rfl rfl ?_ | refine gF rfl rfl rfl rfl ?_ | refine condT rfl rfl ?_ | refine condF rfl rfl ?_); refine go TL_ok 200 rfl ?_)
   exact ret (ret3 (v := .slice none 0 0) (x := I 0) (y := .bool false) Try.results101 rfl rfl rfl ⟨q, .inl ⟨by rw [hen]; rfl, rfl⟩⟩)
  | true =>
   rw [hok] at hen
   simp only [if_true] at hen
   have hle : begT (trP m) p i x ≤ (stopT (trP m) i).due := by unfold okT at hok; simpa using hok
   have hb := beg_bd hx0 hw0 hw1 hx1 k1 (by omega)
   have hA : ∀ k, (Value.slice A out.length c).ownBlock = some k → g3 + 1 ≤ k := fun k e => own_ge own e
   have l3 := B3.lt
   refine go TL_ok 200 rfl ?_
   repeat ((first | refine ldA TL_ok rfl rfl rfl rfl rfl (Bk.all B3) ?_ | refine ld TL_ok rfl rfl rfl rfl (Bk.get B3 rfl) ?_ | refine gT rfl rfl rfl rfl ?_ | refine gF rfl rfl rfl rfl ?_ | refine condT rfl rfl ?_ | refine condF rfl rfl ?_); refine go TL_ok 200 rfl ?_)
   refine app1 TL_ok rfl rfl rfl rfl rfl rfl (cs := [I (begT (trP m) p i x)]) rfl rfl rfl rfl (fun _ => rfl) (fun _ => rfl) (fun _ => rfl) own (by unfold maxLen; omega) (by show (out.length + 1) * 8 ≤ _; omega) (by omega) ?_
   intro gx A5 c5 w5 own5 q5 hs5 hown
   have B3 := B3.keep q5 (fun e => by have := hA _ e; omega)
   have q := q.step q5 (fun k hk e => by have := hA _ e; omega)
   refine go TL_ok 200 rfl ?_
   rw [w64_id (x := (i : Int) + 1) (by omega) (by omega), w64_id (x := (j : Int) + 1) (by omega) (by omega)]
   have e1 : (out ++ [begT (trP m) p i x]).length = out.length + 1 := by simp
   refine round ⟨(j + 1, i + 1, leaveT (trP m) p i x, A5, c5, out ++ [begT (trP m) p i x]), by simp only [e1]; rfl, ⟨by simp only; omega, by simp only [e1]; omega, by simp only; omega, by simp only [leaveT]; omega, by simp only [leaveT]; omega, q, B3, ?_, ?_, hen⟩, by simp only; omega⟩
   ·simp only
    rw [e1, show iL (out ++ [begT (trP m) p i x]) = iL out ++ [I (begT (trP m) p i x)] by simp [iL]]
    exact own5
   ·simp only
    rw [hbg, List.append_assoc]
    rfl
 ·obtain rfl : j = k.length := by have : ¬ (j : Int) < (k.length : Int) := hlt; omega
  rw [List.drop_length] at hbg hen
  simp only [begs, endT, List.append_nil] at hbg hen
  obtain ⟨s, hs, hsl, hsx, hw0, hw1⟩ := way_at h hpl (Nat.zero_le _)
  have H1 := H.no q
  obtain ⟨b1, o1, hA1, hb1, hc1⟩ := Sl.el H1.w1 slI_len hs
  obtain ⟨b2, o2, hA2, hb2, hc2⟩ := (H1.w2 s (List.mem_of_getElem? hs)).1.elI hsx
  have hBB := H1.w1.2.1
  refine go TL_ok 200 rfl ?_
  refine draw mixed (fun w' => Chg No w w') ([0,1,2,3,4,5,6,7,8,9,10,11,12].map (fun i => (i, true))) rfl (by kernel_rfl) (Chg.drew _) ?_
  refine goH TL_ok 200 rfl ?_
  repeat (first | (refine quietH rfl (fun w' hS => r_load TL_ok rfl rfl rfl (Bk.get (B3.no hS) rfl)) ?_; refine goH TL_ok 200 rfl ?_))
  rw [hA1]
  refine quietH rfl (fun w' hS => r_idx TL_ok rfl rfl rfl rfl p rfl (by omega)) ?_
  refine goH TL_ok 200 rfl ?_
  refine quietH rfl (fun w' hS => r_load TL_ok rfl rfl rfl ((hc1.keep (by omega) hS (fun h => h)).get (i := 0) rfl)) ?_
  rw [← hA1]
  refine goH TL_ok 200 rfl ?_
  rw [hA2]
  refine quietH rfl (fun w' hS => r_idx TL_ok rfl rfl rfl rfl 0 rfl (by omega)) ?_
  refine goH TL_ok 200 rfl ?_
  refine quietH rfl (fun w' hS => r_load TL_ok rfl rfl rfl ((hS.cell (a := ⟨b2, o2 + 0 * 1, none⟩) (by show b2 < _; omega) (fun h => h)).trans hc2)) ?_
  rw [← hA2]
  refine goH TL_ok 200 rfl ?_
  rw [w64_id (x := x + wayT (trP m) p 0) (by omega) (by omega)]
  refine endH ?_
  refine go TL_ok 200 rfl ?_
  refine ret (ret3 (v := .slice A out.length c) (x := I (x + wayT (trP m) p 0)) (y := .bool true) Try.results101 rfl rfl rfl ⟨q.trans (Chg.drew _), .inr ⟨_, A, c, hen, ?_, ?_⟩⟩)
  ·rw [hbg]
  ·rw [hbg]
   exact own_no (own_base own (by omega)) (Chg.drew _)
set_option maxRecDepth 20000 in
set_option maxHeartbeats 8000000 in
theorem Times_any (m : Tm) (l : List Int) (x0 : Int) (A1 : Option Addr) (c1 B B1 : Nat) (w0 : World) (H : TrM w0 B m) (S1 : Sl w0 B1 1 A1 l.length (iL l)) :
  Ret Try.prog 61 [.agg (tmL m).toArray, .slice A1 l.length c1, I x0] w0 fun v w' => Chg No w0 w' ∧ ((¬ (TrOk (trP m) ∧ OrdOk m.S.l.length l ∧ 0 ≤ x0 ∧ x0 ≤ 1000000) ∧ v = .tuple #[.slice none 0 0, I 0, I 2]) ∨
   ((TrOk (trP m) ∧ OrdOk m.S.l.length l ∧ 0 ≤ x0 ∧ x0 ≤ 1000000) ∧ ∀ k, l = iN k → (endT (trP m) k 0 x0 = none ∧ v = .tuple #[.slice none 0 0, I 0, I 7]) ∨
   ∃ e A c, endT (trP m) k 0 x0 = some e ∧ v = .tuple #[.slice A (begs (trP m) k 0 x0).length c, I e, I 0] ∧ w'.ownsRow w0.heap.size 3 1 (.slice A (begs (trP m) k 0 x0).length c) (begs (trP m) k 0 x0).length (iL (begs (trP m) k 0 x0)))) := by
 refine enter Try.func61 rfl Try.ntmps61 rfl ?_
 refine go TL_ok 200 rfl ?_
 refine bx rfl rfl rfl (cs := tmL m) rfl ?_
 intro g3 u3 hg3 hs3 q3 B3
 have q := q3
 refine go TL_ok 200 rfl ?_
 repeat ((first | refine ldA TL_ok rfl rfl rfl rfl rfl (Bk.all B3) ?_ | refine ld TL_ok rfl rfl rfl rfl (Bk.get B3 rfl) ?_ | refine gT rfl rfl rfl rfl ?_ | refine gF rfl rfl rfl rfl ?_ | refine condT rfl rfl ?_ | refine condF rfl rfl ?_); refine go TL_ok 200 rfl ?_)
 refine call rfl rfl rfl (ok _ (by decide) rfl) (toured_any m _ _ (H.no q)) ?_
 rintro x w ⟨⟨b, rfl, hb⟩, qk⟩
 have B3 := B3.no qk
 have q := q.trans qk
 by_cases hbb : b = true
 case neg =>
  have e := Bool.eq_false_iff.2 hbb
  subst e
  refine go TL_ok 200 rfl ?_
  repeat ((first | refine ldA TL_ok rfl rfl rfl rfl rfl (Bk.all B3) ?_ | refine ld TL_ok rfl rfl rfl rfl (Bk.get B3 rfl) ?_ | refine gT rfl rfl rfl rfl ?_ | refine gF rfl rfl rfl rfl ?_ | refine condT rfl rfl ?_ | refine condF rfl rfl ?_); refine go TL_ok 200 rfl ?_)
  exact ret (ret3 (v := .slice none 0 0) (x := I 0) (y := I 2) Try.results61 rfl rfl rfl ⟨q, .inl ⟨fun h => hbb (hb.2 h.1), rfl⟩⟩)
 subst hbb
 have h := hb.1 rfl
 have n8 : m.S.l.length ≤ 8 := h.n8
 refine go TL_ok 200 rfl ?_
 repeat ((first | refine ldA TL_ok rfl rfl rfl rfl rfl (Bk.all B3) ?_ | refine ld TL_ok rfl rfl rfl rfl (Bk.get B3 rfl) ?_ | refine gT rfl rfl rfl rfl ?_ | refine gF rfl rfl rfl rfl ?_ | refine condT rfl rfl ?_ | refine condF rfl rfl ?_); refine go TL_ok 200 rfl ?_)
 refine call rfl rfl rfl (ok _ (by decide) rfl) (ordered_any m l A1 c1 _ _ (S1.no q) (by omega)) ?_
 rintro x w ⟨⟨b, rfl, hb⟩, qk⟩
 have B3 := B3.no qk
 have q := q.trans qk
 by_cases hbb : b = true
 case neg =>
  have e := Bool.eq_false_iff.2 hbb
  subst e
  refine go TL_ok 200 rfl ?_
  repeat ((first | refine ldA TL_ok rfl rfl rfl rfl rfl (Bk.all B3) ?_ | refine ld TL_ok rfl rfl rfl rfl (Bk.get B3 rfl) ?_ | refine gT rfl rfl rfl rfl ?_ | refine gF rfl rfl rfl rfl ?_ | refine condT rfl rfl ?_ | refine condF rfl rfl ?_); refine go TL_ok 200 rfl ?_)
  exact ret (ret3 (v := .slice none 0 0) (x := I 0) (y := I 2) Try.results61 rfl rfl rfl ⟨q, .inl ⟨fun h => hbb (hb.2 h.2.1), rfl⟩⟩)
 subst hbb
 have ho := hb.1 rfl
 refine go TL_ok 200 rfl ?_
 repeat ((first | refine ldA TL_ok rfl rfl rfl rfl rfl (Bk.all B3) ?_ | refine ld TL_ok rfl rfl rfl rfl (Bk.get B3 rfl) ?_ | refine gT rfl rfl rfl rfl ?_ | refine gF rfl rfl rfl rfl ?_ | refine condT rfl rfl ?_ | refine condF rfl rfl ?_); refine go TL_ok 200 rfl ?_)
 refine call rfl rfl rfl (ok _ (by decide) rfl) (within_any x0 0 1000000 _) ?_
 rintro x w ⟨rfl, rfl⟩
 by_cases hr : 0 ≤ x0 ∧ x0 ≤ 1000000
 case neg =>
  rw [decide_eq_false hr]
  refine go TL_ok 200 rfl ?_
  repeat ((first | refine ldA TL_ok rfl rfl rfl rfl rfl (Bk.all B3) ?_ | refine ld TL_ok rfl rfl rfl rfl (Bk.get B3 rfl) ?_ | refine gT rfl rfl rfl rfl ?_ | refine gF rfl rfl rfl rfl ?_ | refine condT rfl rfl ?_ | refine condF rfl rfl ?_); refine go TL_ok 200 rfl ?_)
  exact ret (ret3 (v := .slice none 0 0) (x := I 0) (y := I 2) Try.results61 rfl rfl rfl ⟨q, .inl ⟨fun h => hr h.2.2, rfl⟩⟩)
 rw [decide_eq_true hr]
 refine go TL_ok 200 rfl ?_
 repeat ((first | refine ldA TL_ok rfl rfl rfl rfl rfl (Bk.all B3) ?_ | refine ld TL_ok rfl rfl rfl rfl (Bk.get B3 rfl) ?_ | refine gT rfl rfl rfl rfl ?_ | refine gF rfl rfl rfl rfl ?_ | refine condT rfl rfl ?_ | refine condF rfl rfl ?_); refine go TL_ok 200 rfl ?_)
 obtain ⟨k, rfl, hkl, hkn⟩ := ord_nat ho
 have hl : (iN k).length = k.length := by simp [iN]
 have X := times_any m k x0 A1 c1 _ _ _ (H.no q) h (by rw [← hl]; exact S1.no q) hkn (by omega) hr.1 hr.2
 rw [← hl] at X
 refine call rfl rfl rfl (ok _ (by decide) rfl) X ?_
 rintro v w2 ⟨qk, hv⟩
 have hq := q.size
 have q := q.trans qk
 rcases hv with ⟨he, rfl⟩ | ⟨e, A, c, he, rfl, own⟩
 ·refine go TL_ok 200 rfl ?_
  repeat (first | (refine gT rfl rfl rfl rfl ?_; refine go TL_ok 200 rfl ?_) | (refine gF rfl rfl rfl rfl ?_; refine go TL_ok 200 rfl ?_) | (refine condT rfl rfl ?_; refine go TL_ok 200 rfl ?_) | (refine condF rfl rfl ?_; refine go TL_ok 200 rfl ?_))
  refine ret (ret3 (v := .slice none 0 0) (x := I 0) (y := I 7) Try.results61 rfl rfl rfl ⟨q, .inr ⟨⟨h, ho, hr⟩, fun k' hk' => .inl ⟨?_, rfl⟩⟩⟩)
  rw [← iN_inj hk']; exact he
 ·refine go TL_ok 200 rfl ?_
  repeat (first | (refine gT rfl rfl rfl rfl ?_; refine go TL_ok 200 rfl ?_) | (refine gF rfl rfl rfl rfl ?_; refine go TL_ok 200 rfl ?_) | (refine condT rfl rfl ?_; refine go TL_ok 200 rfl ?_) | (refine condF rfl rfl ?_; refine go TL_ok 200 rfl ?_))
  refine ret (ret3 (v := .slice A _ c) (x := I e) (y := I 0) Try.results61 rfl rfl rfl ⟨q, .inr ⟨⟨h, ho, hr⟩, fun k' hk' => .inr ?_⟩⟩)
  rw [← iN_inj hk']
  exact ⟨e, A, c, he, rfl, own_base own hq⟩
theorem Tours_any (m : Tm) (B : Nat) (w0 : World) (H : TrM w0 B m) : Ret Try.prog 63 [.agg (tmL m).toArray] w0 fun v w' => (TrOk (trP m) ∧ v = I 0 ∨ ¬ TrOk (trP m) ∧ v = I 2) ∧ Chg No w0 w' := by
 refine enter Try.func63 rfl Try.ntmps63 rfl ?_
 refine go TL_ok 200 rfl ?_
 refine bx rfl rfl rfl (cs := tmL m) rfl ?_
 intro g1 u1 hg1 hs1 q1 B1
 have q := q1
 refine go TL_ok 200 rfl ?_
 repeat ((first | refine ldA TL_ok rfl rfl rfl rfl rfl (Bk.all B1) ?_ | refine ld TL_ok rfl rfl rfl rfl (Bk.get B1 rfl) ?_ | refine gT rfl rfl rfl rfl ?_ | refine gF rfl rfl rfl rfl ?_ | refine condT rfl rfl ?_ | refine condF rfl rfl ?_); refine go TL_ok 200 rfl ?_)
 refine call rfl rfl rfl (ok _ (by decide) rfl) (toured_any m _ _ (H.no q)) ?_
 rintro x w ⟨⟨b, rfl, hb⟩, qk⟩
 have B1 := B1.no qk
 have q := q.trans qk
 refine go TL_ok 200 rfl ?_
 refine call rfl rfl rfl (ok _ (by decide) rfl) (errno_any b _) ?_
 rintro x w ⟨rfl, rfl⟩
 refine go TL_ok 200 rfl ?_
 refine ret (ret1 (v := I _) Try.results63 rfl ⟨?_, q⟩)
 cases b with
 | true => exact .inl ⟨hb.1 rfl, rfl⟩
 | false => exact .inr ⟨fun h => (by have := hb.2 h; cases this), rfl⟩
end Go.Proofs.Yteenhfnamjbaiaa
