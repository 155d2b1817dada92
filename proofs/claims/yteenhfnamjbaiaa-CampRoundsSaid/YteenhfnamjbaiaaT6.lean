/- The contract of Slack. -/
import Derived.Test.YteenhfnamjbaiaaT5
namespace Go.Proofs.Yteenhfnamjbaiaa
open Go.Ev Go.Proofs
open Go.Camp (Cl wayT stopT TrOk begT okT leaveT endT begs)
attribute [local irreducible] At AtH
theorem Backward_any (A : Option Addr) (n c : Nat) (w0 : World) : Ret Try.prog 102 [.slice A n c] w0 fun v w' => ∃ g, v = .func (.func 127) #[] #[.pointer (some ⟨g, 0, none⟩)] ∧ Chg No w0 w' ∧ w0.heap.size ≤ g ∧ Bk w' g 25 [.slice A n c] := by
 refine enter Try.func102 rfl Try.ntmps102 rfl ?_
 refine go TL_ok 200 rfl ?_
 refine bx rfl rfl rfl (cs := [.slice A n c]) rfl ?_
 intro g1 w1 hg1 hs1 q1 B1
 refine go TL_ok 200 rfl ?_
 exact ret (ret1 (v := .func _ _ _) Try.results102 rfl ⟨g1, rfl, q1, by omega, B1⟩)
def encP (x : Nat × Int) : List Value := [I (x.1 : Int), I x.2]
def outP (l : List Int) (pre : List (Nat × Int)) (x : Nat × Int) (_ : World) : Prop := pre.length < l.length ∧ x.1 = l.length - 1 - pre.length ∧ l[x.1]? = some x.2
set_option maxRecDepth 20000 in
set_option maxHeartbeats 8000000 in
theorem back_seq (l : List Int) (b o c g1 : Nat) (w : World) (hn : l.length ≤ 1000) (hn1 : 1 ≤ l.length) (H : Bk w g1 25 [.slice (some ⟨b, o, none⟩) l.length c]) (hb : b < w.heap.size) (hc : cellsAt w b o (iL l)) :
  Seq Try.prog 127 [.pointer (some ⟨g1, 0, none⟩)] encP (outP l) (fun k => k = g1 ∨ k = b) (fun xs => xs.length = l.length) w := by
 intro yl J W hW hJ hY h0
 refine enter Try.func127 rfl Try.ntmps127 rfl ?_
 refine go TL_ok 200 rfl ?_
 have H1 := H.no hW
 have hc1 := hc.keep hb hW (fun h => h)
 have hbW : b < W.heap.size := Nat.lt_of_lt_of_le hb hW.size
 refine ld TL_ok rfl rfl rfl rfl (H1.get (i := 0) rfl) ?_
 refine go TL_ok 200 rfl ?_
 rw [w64_id (x := (l.length : Int) - 1) (by omega) (by omega)]
 refine loop [0, 1, 3] (fun j : Nat => [.func (.yield yl) #[] #[], .pointer (some ⟨g1, 0, none⟩), I ((l.length : Int) - 1 - (j : Int))])
  (fun j w' => j ≤ l.length ∧ (∃ xs : List (Nat × Int), J xs w' ∧ xs.length = j) ∧ W.heap.size ≤ w'.heap.size ∧ Bk w' g1 25 [.slice (some ⟨b, o, none⟩) l.length c] ∧ cellsAt w' b o (iL l)) (fun j => l.length - j) 0 (fun _ => rfl) (by show [_, _, I ((l.length : Int) - 1)] = [_, _, I ((l.length : Int) - 1 - ((0 : Nat) : Int))]; rw [show (l.length : Int) - 1 - ((0 : Nat) : Int) = (l.length : Int) - 1 by omega]; rfl) ⟨Nat.zero_le _, ⟨[], h0, rfl⟩, Nat.le_refl _, H1, hc1⟩ ?_
 rintro j τ w' ⟨hj, ⟨xs, hJx, hxs⟩, hsz, H2, hc2⟩
 refine go TL_ok 200 rfl ?_
 refine condD rfl (fun hlt => ?_) (fun hlt => ?_)
 ·have hlt : j < l.length := by omega
  obtain ⟨a, ha⟩ : ∃ a : Nat, a = l.length - 1 - j := ⟨_, rfl⟩
  have hal : a < l.length := by omega
  rw [show (l.length : Int) - 1 - (j : Int) = (a : Int) by omega]
  obtain ⟨x, hx⟩ := getA_of hal
  have hcx := hc2 (a * 1) (I x) (by rw [Nat.mul_one]; unfold iL; rw [List.getElem?_map, hx]; rfl)
  refine go TL_ok 200 rfl ?_
  refine ld TL_ok rfl rfl rfl rfl (H2.get (i := 0) rfl) ?_
  refine go TL_ok 200 rfl ?_
  refine idx TL_ok rfl rfl rfl rfl rfl a rfl hal ?_
  refine go TL_ok 200 rfl ?_
  refine ld TL_ok rfl rfl rfl rfl (hcx) ?_
  refine go TL_ok 200 rfl ?_
  have hY2 := hY xs (a, x) w' hJx ⟨by omega, by rw [hxs]; exact ha, hx⟩ hsz
  refine yieldC rfl rfl rfl hY2 ?_
  rintro w5 ⟨hJ5, q5⟩
  refine go TL_ok 200 rfl ?_
  refine condF rfl rfl ?_
  refine go TL_ok 200 rfl ?_
  rw [w64_id (x := (a : Int) - 1) (by omega) (by omega)]
  exact round ⟨j + 1, by rw [show (l.length : Int) - 1 - ((j + 1 : Nat) : Int) = (a : Int) - 1 by omega]; rfl, ⟨by omega, ⟨_, hJ5, by simp [hxs]⟩, Nat.le_trans hsz q5.size, H2.keep q5 (fun h => h (.inl rfl)), hc2.keep (by omega) q5 (fun h => h (.inr rfl))⟩, by omega⟩
 ·have : j = l.length := by omega
  subst this
  refine go TL_ok 200 rfl ?_
  exact fin (ret0 Try.results127 ⟨xs, hxs, hJx⟩)
set_option maxRecDepth 20000 in
set_option maxHeartbeats 16000000 in
theorem Slack_any (m : Tm) (l : List Int) (A1 : Option Addr) (c1 B B1 : Nat) (w0 : World) (H : TrM w0 B m) (S1 : Sl w0 B1 1 A1 l.length (iL l)) :
  Ret Try.prog 62 [.agg (tmL m).toArray, .slice A1 l.length c1] w0 fun v w' => Chg No w0 w' ∧ ((¬ (TrOk (trP m) ∧ OrdOk m.S.l.length l) ∧ v = .tuple #[I 0, I 2]) ∨
   ((TrOk (trP m) ∧ OrdOk m.S.l.length l) ∧ ∀ k, l = iN k → (endT (trP m) k 0 0 = none ∧ v = .tuple #[I 0, I 7]) ∨ ∃ e, endT (trP m) k 0 0 = some e ∧ v = .tuple #[I (latT (trP m) k - wayT (trP m) 0 (k.getD 0 0 + 1)), I 0])) := by
 refine enter Try.func62 rfl Try.ntmps62 rfl ?_
 refine go TL_ok 200 rfl ?_
 refine bx rfl rfl rfl (cs := tmL m) rfl ?_
 intro g2 u2 hg2 hs2 q2 B2
 refine go TL_ok 200 rfl ?_
 refine bx rfl rfl rfl (cs := [.slice A1 l.length c1]) rfl ?_
 intro g3 w hg3 hs3 qk B3
 have B2 := B2.no qk
 have q := q2.trans qk
 refine go TL_ok 200 rfl ?_
 repeat ((first | refine ldA TL_ok rfl rfl rfl rfl rfl (Bk.all B2) ?_ | refine ldA TL_ok rfl rfl rfl rfl rfl (Bk.all B3) ?_ | refine ld TL_ok rfl rfl rfl rfl (Bk.get B2 rfl) ?_ | refine ld TL_ok rfl rfl rfl rfl (Bk.get B3 rfl) ?_ | refine gT rfl rfl rfl rfl ?_ | refine gF rfl rfl rfl rfl ?_ | refine condT rfl rfl ?_ | refine condF rfl rfl ?_); refine go TL_ok 200 rfl ?_)
 refine call rfl rfl rfl (ok _ (by decide) rfl) (toured_any m _ _ (H.no q)) ?_
 rintro x w ⟨⟨b, rfl, hb⟩, qk⟩
 have B2 := B2.no qk
 have B3 := B3.no qk
 have q := q.trans qk
 by_cases hbb : b = true
 case neg =>
  have e := Bool.eq_false_iff.2 hbb
  subst e
  refine go TL_ok 200 rfl ?_
  repeat ((first | refine ldA TL_ok rfl rfl rfl rfl rfl (Bk.all B2) ?_ | refine ldA TL_ok rfl rfl rfl rfl rfl (Bk.all B3) ?_ | refine ld TL_ok rfl rfl rfl rfl (Bk.get B2 rfl) ?_ | refine ld TL_ok rfl rfl rfl rfl (Bk.get B3 rfl) ?_ | refine gT rfl rfl rfl rfl ?_ | refine gF rfl rfl rfl rfl ?_ | refine condT rfl rfl ?_ | refine condF rfl rfl ?_); refine go TL_ok 200 rfl ?_)
  exact ret (ret2 (v := I 0) (x := I 2) Try.results62 rfl rfl ⟨q, .inl ⟨fun h => hbb (hb.2 h.1), rfl⟩⟩)
 subst hbb
 have h := hb.1 rfl
 have n8 : m.S.l.length ≤ 8 := h.n8
 have n1 : 1 ≤ m.S.l.length := h.n1
 have hwl : m.W.l.length = m.S.l.length + 1 := by have := h.w; simpa [trP] using this
 refine go TL_ok 200 rfl ?_
 repeat ((first | refine ldA TL_ok rfl rfl rfl rfl rfl (Bk.all B2) ?_ | refine ldA TL_ok rfl rfl rfl rfl rfl (Bk.all B3) ?_ | refine ld TL_ok rfl rfl rfl rfl (Bk.get B2 rfl) ?_ | refine ld TL_ok rfl rfl rfl rfl (Bk.get B3 rfl) ?_ | refine gT rfl rfl rfl rfl ?_ | refine gF rfl rfl rfl rfl ?_ | refine condT rfl rfl ?_ | refine condF rfl rfl ?_); refine go TL_ok 200 rfl ?_)
 refine call rfl rfl rfl (ok _ (by decide) rfl) (ordered_any m l A1 c1 _ _ (S1.no q) (by omega)) ?_
 rintro x w ⟨⟨b, rfl, hb⟩, qk⟩
 have B2 := B2.no qk
 have B3 := B3.no qk
 have q := q.trans qk
 by_cases hbb : b = true
 case neg =>
  have e := Bool.eq_false_iff.2 hbb
  subst e
  refine go TL_ok 200 rfl ?_
  repeat ((first | refine ldA TL_ok rfl rfl rfl rfl rfl (Bk.all B2) ?_ | refine ldA TL_ok rfl rfl rfl rfl rfl (Bk.all B3) ?_ | refine ld TL_ok rfl rfl rfl rfl (Bk.get B2 rfl) ?_ | refine ld TL_ok rfl rfl rfl rfl (Bk.get B3 rfl) ?_ | refine gT rfl rfl rfl rfl ?_ | refine gF rfl rfl rfl rfl ?_ | refine condT rfl rfl ?_ | refine condF rfl rfl ?_); refine go TL_ok 200 rfl ?_)
  exact ret (ret2 (v := I 0) (x := I 2) Try.results62 rfl rfl ⟨q, .inl ⟨fun h => hbb (hb.2 h.2), rfl⟩⟩)
 subst hbb
 have ho := hb.1 rfl
 refine go TL_ok 200 rfl ?_
 repeat ((first | refine ldA TL_ok rfl rfl rfl rfl rfl (Bk.all B2) ?_ | refine ldA TL_ok rfl rfl rfl rfl rfl (Bk.all B3) ?_ | refine ld TL_ok rfl rfl rfl rfl (Bk.get B2 rfl) ?_ | refine ld TL_ok rfl rfl rfl rfl (Bk.get B3 rfl) ?_ | refine gT rfl rfl rfl rfl ?_ | refine gF rfl rfl rfl rfl ?_ | refine condT rfl rfl ?_ | refine condF rfl rfl ?_); refine go TL_ok 200 rfl ?_)
 obtain ⟨k, rfl, hkl, hkn⟩ := ord_nat ho
 have hl : (iN k).length = k.length := by simp [iN]
 have X := times_any m k 0 A1 c1 _ _ _ (H.no q) h (by rw [← hl]; exact S1.no q) hkn (by omega) (by omega) (by omega)
 rw [← hl] at X
 refine call rfl rfl rfl (ok _ (by decide) rfl) X ?_
 rintro v w2 ⟨qk, hv⟩
 have B2 := B2.no qk
 have B3 := B3.no qk
 have q := q.trans qk
 rcases hv with ⟨he, rfl⟩ | ⟨e, A, c, he, rfl, own⟩
 ·refine go TL_ok 200 rfl ?_
  repeat (first | (refine gT rfl rfl rfl rfl ?_; refine go TL_ok 200 rfl ?_) | (refine gF rfl rfl rfl rfl ?_; refine go TL_ok 200 rfl ?_) | (refine condT rfl rfl ?_; refine go TL_ok 200 rfl ?_) | (refine condF rfl rfl ?_; refine go TL_ok 200 rfl ?_))
  refine ret (ret2 (v := I 0) (x := I 7) Try.results62 rfl rfl ⟨q, .inr ⟨⟨h, ho⟩, fun k' hk' => .inl ⟨?_, rfl⟩⟩⟩)
  rw [← iN_inj hk']; exact he
 have hfin : ∀ k', iN k = iN k' → k = k' := fun k' h => iN_inj h
 refine go TL_ok 200 rfl ?_
 repeat (first | (refine gT rfl rfl rfl rfl ?_; refine go TL_ok 200 rfl ?_) | (refine gF rfl rfl rfl rfl ?_; refine go TL_ok 200 rfl ?_) | (refine condT rfl rfl ?_; refine go TL_ok 200 rfl ?_) | (refine condF rfl rfl ?_; refine go TL_ok 200 rfl ?_))
 have l2 := B2.lt
 have l3 := B3.lt
 have lq := q.size
 refine nw rfl rfl (z := .int .i64 0) (by kernel_rfl) (cs := [I 0]) rfl ?_
 intro g9 w3 hg9 hs9 qk B9
 have B2 := B2.no qk
 have B3 := B3.no qk
 have q := q.trans qk
 refine go TL_ok 200 rfl ?_
 refine st TL_ok rfl rfl rfl rfl (v := I 0) rfl rfl B9 rfl ?_
 intro w4 qk B9 hz9
 have B9 : Bk w4 g9 3 [I 0] := B9
 have B2 := B2.keep qk (by omega)
 have B3 := B3.keep qk (by omega)
 have q := q.step qk (fun k hk e => by omega)
 have u9 : g2 < g9 ∧ g3 < g9 ∧ w0.heap.size ≤ g9 := by omega
 refine go TL_ok 200 rfl ?_
 repeat ((first | refine ldA TL_ok rfl rfl rfl rfl rfl (Bk.all B2) ?_ | refine ldA TL_ok rfl rfl rfl rfl rfl (Bk.all B3) ?_ | refine ld TL_ok rfl rfl rfl rfl (Bk.get B2 rfl) ?_ | refine ld TL_ok rfl rfl rfl rfl (Bk.get B3 rfl) ?_ | refine gT rfl rfl rfl rfl ?_ | refine gF rfl rfl rfl rfl ?_ | refine condT rfl rfl ?_ | refine condF rfl rfl ?_); refine go TL_ok 200 rfl ?_)
 refine call rfl rfl rfl (ok _ (by decide) rfl) (Backward_any A1 (iN k).length c1 _) ?_
 rintro v w5 ⟨gb, rfl, qk, hgb, Bb⟩
 have B2 := B2.no qk
 have B3 := B3.no qk
 have B9 := B9.no qk
 have q := q.trans qk
 have l9 := B9.lt
 have lb := Bb.lt
 have S5 := S1.no q
 have hlenk : (iN k).length = m.S.l.length := by omega
 obtain ⟨b1, o1, hA1, hb1, hc1⟩ := S5.2.2 (by omega)
 have hB1 := S1.2.1
 subst hA1
 have u9b : g9 < gb := by omega
 clear hgb hz9 hs9 hg9
 refine go TL_ok 200 rfl ?_
 refine rangeFunc rfl rfl (ok _ (by decide) rfl) (back_seq (iN k) b1 o1 c1 gb w5 (by omega) (by omega) Bb (by omega) hc1) (fun k hk => by rcases hk with hk | hk <;> omega) (fun _ => rfl) (fun pre x A B l h _ _ => h)
  (fun (xs : List (Nat × Int)) W => xs.length ≤ k.length ∧ Bk W g9 3 [I (latT (trP m) (k.drop (k.length - xs.length)))] ∧ Chg (fun k => k = g9) w5 W) (fun s A B hI qq => ⟨hI.1, hI.2.1.no qq, hI.2.2.step qq (fun k hk e => e.elim)⟩)
  (fun s A B hI hl qq => ⟨hI.1, hI.2.1.keep qq (by omega), hI.2.2.step qq (fun k hk e => by omega)⟩) ⟨Nat.zero_le _, by rw [List.length_nil, Nat.sub_zero, List.drop_length]; exact B9, Chg.refl _ _⟩ (fun x => [(10, I (x.1 : Int)), (11, I x.2)]) ?ca ?bd ?dn
 case ca =>
  intro l x W
  refine go TL_ok 200 rfl ?_
  exact round ⟨rfl, rfl⟩
 case bd =>
  rintro lr pre ⟨a, v⟩ W ⟨hpl, I1, I2⟩ ⟨hp1, hp2, hp3⟩ hsz hlp hdf
  simp only at hp2 hp3
  have hal : a < k.length := by omega
  obtain ⟨i, hi⟩ := getA_of hal
  rw [iN_get' hi] at hp3
  injection hp3 with hp3
  subst hp3
  have hin := hkn i (List.mem_of_getElem? hi)
  have hja : k.length - pre.length = a + 1 := by omega
  have haj : k.length - (pre ++ [(a, (i : Int))]).length = a := by rw [List.length_append]; simp; omega
  rw [hja] at I1
  obtain ⟨hst, ⟨⟨k1, k2⟩, k3, k4, k5⟩⟩ := stop_at h hin
  have qW := q.step I2 (fun k hk e => by omega)
  have H1 := H.no qW
  have B2 := B2.keep I2 (by omega)
  have B3 := B3.keep I2 (by omega)
  obtain ⟨b4, o4, hA4, hb4, hc4⟩ := Sl.el H1.s clL_len hst
  have hls := lat_step (trP m) hi
  have hlb := lat_bd h (k.drop (a + 1)) (fun x hx => hkn x (List.mem_of_mem_drop hx))
  have hld : (k.drop (a + 1)).length ≤ 8 := by rw [List.length_drop]; omega
  have hBB := H1.w1.2.1
  have lI := I2.size
  refine keepS (l' := [(2, .pointer (some ⟨g2, 0, none⟩)), (3, .pointer (some ⟨g3, 0, none⟩)), (9, .pointer (some ⟨g9, 0, none⟩)), (10, I (a : Int)), (11, I (i : Int))]) ⟨rfl, rfl, rfl, rfl, rfl, trivial⟩ ?_
  intro τ
  refine go TL_ok 200 rfl ?_
  repeat ((first | refine ldA TL_ok rfl rfl rfl rfl rfl (Bk.all B2) ?_ | refine ld TL_ok rfl rfl rfl rfl (Bk.get B2 rfl) ?_ | refine gT rfl rfl rfl rfl ?_ | refine gF rfl rfl rfl rfl ?_ | refine condT rfl rfl ?_ | refine condF rfl rfl ?_); refine go TL_ok 200 rfl ?_)
  rw [hA4]
  refine idx TL_ok rfl rfl rfl rfl rfl i rfl hin ?_
  refine go TL_ok 200 rfl ?_
  refine ldA TL_ok rfl rfl rfl rfl rfl hc4 ?_
  rw [← hA4]
  refine go TL_ok 200 rfl ?_
  refine nw rfl rfl (z := .agg #[I 0, I 0, I 0]) (by kernel_rfl) (cs := [I 0, I 0, I 0]) rfl ?_
  intro g12 W1 hg12 hs12 qk B12
  refine go TL_ok 200 rfl ?_
  refine stA TL_ok rfl rfl rfl rfl (vs := clL (stopT (trP m) i)) rfl rfl rfl B12 rfl ?_
  intro W2 qk2 B12 hz12
  have B12 : Bk W2 g12 148 (clL (stopT (trP m) i)) := B12
  have q12 : Chg No W W2 := qk.step qk2 (fun k hk e => by omega)
  have B2 := B2.no q12
  have B3 := B3.no q12
  have I1 := I1.no q12
  have H1 := H1.no q12
  have hlI := q12.size
  refine go TL_ok 200 rfl ?_
  repeat ((first | refine ldA TL_ok rfl rfl rfl rfl rfl (Bk.all B3) ?_ | refine ld TL_ok rfl rfl rfl rfl (Bk.get B3 rfl) ?_ | refine gT rfl rfl rfl rfl ?_ | refine gF rfl rfl rfl rfl ?_ | refine condT rfl rfl ?_ | refine condF rfl rfl ?_); refine go TL_ok 200 rfl ?_)
  rw [w64_id (x := ((iN k).length : Int) - 1) (by omega) (by omega)]
  by_cases hlast : a + 1 = k.length
  ·rw [if_pos hlast] at hls
   have e : ((a : Int) == ((iN k).length : Int) - 1) = true := by simp; omega
   rw [e]
   refine go TL_ok 200 rfl ?_
   repeat ((first | refine ldA TL_ok rfl rfl rfl rfl rfl (Bk.all B12) ?_ | refine ld TL_ok rfl rfl rfl rfl (Bk.get B12 rfl) ?_ | refine gT rfl rfl rfl rfl ?_ | refine gF rfl rfl rfl rfl ?_ | refine condT rfl rfl ?_ | refine condF rfl rfl ?_); refine go TL_ok 200 rfl ?_)
   refine st TL_ok rfl rfl rfl rfl (v := I (stopT (trP m) i).due) rfl rfl I1 rfl ?_
   intro W3 q3 I1 hz3
   have I1 : Bk W3 g9 3 [I (stopT (trP m) i).due] := I1
   have qF : Chg (fun k => k = g9) W W3 := (q12.mono fun _ _ h => h.elim).trans q3
   refine go TL_ok 200 rfl ?_
   refine round ⟨⟨by rw [List.length_append]; simp; omega, by rw [haj, hls]; exact I1, I2.trans qF⟩, qF.mono fun k hk e => ⟨by omega, by omega, fun h => by rcases h with h | h <;> omega⟩⟩
  ·rw [if_neg hlast] at hls
   have e : ((a : Int) == ((iN k).length : Int) - 1) = false := by simp; omega
   rw [e]
   have hj2 : k[a + 1]? = some (k.getD (a + 1) 0) := getD_at (by omega)
   obtain ⟨i2, hi2⟩ : ∃ i2, i2 = k.getD (a + 1) 0 := ⟨_, rfl⟩
   rw [← hi2] at hj2 hls
   have hin2 := hkn i2 (List.mem_of_getElem? hj2)
   obtain ⟨s, hs, hsl, hsx, hw0, hw1⟩ := way_at h (show i + 1 ≤ m.S.l.length by omega) (show i2 + 1 ≤ m.S.l.length by omega)
   obtain ⟨b1', o1', hA1, hb1', hc1'⟩ := Sl.el H1.w1 slI_len hs
   obtain ⟨b2, o2, hA2, hb2, hc2⟩ := (H1.w2 s (List.mem_of_getElem? hs)).1.elI hsx
   have hcW := hc1.keep (by omega) (I2.trans (q12.mono fun _ _ h => h.elim)) (show ¬ b1 = g9 by omega)
   have hc5 := hcW (a + 1) (I (i2 : Int)) (by unfold iL; rw [List.getElem?_map, iN_get' hj2]; rfl)
   refine go TL_ok 200 rfl ?_
   repeat (first | (refine gT rfl rfl rfl rfl ?_; refine go TL_ok 200 rfl ?_) | (refine gF rfl rfl rfl rfl ?_; refine go TL_ok 200 rfl ?_) | (refine condT rfl rfl ?_; refine go TL_ok 200 rfl ?_) | (refine condF rfl rfl ?_; refine go TL_ok 200 rfl ?_))
   refine draw mixed (fun w' => Chg No W2 w') ([0,1,2,3,4,5,6,7,8,9,10,11,12,13,14,15,16,17,18,19,20,21].map (fun i => (i, true)) ++ [(22, false)]) rfl (by kernel_rfl) (Chg.drew _) ?_
   refine goH TL_ok 200 rfl ?_
   repeat (first | (refine quietH rfl (fun w' hS => r_load TL_ok rfl rfl rfl (Bk.get (B12.no hS) rfl)) ?_; refine goH TL_ok 200 rfl ?_) | (refine quietH rfl (fun w' hS => r_load TL_ok rfl rfl rfl (Bk.get (I1.no hS) rfl)) ?_; refine goH TL_ok 200 rfl ?_) | (refine quietH rfl (fun w' hS => r_load TL_ok rfl rfl rfl (Bk.get (B2.no hS) rfl)) ?_; refine goH TL_ok 200 rfl ?_) | (refine quietH rfl (fun w' hS => r_load TL_ok rfl rfl rfl (Bk.get (B3.no hS) rfl)) ?_; refine goH TL_ok 200 rfl ?_))
   rw [w64_id (x := (i : Int) + 1) (by omega) (by omega), hA1]
   refine quietH rfl (fun w' hS => r_idx TL_ok rfl rfl rfl rfl (i + 1) (by push_cast; rfl) (by omega)) ?_
   refine goH TL_ok 200 rfl ?_
   refine quietH rfl (fun w' hS => r_load TL_ok rfl rfl rfl ((hc1'.keep (by omega) hS (fun h => h)).get (i := 0) rfl)) ?_
   rw [← hA1]
   refine goH TL_ok 200 rfl ?_
   repeat (first | (refine quietH rfl (fun w' hS => r_load TL_ok rfl rfl rfl (Bk.get (B3.no hS) rfl)) ?_; refine goH TL_ok 200 rfl ?_))
   rw [w64_id (x := (a : Int) + 1) (by omega) (by omega)]
   refine quietH rfl (fun w' hS => r_idx TL_ok rfl rfl rfl rfl (a + 1) (by push_cast; rfl) (by omega)) ?_
   refine goH TL_ok 200 rfl ?_
   refine quietH rfl (fun w' hS => r_load TL_ok rfl rfl rfl ((hS.cell (a := ⟨b1, o1 + (a + 1) * 1, none⟩) (by show b1 < _; omega) (fun h => h)).trans (by rw [Nat.mul_one]; exact hc5))) ?_
   refine goH TL_ok 200 rfl ?_
   rw [w64_id (x := (i2 : Int) + 1) (by omega) (by omega), hA2]
   refine quietH rfl (fun w' hS => r_idx TL_ok rfl rfl rfl rfl (i2 + 1) (by push_cast; rfl) (by omega)) ?_
   refine goH TL_ok 200 rfl ?_
   refine quietH rfl (fun w' hS => r_load TL_ok rfl rfl rfl ((hS.cell (a := ⟨b2, o2 + (i2 + 1) * 1, none⟩) (by show b2 < _; omega) (fun h => h)).trans hc2)) ?_
   rw [← hA2]
   refine goH TL_ok 200 rfl ?_
   repeat (first | (refine quietH rfl (fun w' hS => r_load TL_ok rfl rfl rfl (Bk.get (B12.no hS) rfl)) ?_; refine goH TL_ok 200 rfl ?_))
   rw [w64_id (x := latT (trP m) (k.drop (a + 1)) - wayT (trP m) (i + 1) (i2 + 1)) (by omega) (by omega), w64_id (x := latT (trP m) (k.drop (a + 1)) - wayT (trP m) (i + 1) (i2 + 1) - (stopT (trP m) i).work) (by omega) (by omega)]
   refine storeL TL_ok rfl rfl rfl rfl (v := I (min (stopT (trP m) i).due (latT (trP m) (k.drop (a + 1)) - wayT (trP m) (i + 1) (i2 + 1) - (stopT (trP m) i).work))) rfl rfl (I1.no (Chg.drew _)) rfl (by kernel_rfl) ?_
   intro W3 q3 I1 hz3
   have I1 : Bk W3 g9 3 [I (min (stopT (trP m) i).due (latT (trP m) (k.drop (a + 1)) - wayT (trP m) (i + 1) (i2 + 1) - (stopT (trP m) i).work))] := I1
   have qF : Chg (fun k => k = g9) W W3 := ((q12.trans (Chg.drew W2)).mono fun _ _ h => h.elim).trans q3
   refine endH ?_
   refine go TL_ok 200 rfl ?_
   refine round ⟨⟨by rw [List.length_append]; simp; omega, by rw [haj, hls]; exact I1, I2.trans qF⟩, qF.mono fun k hk e => ⟨by omega, by omega, fun h => by rcases h with h | h <;> omega⟩⟩
 case dn =>
  rintro xs W hS ⟨hpl, I1, I2⟩ hsz hD
  rw [hS, hl, Nat.sub_self, List.drop_zero] at I1
  have hi : k[0]? = some (k.getD 0 0) := getD_at (by omega)
  obtain ⟨i, hi2⟩ : ∃ i, i = k.getD 0 0 := ⟨_, rfl⟩
  rw [← hi2] at hi
  have hin := hkn i (List.mem_of_getElem? hi)
  have qW := q.step I2 (fun k hk e => by omega)
  have H1 := H.no qW
  have B2 := B2.keep I2 (by omega)
  have B3 := B3.keep I2 (by omega)
  obtain ⟨s, hs, hsl, hsx, hw0, hw1⟩ := way_at h (Nat.zero_le _) (show i + 1 ≤ m.S.l.length by omega)
  obtain ⟨b1', o1', hA1, hb1', hc1'⟩ := Sl.el H1.w1 slI_len hs
  obtain ⟨b2, o2, hA2, hb2, hc2⟩ := (H1.w2 s (List.mem_of_getElem? hs)).1.elI hsx
  have hBB := H1.w1.2.1
  have lI := I2.size
  have hcW := hc1.keep (by omega) I2 (show ¬ b1 = g9 by omega)
  have hc5 := hcW 0 (I (i : Int)) (by unfold iL; rw [List.getElem?_map, iN_get' hi]; rfl)
  have hlb := lat_bd h k hkn
  refine go TL_ok 200 rfl ?_
  refine draw mixed (fun w' => Chg No W w') ([0,1,2,3,4,5,6,7,8,9,10,11,12,13].map (fun i => (i, true))) rfl (by kernel_rfl) (Chg.drew _) ?_
  refine goH TL_ok 200 rfl ?_
  repeat (first | (refine quietH rfl (fun w' hS => r_load TL_ok rfl rfl rfl (Bk.get (I1.no hS) rfl)) ?_; refine goH TL_ok 200 rfl ?_) | (refine quietH rfl (fun w' hS => r_load TL_ok rfl rfl rfl (Bk.get (B2.no hS) rfl)) ?_; refine goH TL_ok 200 rfl ?_))
  rw [hA1]
  refine quietH rfl (fun w' hS => r_idx TL_ok rfl rfl rfl rfl 0 rfl (by omega)) ?_
  refine goH TL_ok 200 rfl ?_
  refine quietH rfl (fun w' hS => r_load TL_ok rfl rfl rfl ((hc1'.keep (by omega) hS (fun h => h)).get (i := 0) rfl)) ?_
  rw [← hA1]
  refine goH TL_ok 200 rfl ?_
  repeat (first | (refine quietH rfl (fun w' hS => r_load TL_ok rfl rfl rfl (Bk.get (B3.no hS) rfl)) ?_; refine goH TL_ok 200 rfl ?_))
  refine quietH rfl (fun w' hS => r_idx TL_ok rfl rfl rfl rfl 0 rfl (by omega)) ?_
  refine goH TL_ok 200 rfl ?_
  refine quietH rfl (fun w' hS => r_load TL_ok rfl rfl rfl ((hS.cell (a := ⟨b1, o1 + 0 * 1, none⟩) (by show b1 < _; omega) (fun h => h)).trans hc5)) ?_
  refine goH TL_ok 200 rfl ?_
  rw [w64_id (x := (i : Int) + 1) (by omega) (by omega), hA2]
  refine quietH rfl (fun w' hS => r_idx TL_ok rfl rfl rfl rfl (i + 1) (by push_cast; rfl) (by omega)) ?_
  refine goH TL_ok 200 rfl ?_
  refine quietH rfl (fun w' hS => r_load TL_ok rfl rfl rfl ((hS.cell (a := ⟨b2, o2 + (i + 1) * 1, none⟩) (by show b2 < _; omega) (fun h => h)).trans hc2)) ?_
  rw [← hA2]
  refine goH TL_ok 200 rfl ?_
  rw [w64_id (x := latT (trP m) k - wayT (trP m) 0 (i + 1)) (by omega) (by omega)]
  refine endH ?_
  refine go TL_ok 200 rfl ?_
  have hD' : W.drew.heap[w5.heap.size]? = some (.deferred (some [])) := hD
  have qp := Chg.putObj W.drew w5.heap.size (.deferred none)
  have q5s := q.size
  refine retM rfl hD' (ret2 (v := I _) (x := I 0) Try.results62 rfl rfl ⟨(qW.trans (Chg.drew W)).step qp (fun k hk e => by omega), .inr ⟨⟨h, ho⟩, fun k' hk' => .inr ⟨e, ?_, ?_⟩⟩⟩)
  ·rw [← hfin k' hk']; exact he
  ·rw [← hfin k' hk', ← hi2]
end Go.Proofs.Yteenhfnamjbaiaa
