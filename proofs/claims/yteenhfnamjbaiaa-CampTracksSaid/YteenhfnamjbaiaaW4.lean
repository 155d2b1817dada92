/- The contract of the least scanner in the specification. -/
import Derived.Test.YteenhfnamjbaiaaW3
namespace Go.Proofs.Yteenhfnamjbaiaa
open Go.Ev Go.Proofs
open Go.Camp (Sc ScOk Sc8 nxA alA nxC alC runS desS smallP Among tE EqT ixE addE Cov rsR rsP ixE_lt ixE_le addE_pos addE_neg amE_add pr_lt enc_lt)
attribute [local irreducible] At AtH
/-- a scanner that is returned, in rows of its own -/
def SmO (w0 w' : World) (s : Sc) (v : Value) : Prop := ∃ AN cN AO cO, v = .agg #[.slice AN s.nx.length cN, .slice AO s.nx.length cO] ∧ w'.ownsRow w0.heap.size 124 2 (.slice AN s.nx.length cN) s.nx.length (s.nx.flatMap nV) ∧ w'.ownsRow w0.heap.size 125 2 (.slice AO s.nx.length cO) s.nx.length (s.al.flatMap bV)
theorem SmO.m {w0 w' : World} {s : Sc} {v : Value} (h : SmO w0 w' s v) (hs : s.al.length = s.nx.length) (hl : s.nx.length ≤ 16384) : ∃ m : Scm, scP m = s ∧ v = .agg (scL m).toArray ∧ ScM w' w'.heap.size m := by
 obtain ⟨AN, cN, AO, cO, rfl, o1, o2⟩ := h
 refine ⟨⟨⟨AN, s.nx, cN⟩, ⟨AO, s.al, cO⟩⟩, rfl, ?_, own_sl o1, ?_, ?_, ?_⟩
 ·show Value.agg _ = Value.agg #[Value.slice AN s.nx.length cN, Value.slice AO s.al.length cO]
  rw [hs]
 ·show Sl w' _ 2 AO s.al.length _
  rw [hs]
  exact own_sl o2
 ·show s.nx.length ≤ _; omega
 ·show s.al.length ≤ _; omega
theorem elN {w : World} {B : Nat} {A : Option Addr} {l : List Nat} (h : Sl w B 1 A l.length (iL (iN l))) {i x : Nat} (hx : l[i]? = some x) : ∃ b o, A = some ⟨b, o, none⟩ ∧ b < B ∧ w.cell? ⟨b, o + i * 1, none⟩ = some (I (x : Int)) := by
 have S2 : Sl w B 1 A (iN l).length (iL (iN l)) := by rw [show (iN l).length = l.length by simp [iN]]; exact h
 exact S2.elI (j := i) (x := (x : Int)) (by unfold iN; rw [List.getElem?_map, hx]; rfl)
theorem ixE_of {E : Nat → Nat → Bool} {l : List Nat} {x k : Nat} (h1 : ∀ j y, j < k → l[j]? = some y → E y x = false) (h2 : ∀ y, l[k]? = some y → E y x = true) (h3 : k ≤ l.length) : ixE E l x = k := by
 unfold ixE
 rcases Nat.lt_or_ge k l.length with h | h
 ·rw [List.findIdx_eq h]
  exact ⟨h2 _ (List.getElem?_eq_getElem h), fun j hj => h1 j _ hj (List.getElem?_eq_getElem (by omega))⟩
 ·obtain rfl : k = l.length := by omega
  rw [List.findIdx_eq_length]
  intro y hy
  obtain ⟨j, hj⟩ := List.getElem?_of_mem hy
  exact h1 j y (List.getElem?_eq_some_iff.1 hj).1 hj
theorem rsR_none {s : Sc} {E : Nat → Nat → Bool} {f i : Nat} {l : List Nat} {N : List (Int × Int)} {O : List (Bool × Bool)} (h : l.length ≤ i) : rsR s E f i l N O = ⟨N, O⟩ := by
 cases f with
 | zero => rfl
 | succ f => unfold rsR; rw [List.getElem?_eq_none h]
theorem tE_false {n : Nat} {L : List Bool} {x y : Nat} {b : Bool} (h : L.getD (x * n + y) true = b) : tE n L x y = !b := by unfold tE; rw [h]
def lcE (s : Sc) (E : Nat → Nat → Bool) (l : List Nat) (x c : Nat) : List Nat := if c = 0 then l else if c = 1 then addE E l (nxA s x).1 else addE E (addE E l (nxA s x).1) (nxA s x).2
def vcE (s : Sc) (E : Nat → Nat → Bool) (l : List Nat) (x c : Nat) : List Value := [I (if c = 0 then 0 else (ixE E l (nxA s x).1 : Nat) : Int), I (if c = 2 then (ixE E (addE E l (nxA s x).1) (nxA s x).2 : Nat) else 0 : Int)]
theorem lcE_step (s : Sc) (E : Nat → Nat → Bool) (l : List Nat) (x : Nat) {c : Nat} (h : c < 2) : lcE s E l x (c + 1) = addE E (lcE s E l x c) (nxC s x (decide (c = 1))) ∧ vcE s E l x (c + 1) = (vcE s E l x c).set (0 + c * 1) (I (ixE E (lcE s E l x c) (nxC s x (decide (c = 1))) : Nat)) := by
 obtain rfl | rfl : c = 0 ∨ c = 1 := by omega
 ·exact ⟨rfl, rfl⟩
 ·exact ⟨rfl, rfl⟩
structure RsX where
 i : Nat
 l : List Nat
 A : Option Addr
 c : Nat
 N : List (Int × Int)
 AN : Option Addr
 cN : Nat
 O : List (Bool × Bool)
 AO : Option Addr
 cO : Nat
set_option maxRecDepth 20000 in
set_option maxHeartbeats 16000000 in
theorem rSmallest_any (m : Scm) (B : Nat) (w0 : World) (H : ScM w0 B m) (h8 : Sc8 (scP m)) : Ret Try.prog 45 [.agg (scL m).toArray] w0 fun v w' => Chg No w0 w' ∧ SmO w0 w' (smallP (scP m)) v := by
 have h := h8.1
 have n1 : 1 ≤ m.N.l.length := h.n1
 have n8 : m.N.l.length ≤ 128 := h8.2
 have hns : (scP m).nx.length = m.N.l.length := rfl
 refine enter Try.func45 rfl Try.ntmps45 rfl ?_
 refine go TD_ok 200 rfl ?_
 refine bx rfl rfl rfl (cs := scL m) rfl ?_
 intro g1 u1 hg1 hs1 q1 B1
 have q := q1
 refine go TD_ok 200 rfl ?_
 refine nw rfl rfl (z := .agg #[.slice none 0 0, .slice none 0 0]) (by kernel_rfl) (cs := [.slice none 0 0, .slice none 0 0]) rfl ?_
 intro g2 w hg2 hs2 qk B2
 have B1 := B1.no qk
 have q := q.trans qk
 have l1 := B1.lt
 refine go TD_ok 200 rfl ?_
 repeat ((first | refine ldA TD_ok rfl rfl rfl rfl rfl (Bk.all B1) ?_ | refine ldA TD_ok rfl rfl rfl rfl rfl (Bk.all B2) ?_ | refine ld TD_ok rfl rfl rfl rfl (Bk.get B1 rfl) ?_ | refine ld TD_ok rfl rfl rfl rfl (Bk.get B2 rfl) ?_ | refine gT rfl rfl rfl rfl ?_ | refine gF rfl rfl rfl rfl ?_ | refine condT rfl rfl ?_ | refine condF rfl rfl ?_); refine go TD_ok 200 rfl ?_)
 refine call rfl rfl rfl (ok _ (by decide) rfl) (rdiffer_any m B _ (H.no q) h8) ?_
 rintro v w ⟨qk, gu, L, rfl, hgu, Bu, hLl, hE⟩
 have l2 := B2.lt
 have B1 := B1.no qk
 have B2 := B2.no qk
 have q := q.trans qk
 have hsm : rsP (scP m) (tE m.N.l.length L) = smallP (scP m) := (Go.Camp.rsP_can h hE).trans (Go.Camp.small_can h hE).1.symm
 obtain ⟨n, hn⟩ : ∃ n, n = m.N.l.length := ⟨_, rfl⟩
 rw [← hn] at n1 n8 hns hE hLl hsm
 have hnn : n * n ≤ 128 * 128 := Nat.mul_le_mul (by omega) (by omega)
 obtain ⟨E, hEE⟩ : ∃ E, E = tE n L := ⟨_, rfl⟩
 have hEv : ∀ x y b, L.getD (x * n + y) true = b → E x y = !b := fun x y b hb => by rw [hEE]; exact tE_false hb
 rw [← hEE] at hE hsm
 generalize hsP : smallP (scP m) = S at *
 refine go TD_ok 200 rfl ?_
 refine row TD_ok rfl rfl rfl rfl rfl rfl (cs := [I 0]) rfl ?_
 intro g5 w hg5 hs5 qk B5 hl5
 have lu := Bu.lt
 have B1 := B1.no qk
 have B2 := B2.no qk
 have Bu := Bu.no qk
 have q := q.trans qk
 have own5 : w.ownsRow w0.heap.size 3 1 (.slice (some ⟨g5, 0, none⟩) 1 1) 1 (iL (iN [0])) := own_base (B5.own hl5 (by decide)) (by have := q.size; omega)
 refine go TD_ok 200 rfl ?_
 refine nw rfl rfl (z := .agg #[.slice none 0 0, .slice none 0 0]) (by kernel_rfl) (cs := [.slice none 0 0, .slice none 0 0]) rfl ?_
 intro g6 w hg6 hs6 qk B6
 have own5 := own_no own5 qk
 have B1 := B1.no qk
 have B2 := B2.no qk
 have Bu := Bu.no qk
 have q := q.trans qk
 have u1 : w0.heap.size ≤ g1 := by omega
 have u2 : g1 < g2 := by omega
 have u3 : g2 < g6 := by omega
 have u4 : gu < g6 := by omega
 rw [← hn]
 clear hg1 hs1 hg2 hs2 l1 l2 lu hg5 hs5 B5 hl5 hg6 hs6
 refine go TD_ok 200 rfl ?_
 refine loop [1, 2, 3, 4, 5, 6, 7] (fun x : RsX => [.pointer (some ⟨g1, 0, none⟩), .pointer (some ⟨g2, 0, none⟩), .int .i64 (n : Int), .slice (some ⟨gu, 0, none⟩) (n * n) (n * n), .slice x.A x.l.length x.c, .pointer (some ⟨g6, 0, none⟩), .int .i64 (x.i : Int)])
  (fun x w' => x.i ≤ x.l.length ∧ Among n x.l ∧ x.N.length = x.i ∧ x.O.length = x.i ∧ rsR (scP m) E (n - x.i) x.i x.l x.N x.O = S ∧ Chg No w0 w' ∧ Bk w' g1 77 (scL m) ∧ Bk w' g2 77 [.slice none 0 0, .slice none 0 0] ∧ Bk w' gu 4 (bL L) ∧ Bk w' g6 77 [.slice x.AN x.i x.cN, .slice x.AO x.i x.cO] ∧
   w'.ownsRow w0.heap.size 3 1 (.slice x.A x.l.length x.c) x.l.length (iL (iN x.l)) ∧ w'.ownsRow w0.heap.size 124 2 (.slice x.AN x.i x.cN) x.i (x.N.flatMap nV) ∧ w'.ownsRow w0.heap.size 125 2 (.slice x.AO x.i x.cO) x.i (x.O.flatMap bV)) (fun x => n - x.i)
  ⟨0, [0], some ⟨g5, 0, none⟩, 1, [], none, 0, [], none, 0⟩ (fun _ => rfl) rfl ⟨by simp, ⟨by simp, fun x hx => by simp at hx; omega⟩, rfl, rfl, by rw [← hsm]; show rsR _ _ _ _ _ _ _ = rsR _ _ _ _ _ _ _; rw [hns]; rfl, q, B1, B2, Bu, B6, own5, own_nil, own_nil⟩ ?_
 clear B1 B2 Bu B6 own5 q hsm qk q1
 rintro ⟨i, l, A5, c5, N, AN, cN, O, AO, cO⟩ τ w ⟨hil, ham, hN, hO, hrs, q, B1, B2, Bu, B6, own5, on, oo⟩
 simp only at hil ham hN hO hrs B6 own5 on oo
 dsimp only
 have hln := ham.len
 refine go TD_ok 200 rfl ?_
 refine condD rfl (fun hlt => ?_) (fun hlt => ?_)
 ·have hlti : i < l.length := by have : (i : Int) < (l.length : Int) := hlt; omega
  obtain ⟨x, hx⟩ := getA_of hlti
  have hxn := ham.lt x (List.mem_of_getElem? hx)
  have hxm : x < m.N.l.length := by omega
  obtain ⟨k1n, k2n⟩ := Go.Camp.nxA_lt h x
  rw [hns] at k1n k2n
  have e0 : n - i = (n - (i + 1)) + 1 := by omega
  rw [e0] at hrs
  unfold rsR at hrs
  rw [hx] at hrs
  simp only at hrs
  have bn : ∀ k, (Value.slice AN i cN).ownBlock = some k → k < w.heap.size := fun k e => lt_own on e
  refine go TD_ok 200 rfl ?_
  refine nw rfl rfl (z := .agg #[I 0, I 0]) (by kernel_rfl) (cs := [I 0, I 0]) rfl ?_
  intro g8 w2 hg8 hs8 qk B8
  have l6 := B6.lt
  have B1 := B1.no qk
  have B2 := B2.no qk
  have Bu := Bu.no qk
  have B6 := B6.no qk
  have q := q.trans qk
  have own5 := own_no own5 qk
  have on := own_no on qk
  have oo := own_no oo qk
  have hlc2 : lcE (scP m) E l x 2 = addE E (addE E l (nxA (scP m) x).1) (nxA (scP m) x).2 := rfl
  have hvc2 : vcE (scP m) E l x 2 = nV ((ixE E l (nxA (scP m) x).1 : Nat), (ixE E (addE E l (nxA (scP m) x).1) (nxA (scP m) x).2 : Nat)) := rfl
  have hlcA : ∀ c, Among n (lcE (scP m) E l x c) := fun c => by
   have a1 := amE_add hE (hns ▸ ham) (hns ▸ k1n)
   have a2 := amE_add hE a1 (hns ▸ k2n)
   rw [hns] at a1 a2
   unfold lcE
   split
   ·exact ham
   ·split
    ·exact a1
    ·exact a2
  have hlcg : ∀ c, (lcE (scP m) E l x c)[i]? = some x := fun c => by
   have pp : ∀ r, l <+: r → r[i]? = some x := fun r hr => by
    obtain ⟨t, rfl⟩ := hr
    rw [List.getElem?_append_left hlti]; exact hx
   unfold lcE
   split
   ·exact hx
   ·split
    ·exact pp _ Go.Camp.addE_pre
    ·exact pp _ (Go.Camp.addE_pre.trans Go.Camp.addE_pre)
  have q8 : g6 < g8 := by omega
  have u8 : w0.heap.size ≤ g8 := by omega
  have bn : ∀ k, (Value.slice AN i cN).ownBlock = some k → k < g8 := fun k e => by have := bn k e; omega
  rw [← hlc2] at hrs
  obtain ⟨nx1, _, _⟩ := nx_at h hxm
  have al1 := al_at h hxm
  clear hg8 hs8 l6
  refine go TD_ok 200 rfl ?_
  refine loop [1, 2, 3, 4, 5, 6, 7, 8, 9] (fun y : Nat × Option Addr × Nat => [.pointer (some ⟨g1, 0, none⟩), .pointer (some ⟨g2, 0, none⟩), .int .i64 (n : Int), .slice (some ⟨gu, 0, none⟩) (n * n) (n * n), .slice y.2.1 (lcE (scP m) E l x y.1).length y.2.2, .pointer (some ⟨g6, 0, none⟩), .int .i64 (i : Int), .pointer (some ⟨g8, 0, none⟩), .int .i64 (y.1 : Int)])
   (fun y w' => y.1 ≤ 2 ∧ Chg No w0 w' ∧ Bk w' g1 77 (scL m) ∧ Bk w' g2 77 [.slice none 0 0, .slice none 0 0] ∧ Bk w' gu 4 (bL L) ∧ Bk w' g6 77 [.slice AN i cN, .slice AO i cO] ∧ Bk w' g8 124 (vcE (scP m) E l x y.1) ∧
    w'.ownsRow w0.heap.size 3 1 (.slice y.2.1 (lcE (scP m) E l x y.1).length y.2.2) (lcE (scP m) E l x y.1).length (iL (iN (lcE (scP m) E l x y.1))) ∧ w'.ownsRow w0.heap.size 124 2 (.slice AN i cN) i (N.flatMap nV) ∧ w'.ownsRow w0.heap.size 125 2 (.slice AO i cO) i (O.flatMap bV)) (fun y => 2 - y.1)
   (0, A5, c5) (fun _ => rfl) rfl ⟨by simp, q, B1, B2, Bu, B6, B8, own5, on, oo⟩ ?_
  clear B1 B2 Bu B6 own5 q on oo B8 qk
  rintro ⟨c, A6, c6⟩ τ w ⟨hc, q, B1, B2, Bu, B6, B8, own5, on, oo⟩
  simp only at hc B8 own5
  dsimp only
  refine go TD_ok 200 rfl ?_
  refine condD rfl (fun hlt => ?_) (fun hlt => ?_)
  ·have hltc : c < 2 := by have : (c : Int) < 2 := hlt; omega
   have ec : w64 ((c : Int) + 1) = ((c + 1 : Nat) : Int) := w64_id (by omega) (by omega)
   obtain ⟨hst1, hst2⟩ := lcE_step (scP m) E l x hltc
   have ham2 := hlcA c
   have hli := hlcg c
   obtain ⟨p1, p3⟩ := part_ix2 (scP m) x hltc
   have hyn := Go.Camp.nxC_lt h x (decide (c = 1))
   rw [hns] at hyn
   have hvl : (vcE (scP m) E l x c).length = 2 := rfl
   have hB8 : Bk w g8 124 (vcE (scP m) E l x c) := B8
   generalize nxC (scP m) x (decide (c = 1)) = y at *
   generalize lcE (scP m) E l x c = l2 at *
   generalize vcE (scP m) E l x c = vc at *
   have hl2n := ham2.len
   have hil2 := (List.getElem?_eq_some_iff.1 hli).1
   obtain ⟨b0, o0, hA0, hb0, hc0⟩ := elN (own_sl own5) hli
   obtain ⟨b3, o3, hA3, hb3, hc3⟩ := Sl.el (H.no q).n nV_len nx1
   have hBn := (H.no q).n.2.1
   refine go TD_ok 200 rfl ?_
   refine draw mixed (fun w' => Chg No w w') ([0,1,2,3,4,5,6,7,8,9,10].map (fun i => (i, true))) rfl (by kernel_rfl) (Chg.drew _) ?_
   refine goH TD_ok 200 rfl ?_
   repeat (first | (refine quietH rfl (fun w' hS => r_load TD_ok rfl rfl rfl (Bk.get (B1.no hS) rfl)) ?_; refine goH TD_ok 200 rfl ?_))
   rw [hA0]
   refine quietH rfl (fun w' hS => r_idx TD_ok rfl rfl rfl rfl i rfl hil2) ?_
   refine goH TD_ok 200 rfl ?_
   refine quietH rfl (fun w' hS => r_load TD_ok rfl rfl rfl ((hS.cell (a := ⟨b0, o0 + i * 1, none⟩) (by show b0 < _; omega) (fun h => h)).trans hc0)) ?_
   rw [← hA0]
   refine goH TD_ok 200 rfl ?_
   rw [hA3]
   refine quietH rfl (fun w' hS => r_idx TD_ok rfl rfl rfl rfl x rfl hxm) ?_
   refine goH TD_ok 200 rfl ?_
   refine quietH rfl (fun w' hS => r_idxA TD_ok rfl rfl rfl rfl c rfl hltc) ?_
   refine goH TD_ok 200 rfl ?_
   refine quietH rfl (fun w' hS => r_load TD_ok rfl rfl rfl ((hc3.keep (by omega) hS (fun h => h)) (c * 1) _ p3)) ?_
   rw [← hA3]
   refine goH TD_ok 200 rfl ?_
   refine endH ?_
   have qd := Chg.drew w
   have B1 := B1.no qd
   have B2 := B2.no qd
   have Bu := Bu.no qd
   have B6 := B6.no qd
   have B8 := B8.no qd
   have own5 := own_no own5 qd
   have on := own_no on qd
   have oo := own_no oo qd
   have q := q.trans qd
   clear hc0 hA0 hc3 hA3 hb3 hb0
   generalize w.drew = w at *
   refine go TD_ok 200 rfl ?_
   refine loop [1, 2, 3, 4, 5, 6, 7, 8, 9, 10, 11] (fun k : Nat => [.pointer (some ⟨g1, 0, none⟩), .pointer (some ⟨g2, 0, none⟩), .int .i64 (n : Int), .slice (some ⟨gu, 0, none⟩) (n * n) (n * n), .slice A6 l2.length c6, .pointer (some ⟨g6, 0, none⟩), .int .i64 (i : Int), .pointer (some ⟨g8, 0, none⟩), .int .i64 (c : Int), I (y : Int), .int .i64 (k : Int)])
    (fun k w' => w' = w ∧ k ≤ l2.length ∧ ∀ j z, j < k → l2[j]? = some z → E z y = false) (fun k => l2.length - k) 0 (fun _ => rfl) rfl ⟨rfl, Nat.zero_le _, fun j z h => absurd h (Nat.not_lt_zero _)⟩ ?_
   rintro k τ w2 ⟨rfl, hk, hkno⟩
   refine go TD_ok 200 rfl ?_
   by_cases hkl : k < l2.length
   ·obtain ⟨z, hz⟩ := getA_of hkl
    have hzn := ham2.lt z (List.mem_of_getElem? hz)
    obtain ⟨b0, o0, hA0, hb0, hc0⟩ := elN (own_sl own5) hz
    have ezy := encI n8 hzn hyn
    have hzy := pr_lt (n := n) hzn hyn
    rw [decide_eq_true (show (k : Int) < (l2.length : Int) by omega)]
    refine go TD_ok 200 rfl ?_
    repeat (first | (refine gT rfl rfl rfl rfl ?_; refine go TD_ok 200 rfl ?_) | (refine gF rfl rfl rfl rfl ?_; refine go TD_ok 200 rfl ?_) | (refine condT rfl rfl ?_; refine go TD_ok 200 rfl ?_) | (refine condF rfl rfl ?_; refine go TD_ok 200 rfl ?_))
    rw [hA0]
    refine idx TD_ok rfl rfl rfl rfl rfl k rfl hkl ?_
    refine go TD_ok 200 rfl ?_
    refine ld TD_ok rfl rfl rfl rfl (hc0) ?_
    refine go TD_ok 200 rfl ?_
    rw [← hA0, ezy]
    refine idx TD_ok rfl rfl rfl rfl rfl (z * n + y) rfl hzy ?_
    refine go TD_ok 200 rfl ?_
    refine ld TD_ok rfl rfl rfl rfl (Bu.getE (i := 0 + (z * n + y) * 1) (by rw [show 0 + (z * n + y) * 1 = z * n + y by omega]; exact bL_get (by omega))) ?_
    cases hb : L.getD (z * n + y) true with
    | true =>
     have hEz := hEv z y true hb
     refine go TD_ok 200 rfl ?_
     refine condT rfl rfl ?_
     refine go TD_ok 200 rfl ?_
     rw [w64_id (x := (k : Int) + 1) (by omega) (by omega)]
     refine round ⟨k + 1, rfl, ⟨rfl, by omega, fun j u hj hu => ?_⟩, by omega⟩
     rcases Nat.lt_or_ge j k with h' | h'
     ·exact hkno j u h' hu
     ·obtain rfl : j = k := by omega
      rw [hz] at hu; cases hu; exact hEz
    | false =>
     have hEz := hEv z y false hb
     refine go TD_ok 200 rfl ?_
     refine condF rfl rfl ?_
     have hcov : Cov E l2 y := ⟨_, List.mem_of_getElem? hz, hEz⟩
     have hixk : ixE E l2 y = k := ixE_of hkno (fun u hu => by rw [hz] at hu; cases hu; exact hEz) hk
     have hadd := addE_pos hcov
     have hB8' := B8
     have e : ((k : Int) == (l2.length : Int)) = false := by simp; omega
     refine go TD_ok 200 rfl ?_
     rw [e]
     refine go TD_ok 200 rfl ?_
     refine condF rfl rfl ?_
     refine go TD_ok 200 rfl ?_
     refine idxA TD_ok rfl rfl rfl rfl rfl c rfl hltc ?_
     refine go TD_ok 200 rfl ?_
     refine st TD_ok rfl rfl rfl rfl (v := I (k : Int)) rfl rfl B8 (by rw [lenL_eq, hvl]; exact Nat.blt_eq.mpr (by omega)) ?_
     intro w5 qk B8 hz8
     have B8 : Bk w5 g8 124 (vcE (scP m) E l x (c + 1)) := by rw [hst2, hixk]; exact B8
     have B1 := B1.keep qk (by omega)
     have B2 := B2.keep qk (by omega)
     have Bu := Bu.keep qk (by omega)
     have B6 := B6.keep qk (by omega)
     have on := own_keep on qk (fun k e hh => by have := bn k e; omega)
     have oo := own_keep oo qk (fun k e hh => by subst hh; exact own_ne oo hB8' (by decide) e)
     have own5 := own_keep own5 qk (fun k e hh => by subst hh; exact own_ne own5 hB8' (by decide) e)
     have q := q.step qk (fun k hk e => by omega)
     refine go TD_ok 200 rfl ?_
     rw [ec]
     refine round ⟨(c + 1, A6, c6), ?_, ⟨by simp only; omega, q, B1, B2, Bu, B6, B8, ?_, on, oo⟩, by simp only; omega⟩
     ·simp only
      rw [hst1, hadd]
      rfl
     ·simp only
      rw [hst1, hadd]
      exact own5
   ·obtain rfl : k = l2.length := by omega
    rw [decide_eq_false (show ¬ (l2.length : Int) < (l2.length : Int) by omega)]
    refine go TD_ok 200 rfl ?_
    repeat (first | (refine gT rfl rfl rfl rfl ?_; refine go TD_ok 200 rfl ?_) | (refine gF rfl rfl rfl rfl ?_; refine go TD_ok 200 rfl ?_) | (refine condT rfl rfl ?_; refine go TD_ok 200 rfl ?_) | (refine condF rfl rfl ?_; refine go TD_ok 200 rfl ?_))
    have hncov : ¬ Cov E l2 y := fun ⟨z, hz, hq⟩ => by
     obtain ⟨j, hj⟩ := List.getElem?_of_mem hz
     rw [hkno j z (List.getElem?_eq_some_iff.1 hj).1 hj] at hq
     cases hq
    have hixk : ixE E l2 y = l2.length := ixE_of hkno (fun u hu => by rw [List.getElem?_eq_none (Nat.le_refl _)] at hu; cases hu) (Nat.le_refl _)
    have hadd := addE_neg hncov
    have hB8' := B8
    have e : ((l2.length : Int) == (l2.length : Int)) = true := by simp
    rw [e]
    refine go TD_ok 200 rfl ?_
    refine condT rfl rfl ?_
    refine go TD_ok 200 rfl ?_
    refine app1 TD_ok rfl rfl rfl rfl rfl rfl (cs := [I (y : Int)]) rfl rfl rfl rfl (fun _ => rfl) (fun _ => rfl) (fun _ => rfl) own5 (by unfold maxLen; omega) (by show (l2.length + 1) * 8 ≤ _; omega) q.size ?_
    intro gx A7 c7 w4 own7 qk hs7 hown
    have B1 := B1.keep qk (fun e => own_ne own5 B1 (by decide) e)
    have B2 := B2.keep qk (fun e => own_ne own5 B2 (by decide) e)
    have Bu := Bu.keep qk (fun e => own_ne own5 Bu (by decide) e)
    have B6 := B6.keep qk (fun e => own_ne own5 B6 (by decide) e)
    have B8 := B8.keep qk (fun e => own_ne own5 B8 (by decide) e)
    have on := own_keep on qk (fun k e hh => own_apart own5 on (by decide) k hh e)
    have oo := own_keep oo qk (fun k e hh => own_apart own5 oo (by decide) k hh e)
    have q := q.step qk (fun k hk e => by have := own_ge own5 e; omega)
    have own5 := own7
    have hB8' := B8
    have iNs : iL (iN (l2 ++ [y])) = iL (iN l2) ++ [I (y : Int)] := iN_snoc _ _
    refine go TD_ok 200 rfl ?_
    obtain ⟨k, hk⟩ : ∃ k, k = l2.length := ⟨_, rfl⟩
    rw [← hk] at hixk
    rw [show (l2.length : Int) = (k : Int) by omega]
    refine idxA TD_ok rfl rfl rfl rfl rfl c rfl hltc ?_
    refine go TD_ok 200 rfl ?_
    refine st TD_ok rfl rfl rfl rfl (v := I (k : Int)) rfl rfl B8 (by rw [lenL_eq, hvl]; exact Nat.blt_eq.mpr (by omega)) ?_
    intro w5 qk B8 hz8
    have B8 : Bk w5 g8 124 (vcE (scP m) E l x (c + 1)) := by rw [hst2, hixk]; exact B8
    have B1 := B1.keep qk (by omega)
    have B2 := B2.keep qk (by omega)
    have Bu := Bu.keep qk (by omega)
    have B6 := B6.keep qk (by omega)
    have on := own_keep on qk (fun k e hh => by have := bn k e; omega)
    have oo := own_keep oo qk (fun k e hh => by subst hh; exact own_ne oo hB8' (by decide) e)
    have own5 := own_keep own5 qk (fun k e hh => by subst hh; exact own_ne own5 hB8' (by decide) e)
    have q := q.step qk (fun k hk e => by omega)
    refine go TD_ok 200 rfl ?_
    rw [ec]
    refine round ⟨(c + 1, A7, c7), ?_, ⟨by simp only; omega, q, B1, B2, Bu, B6, B8, ?_, on, oo⟩, by simp only; omega⟩
    ·simp only
     rw [hst1, hadd]
     (rw [List.length_append]; rfl)
    ·simp only
     rw [hst1, hadd]
     (rw [List.length_append, iNs]; exact own5)
  ·obtain rfl : c = 2 := by have : ¬ (c : Int) < 2 := hlt; omega
   have hli := hlcg 2
   have ham2 := hlcA 2
   obtain ⟨p, hp⟩ : ∃ p : Int × Int, p = (((ixE E l (nxA (scP m) x).1 : Nat) : Int), ((ixE E (addE E l (nxA (scP m) x).1) (nxA (scP m) x).2 : Nat) : Int)) := ⟨_, rfl⟩
   rw [← hp] at hrs hvc2
   rw [hvc2] at B8
   generalize lcE (scP m) E l x 2 = l2 at *
   have hl2n := ham2.len
   have hil2 := (List.getElem?_eq_some_iff.1 hli).1
   refine go TD_ok 200 rfl ?_
   repeat ((first | refine ldA TD_ok rfl rfl rfl rfl rfl (Bk.all B6) ?_ | refine ld TD_ok rfl rfl rfl rfl (Bk.get B6 rfl) ?_ | refine gT rfl rfl rfl rfl ?_ | refine gF rfl rfl rfl rfl ?_ | refine condT rfl rfl ?_ | refine condF rfl rfl ?_); refine go TD_ok 200 rfl ?_)
   refine ldArr TD_ok rfl rfl rfl rfl rfl B8.all ?_
   refine go TD_ok 200 rfl ?_
   refine app1 TD_ok rfl rfl rfl rfl rfl rfl (cs := nV p) rfl rfl rfl rfl (fun _ => rfl) (fun _ => rfl) (fun _ => rfl) on (by show i + 1 ≤ maxLen; unfold maxLen; omega) (by show (i + 1) * 16 ≤ _; omega) q.size ?_
   intro gx A7 c7 w4 on7 qk hs7 hown
   have B1 := B1.keep qk (fun e => own_ne on B1 (by decide) e)
   have B2 := B2.keep qk (fun e => own_ne on B2 (by decide) e)
   have Bu := Bu.keep qk (fun e => own_ne on Bu (by decide) e)
   have B6 := B6.keep qk (fun e => own_ne on B6 (by decide) e)
   have own5 := own_keep own5 qk (fun k e hh => own_apart on own5 (by decide) k hh e)
   have oo := own_keep oo qk (fun k e hh => own_apart on oo (by decide) k hh e)
   have q := q.step qk (fun k hk e => by have := own_ge on e; omega)
   have on := on7
   have B6o := B6
   refine go TD_ok 200 rfl ?_
   refine st TD_ok rfl rfl rfl rfl (v := .slice A7 (i + 1) c7) rfl rfl B6 rfl ?_
   intro w5 qk B6' hz6
   have B6 : Bk w5 g6 77 [.slice A7 (i + 1) c7, .slice AO i cO] := B6'
   have B1 := B1.keep qk (by omega)
   have B2 := B2.keep qk (by omega)
   have Bu := Bu.keep qk (by omega)
   have own5 := own_keep own5 qk (fun k e hh => by subst hh; exact own_ne own5 B6o (by decide) e)
   have on := own_keep on qk (fun k e hh => by subst hh; exact own_ne on B6o (by decide) e)
   have oo := own_keep oo qk (fun k e hh => by subst hh; exact own_ne oo B6o (by decide) e)
   have q := q.step qk (fun k hk e => by omega)
   clear B6' B6o
   obtain ⟨b0, o0, hA0, hb0, hc0⟩ := elN (own_sl own5) hli
   obtain ⟨b1, o1, hA1, hb1, hc1⟩ := Sl.el (H.no q).o bV_len al1
   have hBo := (H.no q).o.2.1
   have ol1 : m.O.l.length = m.N.l.length := h.al
   have hge : ∀ k, (Value.slice AO i cO).ownBlock = some k → w0.heap.size ≤ k := fun k e => own_ge oo e
   have h05 : ∀ k, (Value.slice AO i cO).ownBlock = some k → ¬ b0 = k := fun k e hh => by
    subst hh
    have e5 : (Value.slice A6 l2.length c6).ownBlock = some b0 := by rw [hA0]; rfl
    exact own_apart own5 oo (by decide) b0 e5 e
   have hB6 := B6
   have hB1 := B1
   have hBb := (H.n.2.1)
   have hH0 := H.o.2.1
   refine go TD_ok 200 rfl ?_
   refine draw mixed (fun w' => Chg (fun k => (Value.slice AO i cO).ownBlock = some k) w5 w') ([0,1,2,3,4,5,6,7,8,9].map (fun i => (i, true)) ++ [(10, false)] ++ [(11, false)] ++ [12].map (fun i => (i, true)) ++ [(13, false)]) rfl (by kernel_rfl) ((Chg.drew _).mono fun _ _ h => h.elim) ?_
   have qd : Chg (fun k => (Value.slice AO i cO).ownBlock = some k) w5 w5.drew := (Chg.drew w5).mono fun _ _ h => h.elim
   refine goH TD_ok 200 rfl ?_
   repeat (first | (refine quietH rfl (fun w' hS => r_load TD_ok rfl rfl rfl (Bk.get (B6.keep hS (fun e => own_ne oo B6 (by decide) e)) rfl)) ?_; refine goH TD_ok 200 rfl ?_) | (refine quietH rfl (fun w' hS => r_load TD_ok rfl rfl rfl (Bk.get (B1.keep hS (fun e => own_ne oo B1 (by decide) e)) rfl)) ?_; refine goH TD_ok 200 rfl ?_))
   rw [hA0]
   refine quietH rfl (fun w' hS => r_idx TD_ok rfl rfl rfl rfl i rfl hil2) ?_
   refine goH TD_ok 200 rfl ?_
   refine quietH rfl (fun w' hS => r_load TD_ok rfl rfl rfl ((hS.cell (a := ⟨b0, o0 + i * 1, none⟩) (by show b0 < _; omega) (fun e => h05 _ e rfl)).trans hc0)) ?_
   rw [← hA0]
   refine goH TD_ok 200 rfl ?_
   rw [hA1]
   refine quietH rfl (fun w' hS => r_idx TD_ok rfl rfl rfl rfl x rfl (by omega)) ?_
   refine goH TD_ok 200 rfl ?_
   refine quietH rfl (fun w' hS => r_loadArr TD_ok rfl rfl rfl rfl (hc1.keep (by omega) hS (fun e => by have := hge _ e; omega))) ?_
   rw [← hA1]
   refine goH TD_ok 200 rfl ?_
   have oo5 := oo
   have oo := own_no oo (Chg.drew w5)
   refine rowE TD_ok rfl rfl rfl rfl rfl rfl (cs := bV (alA (scP m) x)) rfl ?_
   intro gr w6 hgr hsr qk Br
   have oo := own_no oo qk
   have qd := qd.no qk
   refine ⟨qd, ?_⟩
   refine goH TD_ok 200 rfl ?_
   have hs0 := qd.size
   refine appSE TD_ok rfl rfl rfl rfl rfl oo (Br.sl (sz := 2) (m := 1) rfl) rfl (by show i + 1 ≤ maxLen; unfold maxLen; omega) (by show (i + 1) * 2 ≤ _; omega) (by have := q.size; omega) ?_
   intro A8 c8 w7 oo8 qk8 hown8
   have qd := qd.trans qk8
   refine ⟨qd, ?_⟩
   refine goH TD_ok 200 rfl ?_
   have B6 := B6.keep qd (fun e => own_ne oo5 hB6 (by decide) e)
   have B6o := B6
   refine storeL TD_ok rfl rfl rfl rfl (v := .slice A8 (i + 1) c8) rfl rfl B6 rfl (by kernel_rfl) ?_
   intro w8 qk9 B6' hz9
   have B6 : Bk w8 g6 77 [.slice A7 (i + 1) c7, .slice A8 (i + 1) c8] := B6'
   refine endH ?_
   have B1 := (B1.keep qd (fun e => own_ne oo5 B1 (by decide) e)).keep qk9 (by omega)
   have B2 := (B2.keep qd (fun e => own_ne oo5 B2 (by decide) e)).keep qk9 (by omega)
   have Bu := (Bu.keep qd (fun e => own_ne oo5 Bu (by decide) e)).keep qk9 (by omega)
   have own5 := own_keep own5 qd (fun k e hh => own_apart oo5 own5 (by decide) k hh e)
   have on := own_keep on qd (fun k e hh => own_apart oo5 on (by decide) k hh e)
   have own5 := own_keep own5 qk9 (fun k e hh => by subst hh; exact own_ne own5 B6o (by decide) e)
   have on := own_keep on qk9 (fun k e hh => by subst hh; exact own_ne on B6o (by decide) e)
   have oo := own_keep oo8 qk9 (fun k e hh => by subst hh; exact own_ne oo8 B6o (by decide) e)
   have q := (q.step qd (fun k hk e => by have := hge _ e; omega)).step qk9 (fun k hk e => by omega)
   refine go TD_ok 200 rfl ?_
   rw [w64_id (x := (i : Int) + 1) (by omega) (by omega)]
   refine round ⟨⟨i + 1, l2, A6, c6, N ++ [p], A7, c7, O ++ [alA (scP m) x], A8, c8⟩, rfl, ⟨by simp only; omega, ham2, by simp only [List.length_append, hN]; rfl, by simp only [List.length_append, hO]; rfl, hrs, q, B1, B2, Bu, B6, own5, ?_, ?_⟩, by simp only; omega⟩
   ·simp only
    rw [List.flatMap_append, List.flatMap_singleton]
    exact on
   ·simp only
    rw [List.flatMap_append, List.flatMap_singleton]
    exact oo
 ·have hil2 : i = l.length := by have : ¬ (i : Int) < (l.length : Int) := hlt; omega
  rw [rsR_none (by omega)] at hrs
  refine go TD_ok 200 rfl ?_
  refine ldA TD_ok rfl rfl rfl rfl rfl B6.all ?_
  refine go TD_ok 200 rfl ?_
  have B2o := B2
  refine stA TD_ok rfl rfl rfl rfl (vs := [.slice AN i cN, .slice AO i cO]) rfl rfl rfl B2 rfl ?_
  intro w7 qk B2' hz7
  have B2 : Bk w7 g2 77 [.slice AN i cN, .slice AO i cO] := B2'
  have on := own_keep on qk (fun k e hh => by subst hh; exact own_ne on B2o (by decide) e)
  have oo := own_keep oo qk (fun k e hh => by subst hh; exact own_ne oo B2o (by decide) e)
  subst hrs
  refine go TD_ok 200 rfl ?_
  refine ret (retR1 Try.results45 (resA TD_ok rfl rfl rfl B2.all) ⟨q.step qk (fun k hk e => by omega), AN, cN, AO, cO, ?_, ?_, ?_⟩)
  ·rw [hN]
  ·rw [hN]; exact on
  ·rw [hN]; exact oo
end Go.Proofs.Yteenhfnamjbaiaa
