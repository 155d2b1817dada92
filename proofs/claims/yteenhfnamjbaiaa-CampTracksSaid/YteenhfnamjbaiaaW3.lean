/- The contract of the table of differences in the specification. -/
import Derived.Test.YteenhfnamjbaiaaW2
namespace Go.Proofs.Yteenhfnamjbaiaa
open Go.Ev Go.Proofs
open Go.Camp (Sc ScOk Sc8 nxA alA nxC alC runS desS Snd ClU CldC PI tE EqT enc_lt pr_lt eqT_of snd_rep)
attribute [local irreducible] At AtH
theorem part_ix2 (s : Sc) (x : Nat) {c : Nat} (h : c < 2) : (bV (alA s x))[c * 1]? = some (.bool (alC s x (decide (c = 1)))) ∧ (nV (((nxA s x).1 : Int), ((nxA s x).2 : Int)))[c * 1]? = some (I (nxC s x (decide (c = 1)) : Int)) := by
 obtain rfl | rfl : c = 0 ∨ c = 1 := by omega
 ·exact ⟨rfl, rfl⟩
 ·exact ⟨rfl, rfl⟩
theorem bL_get {L : List Bool} {i : Nat} (h : i < L.length) : (bL L)[i]? = some (.bool (L.getD i true)) := by
 unfold bL
 rw [List.getElem?_map, List.getD_eq_getElem?_getD, List.getElem?_eq_getElem h]
 rfl
theorem bL_set (L : List Bool) (i : Nat) (b : Bool) : (bL L).set i (.bool b) = bL (L.set i b) := by simp [bL, List.map_set]
theorem encI {n x y : Nat} (hn : n ≤ 128) (hx : x < n) (hy : y < n) : w64 (w64 ((x : Int) * (n : Int)) + (y : Int)) = ((x * n + y : Nat) : Int) := by
 have h := pr_lt (n := n) hx hy
 have h2 : n * n ≤ 128 * 128 := Nat.mul_le_mul hn hn
 rw [← Int.natCast_mul, w64_id (x := ((x * n : Nat) : Int)) (by omega) (by omega), w64_id (by omega) (by omega)]
 omega
set_option maxRecDepth 20000 in
set_option maxHeartbeats 16000000 in
theorem rdiffer_any (m : Scm) (B : Nat) (w0 : World) (H : ScM w0 B m) (h8 : Sc8 (scP m)) : Ret Try.prog 93 [.agg (scL m).toArray] w0 fun v w' => Chg No w0 w' ∧
  ∃ (g : Nat) (L : List Bool), v = .slice (some ⟨g, 0, none⟩) (m.N.l.length * m.N.l.length) (m.N.l.length * m.N.l.length) ∧ w0.heap.size ≤ g ∧ Bk w' g 4 (bL L) ∧ L.length = m.N.l.length * m.N.l.length ∧ EqT (scP m) (tE m.N.l.length L) := by
 have h := h8.1
 have n1 : 1 ≤ m.N.l.length := h.n1
 have n8 : m.N.l.length ≤ 128 := h8.2
 obtain ⟨n, hn⟩ : ∃ n, n = m.N.l.length := ⟨_, rfl⟩
 have hns : (scP m).nx.length = n := hn.symm
 have hnn : n * n ≤ 128 * 128 := Nat.mul_le_mul (by omega) (by omega)
 refine enter Try.func93 rfl Try.ntmps93 rfl ?_
 refine go TD_ok 200 rfl ?_
 refine bx rfl rfl rfl (cs := scL m) rfl ?_
 intro g1 u1 hg1 hs1 q1 B1
 have q := q1
 refine go TD_ok 200 rfl ?_
 repeat ((first | refine ldA TD_ok rfl rfl rfl rfl rfl (Bk.all B1) ?_ | refine ld TD_ok rfl rfl rfl rfl (Bk.get B1 rfl) ?_ | refine gT rfl rfl rfl rfl ?_ | refine gF rfl rfl rfl rfl ?_ | refine condT rfl rfl ?_ | refine condF rfl rfl ?_); refine go TD_ok 200 rfl ?_)
 rw [← hn]
 rw [← hn] at n1 n8
 refine go TD_ok 200 rfl ?_
 refine mkB TD_ok rfl rfl rfl rfl rfl (n * n) (by rw [← Int.natCast_mul]; exact w64_id (by omega) (by omega)) (z := .bool false) (by kernel_rfl) (v := .bool false) rfl (by decide) (by unfold maxLen; omega) (by omega) ?_
 intro gu w hgu hsu qk Bu
 have l1 := B1.lt
 have B1 := B1.no qk
 have q := q.trans qk
 have hrep : List.replicate (n * n * 1) (Value.bool false) = bL (List.replicate ((scP m).nx.length * (scP m).nx.length) false) := by rw [hns, Nat.mul_one]; simp [bL]
 rw [hrep] at Bu
 have u1 : w0.heap.size ≤ g1 := by omega
 have u2 : g1 < gu := by omega
 clear hg1 hs1 hgu hsu l1
 refine go TD_ok 200 rfl ?_
 refine loop [1, 3, 4, 5] (fun x : List Bool × Bool => [.pointer (some ⟨g1, 0, none⟩), .int .i64 (n : Int), .slice (some ⟨gu, 0, none⟩) (n * n) (n * n), .bool x.2])
  (fun x w' => Chg No w0 w' ∧ Bk w' g1 77 (scL m) ∧ Bk w' gu 4 (bL x.1) ∧ Snd (scP m) x.1 ∧ (x.2 = false → ClU (scP m) x.1 n 0)) (fun x => 2 * (n * n - x.1.count true) + (if x.2 then 1 else 0)) (List.replicate ((scP m).nx.length * (scP m).nx.length) false, true) (fun _ => rfl) rfl ⟨q, B1, Bu, snd_rep, fun e => by cases e⟩ ?_
 clear Bu B1 q hrep qk q1
 rintro ⟨L0, ch⟩ τ w ⟨q, B1, Bu, hsn, hcl⟩
 simp only at Bu hsn hcl
 dsimp only
 cases ch with
 | false =>
  have hE := eqT_of h hsn (by rw [hns]; exact hcl rfl)
  rw [hns] at hE
  refine go TD_ok 200 rfl ?_
  refine condF rfl rfl ?_
  refine go TD_ok 200 rfl ?_
  refine ret (ret1 (v := .slice _ _ _) Try.results93 rfl ⟨q, gu, L0, rfl, by omega, Bu, by rw [hsn.len, hns], hE⟩)
 | true =>
 clear hcl
 have hP := PI.start (s := scP m) hsn
 have hc0 : L0.count true ≤ n * n := by
  have := List.count_le_length (a := true) (l := L0)
  have := hsn.len
  rw [hns] at this
  omega
 refine go TD_ok 200 rfl ?_
 refine condT rfl rfl ?_
 refine go TD_ok 200 rfl ?_
 refine loop [1, 3, 4, 5, 6] (fun x : Nat × List Bool × Bool => [.pointer (some ⟨g1, 0, none⟩), .int .i64 (n : Int), .slice (some ⟨gu, 0, none⟩) (n * n) (n * n), .bool x.2.2, .int .i64 (x.1 : Int)])
  (fun x w' => x.1 ≤ n ∧ Chg No w0 w' ∧ Bk w' g1 77 (scL m) ∧ Bk w' gu 4 (bL x.2.1) ∧ PI (scP m) L0 x.2.1 x.2.2 x.1 0) (fun x => n - x.1) (0, L0, false) (fun _ => rfl) rfl ⟨Nat.zero_le _, q, B1, Bu, hP⟩ ?_
 clear hP Bu B1 q hsn
 rintro ⟨i, L, ch⟩ τ w ⟨hi, q, B1, Bu, hP⟩
 simp only at hi Bu hP
 dsimp only
 refine go TD_ok 200 rfl ?_
 refine condD rfl (fun hlt => ?_) (fun hlt => ?_)
 ·have hlti : i < n := by have : (i : Int) < (n : Int) := hlt; omega
  refine go TD_ok 200 rfl ?_
  refine loop [1, 3, 4, 5, 6, 7] (fun x : Nat × List Bool × Bool => [.pointer (some ⟨g1, 0, none⟩), .int .i64 (n : Int), .slice (some ⟨gu, 0, none⟩) (n * n) (n * n), .bool x.2.2, .int .i64 (i : Int), .int .i64 (x.1 : Int)])
   (fun x w' => x.1 ≤ n ∧ Chg No w0 w' ∧ Bk w' g1 77 (scL m) ∧ Bk w' gu 4 (bL x.2.1) ∧ PI (scP m) L0 x.2.1 x.2.2 i x.1) (fun x => n - x.1) (0, L, ch) (fun _ => rfl) rfl ⟨Nat.zero_le _, q, B1, Bu, hP⟩ ?_
  clear hP Bu B1 q
  rintro ⟨k, L, ch⟩ τ w ⟨hk, q, B1, Bu, hP⟩
  simp only at hk Bu hP
  dsimp only
  refine go TD_ok 200 rfl ?_
  refine condD rfl (fun hlt => ?_) (fun hlt => ?_)
  ·have hltk : k < n := by have : (k : Int) < (n : Int) := hlt; omega
   have hLl := hP.snd.len
   rw [hns] at hLl
   have hik := enc_lt hlti hltk
   have eik := encI n8 hlti hltk
   have ek : w64 ((k : Int) + 1) = ((k + 1 : Nat) : Int) := w64_id (by omega) (by omega)
   obtain ⟨ix, hix⟩ : ∃ ix, ix = i * n + k := ⟨_, rfl⟩
   rw [← hix] at eik hik
   refine go TD_ok 200 rfl ?_
   rw [eik]
   refine idx TD_ok rfl rfl rfl rfl rfl ix rfl hik ?_
   refine go TD_ok 200 rfl ?_
   refine ld TD_ok rfl rfl rfl rfl (Bu.getE (i := 0 + ix * 1) (by rw [show 0 + ix * 1 = ix by omega]; exact bL_get (by omega))) ?_
   cases hmk : L.getD ix true with
   | true =>
    refine go TD_ok 200 rfl ?_
    refine condT rfl rfl ?_
    refine go TD_ok 200 rfl ?_
    rw [ek]
    exact round ⟨(k + 1, L, ch), rfl, ⟨by simp only; omega, q, B1, Bu, hP.skip (by rw [hns, ← hix]; exact hmk)⟩, by simp only; omega⟩
   | false =>
    refine go TD_ok 200 rfl ?_
    refine condF rfl rfl ?_
    refine go TD_ok 200 rfl ?_
    refine loop [1, 3, 4, 5, 6, 7, 8] (fun x : Nat × Bool => [.pointer (some ⟨g1, 0, none⟩), .int .i64 (n : Int), .slice (some ⟨gu, 0, none⟩) (n * n) (n * n), .bool (ch || x.2), .int .i64 (i : Int), .int .i64 (k : Int), .int .i64 (x.1 : Int)])
     (fun x w' => x.1 ≤ 2 ∧ Chg No w0 w' ∧ Bk w' g1 77 (scL m) ∧ Bk w' gu 4 (bL (if x.2 then L.set ix true else L)) ∧ (x.2 = false → ∀ c', c' < x.1 → CldC (scP m) L i k (decide (c' = 1))) ∧ (x.2 = true → ∃ c', ¬ CldC (scP m) L i k c')) (fun x => 2 - x.1) (0, false) (fun _ => rfl) (by simp only [Bool.or_false]; rfl) ⟨by simp, q, B1, Bu, fun _ c' hc => absurd hc (Nat.not_lt_zero _), fun e => by cases e⟩ ?_
    clear Bu B1 q
    rintro ⟨c, fd⟩ τ w ⟨hc, q, B1, Bu, hno, hyes⟩
    simp only at hc Bu hno hyes
    dsimp only
    obtain ⟨T, hT⟩ : ∃ T, T = (if fd = true then L.set ix true else L) := ⟨_, rfl⟩
    have hTl : T.length = n * n := by rw [hT]; split <;> simp [hLl]
    have hTs : T.set ix true = L.set ix true := by
     rw [hT]; split
     ·rw [List.set_set]
     ·rfl
    rw [← hT] at Bu
    refine go TD_ok 200 rfl ?_
    refine condD rfl (fun hlt => ?_) (fun hlt => ?_)
    ·have hltc : c < 2 := by have : (c : Int) < 2 := hlt; omega
     have ec : w64 ((c : Int) + 1) = ((c + 1 : Nat) : Int) := w64_id (by omega) (by omega)
     have H1 := H.no q
     have hxi : i < m.N.l.length := by omega
     have hxk : k < m.N.l.length := by omega
     have al1 := al_at h hxi
     have al2 := al_at h hxk
     obtain ⟨nx1, _, _⟩ := nx_at h hxi
     obtain ⟨nx2, _, _⟩ := nx_at h hxk
     obtain ⟨p1, p3⟩ := part_ix2 (scP m) i hltc
     obtain ⟨p2, p4⟩ := part_ix2 (scP m) k hltc
     have hni := Go.Camp.nxC_lt h i (decide (c = 1))
     have hnk := Go.Camp.nxC_lt h k (decide (c = 1))
     rw [hns] at hni hnk
     have enn := encI n8 hni hnk
     have hnl := enc_lt hni hnk
     obtain ⟨b1, o1, hA1, hb1, hc1⟩ := Sl.el H1.o bV_len al1
     obtain ⟨b2, o2, hA2, hb2, hc2⟩ := Sl.el H1.o bV_len al2
     obtain ⟨b3, o3, hA3, hb3, hc3⟩ := Sl.el H1.n nV_len nx1
     obtain ⟨b4, o4, hA4, hb4, hc4⟩ := Sl.el H1.n nV_len nx2
     have hBB := H1.o.2.1
     have hBn := H1.n.2.1
     have ol1 : m.O.l.length = m.N.l.length := h.al
     have hlB := B1.lt
     have hlU := Bu.lt
     have hcl : ∀ d, d = decide (c = 1) → (CldC (scP m) L i k d ↔ alC (scP m) i d = alC (scP m) k d ∧ L.getD (nxC (scP m) i d * n + nxC (scP m) k d) true = false) := fun d _ => by unfold CldC; rw [hns]
     have hcl := hcl _ rfl
     generalize nxC (scP m) i (decide (c = 1)) = ni at *
     generalize nxC (scP m) k (decide (c = 1)) = nk at *
     have hdec : ∀ c', c' < c + 1 → c' < c ∨ c' = c := fun c' h => by omega
     refine go TD_ok 200 rfl ?_
     refine draw mixed (fun w' => Chg No w w') ([0,1,2,3,4,5,6,7,8,9,10,11,12,13,14,15,16,17,18,19,20,21,22,23,24,25,26,27,28,29,30,31,32,33,34,35,36].map (fun i => (i, true))) rfl (by kernel_rfl) (Chg.drew _) ?_
     refine goH TD_ok 200 rfl ?_
     repeat (first | (refine quietH rfl (fun w' hS => r_load TD_ok rfl rfl rfl (Bk.get (B1.no hS) rfl)) ?_; refine goH TD_ok 200 rfl ?_))
     rw [hA1]
     refine quietH rfl (fun w' hS => r_idx TD_ok rfl rfl rfl rfl i rfl (by omega)) ?_
     refine goH TD_ok 200 rfl ?_
     refine quietH rfl (fun w' hS => r_idxA TD_ok rfl rfl rfl rfl c rfl hltc) ?_
     refine goH TD_ok 200 rfl ?_
     refine quietH rfl (fun w' hS => r_load TD_ok rfl rfl rfl ((hc1.keep (by omega) hS (fun h => h)) (c * 1) _ p1)) ?_
     rw [← hA1]
     refine goH TD_ok 200 rfl ?_
     refine goH TD_ok 200 rfl ?_
     repeat (first | (refine quietH rfl (fun w' hS => r_load TD_ok rfl rfl rfl (Bk.get (B1.no hS) rfl)) ?_; refine goH TD_ok 200 rfl ?_))
     rw [hA2]
     refine quietH rfl (fun w' hS => r_idx TD_ok rfl rfl rfl rfl k rfl (by omega)) ?_
     refine goH TD_ok 200 rfl ?_
     refine quietH rfl (fun w' hS => r_idxA TD_ok rfl rfl rfl rfl c rfl hltc) ?_
     refine goH TD_ok 200 rfl ?_
     refine quietH rfl (fun w' hS => r_load TD_ok rfl rfl rfl ((hc2.keep (by omega) hS (fun h => h)) (c * 1) _ p2)) ?_
     rw [← hA2]
     refine goH TD_ok 200 rfl ?_
     refine quietH rfl (fun w' hS => r_neqB rfl Try.underlying4 rfl rfl) ?_
     obtain ⟨ne, hne⟩ : ∃ e, e = (alC (scP m) i (decide (c = 1)) != alC (scP m) k (decide (c = 1))) := ⟨_, rfl⟩
     rw [← hne]
     have qd := Chg.drew w
     cases ne with
     | true =>
      refine goH TD_ok 200 rfl ?_
      repeat (first | (refine gTH rfl rfl rfl rfl ?_; refine goH TD_ok 200 rfl ?_) | (refine gFH rfl rfl rfl rfl ?_; refine goH TD_ok 200 rfl ?_))
      refine endH ?_
      have B1 := B1.no qd
      have Bu := Bu.no qd
      have q := q.trans qd
      generalize w.drew = w at *
      have hx : ∃ c', ¬ CldC (scP m) L i k c' := ⟨_, fun h' => by have := (hcl.1 h').1; rw [this] at hne; simp at hne⟩
      refine go TD_ok 200 rfl ?_
      refine condT rfl rfl ?_
      refine go TD_ok 200 rfl ?_
      rw [eik]
      refine idx TD_ok rfl rfl rfl rfl rfl ix rfl hik ?_
      refine go TD_ok 200 rfl ?_
      refine st TD_ok rfl rfl rfl rfl (v := .bool true) rfl rfl Bu (by rw [lenL_eq, bL_len]; exact Nat.blt_eq.mpr (by omega)) ?_
      intro w2 qk Bu hzu
      have Bu : Bk w2 gu 4 (bL (L.set ix true)) := by
       rw [← hTs, ← bL_set]
       rw [show 0 + ix * 1 = ix by omega] at Bu
       exact Bu
      have B1 := B1.keep qk (by omega)
      have q := q.step qk (fun k hk e => by omega)
      refine go TD_ok 200 rfl ?_
      rw [ec]
      exact round ⟨(c + 1, true), by simp only [Bool.or_true]; rfl, ⟨by simp only; omega, q, B1, Bu, fun e => (by cases e), fun _ => hx⟩, by simp only; omega⟩
     | false =>
      have hal : alC (scP m) i (decide (c = 1)) = alC (scP m) k (decide (c = 1)) := by simpa using hne.symm
      refine goH TD_ok 200 rfl ?_
      repeat (first | (refine gTH rfl rfl rfl rfl ?_; refine goH TD_ok 200 rfl ?_) | (refine gFH rfl rfl rfl rfl ?_; refine goH TD_ok 200 rfl ?_))
      refine goH TD_ok 200 rfl ?_
      repeat (first | (refine quietH rfl (fun w' hS => r_load TD_ok rfl rfl rfl (Bk.get (B1.no hS) rfl)) ?_; refine goH TD_ok 200 rfl ?_))
      rw [hA3]
      refine quietH rfl (fun w' hS => r_idx TD_ok rfl rfl rfl rfl i rfl (by omega)) ?_
      refine goH TD_ok 200 rfl ?_
      refine quietH rfl (fun w' hS => r_idxA TD_ok rfl rfl rfl rfl c rfl hltc) ?_
      refine goH TD_ok 200 rfl ?_
      refine quietH rfl (fun w' hS => r_load TD_ok rfl rfl rfl ((hc3.keep (by omega) hS (fun h => h)) (c * 1) _ p3)) ?_
      rw [← hA3]
      refine goH TD_ok 200 rfl ?_
      refine goH TD_ok 200 rfl ?_
      repeat (first | (refine quietH rfl (fun w' hS => r_load TD_ok rfl rfl rfl (Bk.get (B1.no hS) rfl)) ?_; refine goH TD_ok 200 rfl ?_))
      rw [hA4]
      refine quietH rfl (fun w' hS => r_idx TD_ok rfl rfl rfl rfl k rfl (by omega)) ?_
      refine goH TD_ok 200 rfl ?_
      refine quietH rfl (fun w' hS => r_idxA TD_ok rfl rfl rfl rfl c rfl hltc) ?_
      refine goH TD_ok 200 rfl ?_
      refine quietH rfl (fun w' hS => r_load TD_ok rfl rfl rfl ((hc4.keep (by omega) hS (fun h => h)) (c * 1) _ p4)) ?_
      rw [← hA4]
      refine goH TD_ok 200 rfl ?_
      rw [enn]
      refine quietH rfl (fun w' hS => r_idx TD_ok rfl rfl rfl rfl (ni * n + nk) rfl hnl) ?_
      refine goH TD_ok 200 rfl ?_
      refine quietH rfl (fun w' hS => r_load TD_ok rfl rfl rfl ((Bu.no hS).getE (i := 0 + (ni * n + nk) * 1) (by rw [show 0 + (ni * n + nk) * 1 = ni * n + nk by omega]; exact bL_get (by omega)))) ?_
      cases htv : T.getD (ni * n + nk) true with
      | true =>
       refine goH TD_ok 200 rfl ?_
       repeat (first | (refine gTH rfl rfl rfl rfl ?_; refine goH TD_ok 200 rfl ?_) | (refine gFH rfl rfl rfl rfl ?_; refine goH TD_ok 200 rfl ?_))
       refine endH ?_
       have B1 := B1.no qd
       have Bu := Bu.no qd
       have q := q.trans qd
       generalize w.drew = w at *
       have hx : ∃ c', ¬ CldC (scP m) L i k c' := by
        cases fd with
        | true => exact hyes rfl
        | false => exact ⟨_, fun h' => by have := (hcl.1 h').2; rw [hT] at htv; rw [if_neg (by simp), this] at htv; cases htv⟩
       refine go TD_ok 200 rfl ?_
       refine condT rfl rfl ?_
       refine go TD_ok 200 rfl ?_
       rw [eik]
       refine idx TD_ok rfl rfl rfl rfl rfl ix rfl hik ?_
       refine go TD_ok 200 rfl ?_
       refine st TD_ok rfl rfl rfl rfl (v := .bool true) rfl rfl Bu (by rw [lenL_eq, bL_len]; exact Nat.blt_eq.mpr (by omega)) ?_
       intro w2 qk Bu hzu
       have Bu : Bk w2 gu 4 (bL (L.set ix true)) := by
        rw [← hTs, ← bL_set]
        rw [show 0 + ix * 1 = ix by omega] at Bu
        exact Bu
       have B1 := B1.keep qk (by omega)
       have q := q.step qk (fun k hk e => by omega)
       refine go TD_ok 200 rfl ?_
       rw [ec]
       exact round ⟨(c + 1, true), by simp only [Bool.or_true]; rfl, ⟨by simp only; omega, q, B1, Bu, fun e => (by cases e), fun _ => hx⟩, by simp only; omega⟩
      | false =>
       refine goH TD_ok 200 rfl ?_
       repeat (first | (refine gTH rfl rfl rfl rfl ?_; refine goH TD_ok 200 rfl ?_) | (refine gFH rfl rfl rfl rfl ?_; refine goH TD_ok 200 rfl ?_))
       refine endH ?_
       have B1 := B1.no qd
       have Bu := Bu.no qd
       have q := q.trans qd
       generalize w.drew = w at *
       refine go TD_ok 200 rfl ?_
       refine condF rfl rfl ?_
       refine go TD_ok 200 rfl ?_
       rw [ec]
       refine round ⟨(c + 1, fd), rfl, ⟨by simp only; omega, q, B1, by simp only; rw [← hT]; exact Bu, fun e c' hc' => ?_, hyes⟩, by simp only; omega⟩
       simp only at e hc'
       rcases hdec c' hc' with h' | rfl
       ·exact hno e c' h'
       ·refine hcl.2 ⟨hal, ?_⟩
        subst e
        rw [hT, if_neg (by simp)] at htv
        exact htv
    ·obtain rfl : c = 2 := by have : ¬ (c : Int) < 2 := hlt; omega
     refine go TD_ok 200 rfl ?_
     rw [ek]
     refine round ⟨(k + 1, T, ch || fd), rfl, ⟨by simp only; omega, q, B1, Bu, ?_⟩, by simp only; omega⟩
     simp only
     cases fd with
     | false =>
      rw [hT, if_neg (by simp), Bool.or_false]
      refine hP.same fun d => ?_
      cases d
      ·exact hno rfl 0 (by omega)
      ·exact hno rfl 1 (by omega)
     | true =>
      rw [hT, if_pos rfl, Bool.or_true]
      obtain ⟨d, hd⟩ := hyes rfl
      have := hP.mark h (by rw [hns]; exact hlti) (by rw [hns]; exact hltk) (by rw [hns, ← hix]; exact hmk) hd
      rw [hns, ← hix] at this
      exact this
  ·obtain rfl : k = n := by have : ¬ (k : Int) < (n : Int) := hlt; omega
   refine go TD_ok 200 rfl ?_
   rw [w64_id (x := (i : Int) + 1) (by omega) (by omega)]
   exact round ⟨(i + 1, L, ch), rfl, ⟨by simp only; omega, q, B1, Bu, PI.row (by rw [hns]; exact hP)⟩, by simp only; omega⟩
 ·obtain rfl : i = n := by have : ¬ (i : Int) < (n : Int) := hlt; omega
  refine go TD_ok 200 rfl ?_
  refine round ⟨(L, ch), rfl, ⟨q, B1, Bu, hP.snd, fun e => (hP.no e).1 ▸ (hP.no e).2⟩, ?_⟩
  simp only
  cases ch with
  | false => rw [(hP.no rfl).1]; simp
  | true =>
   have h1 := hP.yes rfl
   have h2 := List.count_le_length (a := true) (l := L)
   have h3 := hP.snd.len
   rw [hns] at h3
   simp
   omega
end Go.Proofs.Yteenhfnamjbaiaa
