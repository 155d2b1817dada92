/- The contracts of scanning: in the program and in the specification. -/
import Derived.Test.YteenhfnamjbaiaaR2
import Derived.Test.YteenhfnamjbaiaaU3
namespace Go.Proofs.Yteenhfnamjbaiaa
open Go.Ev Go.Proofs
open Go.Camp (Sc ScOk Sc8 nxA alA nxC alC runS desS smallP smE)
attribute [local irreducible] At AtH
theorem part_ix (s : Sc) (x : Nat) (c : Bool) : ∃ p : Nat, (if c = true then (1 : Int) else 0) = (p : Int) ∧ p < 2 ∧ (bV (alA s x))[p * 1]? = some (.bool (alC s x c)) ∧ (nV (((nxA s x).1 : Int), ((nxA s x).2 : Int)))[p * 1]? = some (I (nxC s x c : Int)) := by
 cases c
 ·exact ⟨0, rfl, by decide, rfl, rfl⟩
 ·exact ⟨1, rfl, by decide, rfl, rfl⟩
theorem run_take (s : Sc) {cs : List Bool} {j : Nat} {c : Bool} (h : cs[j]? = some c) : runS s 0 (cs.take (j + 1)) = runS s 0 (cs.take j) ++ [alC s (desS s 0 (cs.take j)) c] ∧ desS s 0 (cs.take (j + 1)) = nxC s (desS s 0 (cs.take j)) c := by
 rw [List.take_add_one, h]
 exact ⟨Go.Camp.runS_snoc _ _ _ _, Go.Camp.desS_snoc _ _ _ _⟩
set_option maxRecDepth 20000 in
set_option maxHeartbeats 8000000 in
theorem Scan_any (m : Scm) (cs : List Bool) (A : Option Addr) (c B B' : Nat) (w0 : World) (H : ScM w0 B m) (S1 : Sl w0 B' 1 A cs.length (bL cs)) (hcs : cs.length ≤ 1000000) :
  Ret Try.prog 41 [.agg (scL m).toArray, .slice A cs.length c] w0 fun v w' => Chg No w0 w' ∧
   ((¬ Sc8 (scP m) ∧ v = .tuple #[.slice none 0 0, I 2]) ∨ (Sc8 (scP m) ∧ 10000 < cs.length ∧ v = .tuple #[.slice none 0 0, I 3]) ∨
    (Sc8 (scP m) ∧ cs.length ≤ 10000 ∧ ∃ A' c', v = .tuple #[.slice A' cs.length c', I 0] ∧ w'.ownsRow w0.heap.size 4 1 (.slice A' cs.length c') cs.length (bL (runS (scP m) 0 cs)))) := by
 refine enter Try.func41 rfl Try.ntmps41 rfl ?_
 refine go TD_ok 200 rfl ?_
 refine bx rfl rfl rfl (cs := scL m) rfl ?_
 intro g2 u2 hg2 hs2 q2 B2
 have q := q2
 refine go TD_ok 200 rfl ?_
 repeat ((first | refine ldA TD_ok rfl rfl rfl rfl rfl (Bk.all B2) ?_ | refine ld TD_ok rfl rfl rfl rfl (Bk.get B2 rfl) ?_ | refine gT rfl rfl rfl rfl ?_ | refine gF rfl rfl rfl rfl ?_ | refine condT rfl rfl ?_ | refine condF rfl rfl ?_); refine go TD_ok 200 rfl ?_)
 refine call rfl rfl rfl (ok _ (by decide) rfl) (scans_any m B _ (H.no q)) ?_
 rintro v w ⟨⟨b, rfl, hb⟩, qk⟩
 have B2 := B2.no qk
 have q := q.trans qk
 cases b with
 | false =>
  refine go TD_ok 200 rfl ?_
  repeat ((first | refine ldA TD_ok rfl rfl rfl rfl rfl (Bk.all B2) ?_ | refine ld TD_ok rfl rfl rfl rfl (Bk.get B2 rfl) ?_ | refine gT rfl rfl rfl rfl ?_ | refine gF rfl rfl rfl rfl ?_ | refine condT rfl rfl ?_ | refine condF rfl rfl ?_); refine go TD_ok 200 rfl ?_)
  exact ret (ret2 (v := .slice none 0 0) (x := I 2) Try.results41 rfl rfl ⟨q, .inl ⟨fun h => (by have := hb.2 h; cases this), rfl⟩⟩)
 | true =>
 have h8 := hb.1 rfl
 have h := h8.1
 have n1 : 1 ≤ m.N.l.length := h.n1
 refine go TD_ok 200 rfl ?_
 repeat ((first | refine ldA TD_ok rfl rfl rfl rfl rfl (Bk.all B2) ?_ | refine ld TD_ok rfl rfl rfl rfl (Bk.get B2 rfl) ?_ | refine gT rfl rfl rfl rfl ?_ | refine gF rfl rfl rfl rfl ?_ | refine condT rfl rfl ?_ | refine condF rfl rfl ?_); refine go TD_ok 200 rfl ?_)
 by_cases hl : 10000 < (cs.length : Int)
 ·rw [decide_eq_true hl]
  refine go TD_ok 200 rfl ?_
  repeat ((first | refine ldA TD_ok rfl rfl rfl rfl rfl (Bk.all B2) ?_ | refine ld TD_ok rfl rfl rfl rfl (Bk.get B2 rfl) ?_ | refine gT rfl rfl rfl rfl ?_ | refine gF rfl rfl rfl rfl ?_ | refine condT rfl rfl ?_ | refine condF rfl rfl ?_); refine go TD_ok 200 rfl ?_)
  exact ret (ret2 (v := .slice none 0 0) (x := I 3) Try.results41 rfl rfl ⟨q, .inr (.inl ⟨h8, by omega, rfl⟩)⟩)
 rw [decide_eq_false hl]
 have l2 := B2.lt
 have lq : w0.heap.size ≤ g2 := by omega
 clear hg2 hs2
 refine go TD_ok 200 rfl ?_
 repeat ((first | refine ldA TD_ok rfl rfl rfl rfl rfl (Bk.all B2) ?_ | refine ld TD_ok rfl rfl rfl rfl (Bk.get B2 rfl) ?_ | refine gT rfl rfl rfl rfl ?_ | refine gF rfl rfl rfl rfl ?_ | refine condT rfl rfl ?_ | refine condF rfl rfl ?_); refine go TD_ok 200 rfl ?_)
 refine loop [2, 6, 7, 16, 17, 18] (fun y : Nat × Option Addr × Nat => [.pointer (some ⟨g2, 0, none⟩), .slice y.2.1 y.1 y.2.2, I (desS (scP m) 0 (cs.take y.1) : Int), .slice A cs.length c, .int .i64 (cs.length : Int), .int .i64 (y.1 : Int)])
  (fun y w' => y.1 ≤ cs.length ∧ Chg No w0 w' ∧ Bk w' g2 77 (scL m) ∧ w'.ownsRow (g2 + 1) 4 1 (.slice y.2.1 y.1 y.2.2) y.1 (bL (runS (scP m) 0 (cs.take y.1)))) (fun y => cs.length - y.1) (0, none, 0) (fun _ => rfl) rfl ⟨Nat.zero_le _, q, B2, own_nil⟩ ?_
 clear B2 q
 rintro ⟨j, A1, c1⟩ τ w ⟨hj, q, B2, own⟩
 simp only at hj own
 dsimp only
 refine go TD_ok 200 rfl ?_
 refine condD rfl (fun hlt => ?_) (fun hlt => ?_)
 ·have hlt : j < cs.length := by have : (j : Int) < (cs.length : Int) := hlt; omega
  obtain ⟨b, hbj⟩ := getA_of hlt
  obtain ⟨hr, hd⟩ := run_take (scP m) hbj
  have hx : desS (scP m) 0 (cs.take j) < m.N.l.length := Go.Camp.desS_lt h _ 0 (by show 0 < m.N.l.length; omega)
  generalize desS (scP m) 0 (cs.take j) = x at *
  obtain ⟨p, hp1, hp2, hp3, hp4⟩ := part_ix (scP m) x b
  have al := al_at h hx
  obtain ⟨nx, _, _⟩ := nx_at h hx
  obtain ⟨b0, o0, hA0, hb0, hc0⟩ := Sl_elB (S1.no q) hbj
  have hz := (S1.no q).2.1
  have H1 := H.no q
  obtain ⟨b1, o1, hA1, hb1, hc1⟩ := Sl.el H1.o bV_len al
  obtain ⟨b3, o3, hA3, hb3, hc3⟩ := Sl.el H1.n nV_len nx
  have hBB := H1.o.2.1
  have hBn := H.n.2.1
  have ol1 : m.O.l.length = m.N.l.length := h.al
  have hl2 := B2.lt
  have eN : w64 ((j : Int) + 1) = ((j + 1 : Nat) : Int) := w64_id (by omega) (by omega)
  have hge : ∀ k, (Value.slice A1 j c1).ownBlock = some k → g2 + 1 ≤ k := fun k e => own_ge own e
  refine go TD_ok 200 rfl ?_
  rw [hA0]
  refine idx TD_ok rfl rfl rfl rfl rfl j rfl hlt ?_
  refine go TD_ok 200 rfl ?_
  refine ld TD_ok rfl rfl rfl rfl (hc0) ?_
  refine go TD_ok 200 rfl ?_
  rw [← hA0]
  refine draw mixed (fun w' => Chg (fun k => (Value.slice A1 j c1).ownBlock = some k) w w') ([0,1,2,3,4,6].map (fun i => (i, true)) ++ [(5, false)] ++ [7,8].map (fun i => (i, true)) ++ [(9, false)] ++ [(10, false)] ++ [11].map (fun i => (i, true))) rfl (by kernel_rfl) ((Chg.drew _).mono fun _ _ h => h.elim) ?_
  have qd : Chg (fun k => (Value.slice A1 j c1).ownBlock = some k) w w.drew := (Chg.drew w).mono fun _ _ h => h.elim
  refine goH TD_ok 200 rfl ?_
  repeat (first | (refine quietH rfl (fun w' hS => r_load TD_ok rfl rfl rfl (Bk.get (B2.keep hS (fun e => by have := hge _ e; omega)) rfl)) ?_; refine goH TD_ok 200 rfl ?_))
  rw [hA1]
  refine quietH rfl (fun w' hS => r_idx TD_ok rfl rfl rfl rfl x rfl (by omega)) ?_
  refine goH TD_ok 200 rfl ?_
  refine callE rfl rfl rfl (ok _ (by decide) rfl) (part_any b _) ?_
  rintro v w1 ⟨rfl, rfl⟩
  refine ⟨qd, ?_⟩
  rw [hp1]
  refine goH TD_ok 200 rfl ?_
  refine quietH rfl (fun w' hS => r_idxA TD_ok rfl rfl rfl rfl p rfl hp2) ?_
  refine goH TD_ok 200 rfl ?_
  refine quietH rfl (fun w' hS => r_load TD_ok rfl rfl rfl ((hc1.keep (by omega) hS (fun e => by have := hge _ e; omega)) (p * 1) _ hp3)) ?_
  rw [← hA1]
  refine goH TD_ok 200 rfl ?_
  have own := own_no own (Chg.drew w)
  refine rowE TD_ok rfl rfl rfl rfl rfl rfl (cs := [.bool (alC (scP m) x b)]) rfl ?_
  intro gr w2 hgr hsr2 qk Br
  have own := own_no own qk
  have qd := qd.no qk
  refine ⟨qd, ?_⟩
  refine goH TD_ok 200 rfl ?_
  have hs0 := qd.size
  refine appSE TD_ok rfl rfl rfl rfl rfl own (Br.sl (sz := 1) (m := 1) rfl) rfl (by unfold maxLen; omega) (by show (j + 1) * 1 ≤ _; omega) (by omega) ?_
  intro A6 c6 w3 own6 qk hown
  have qd := qd.trans qk
  refine ⟨qd, ?_⟩
  refine goH TD_ok 200 rfl ?_
  refine endH ?_
  have B2 := B2.keep qd (fun e => by have := hge _ e; omega)
  have hc3 := hc3.keep (by omega) qd (fun e => by have := hge _ e; omega)
  have hz3 := qd.size
  have q := q.step qd (fun k hk e => by have := hge _ e; omega)
  clear hp3 hc1 hA1 qd qk Br
  refine go TD_ok 200 rfl ?_
  refine draw mixed (fun w' => Chg No w3 w') ([0,1,2,3,5].map (fun i => (i, true)) ++ [(4, false)] ++ [6,7,8].map (fun i => (i, true))) rfl (by kernel_rfl) (Chg.drew _) ?_
  refine goH TD_ok 200 rfl ?_
  repeat (first | (refine quietH rfl (fun w' hS => r_load TD_ok rfl rfl rfl (Bk.get (B2.no hS) rfl)) ?_; refine goH TD_ok 200 rfl ?_))
  rw [hA3]
  refine quietH rfl (fun w' hS => r_idx TD_ok rfl rfl rfl rfl x rfl hx) ?_
  refine goH TD_ok 200 rfl ?_
  refine callE rfl rfl rfl (ok _ (by decide) rfl) (part_any b _) ?_
  rintro v w1 ⟨rfl, rfl⟩
  refine ⟨Chg.drew _, ?_⟩
  rw [hp1]
  refine goH TD_ok 200 rfl ?_
  refine quietH rfl (fun w' hS => r_idxA TD_ok rfl rfl rfl rfl p rfl hp2) ?_
  refine goH TD_ok 200 rfl ?_
  refine quietH rfl (fun w' hS => r_load TD_ok rfl rfl rfl ((hc3.keep (by omega) hS (fun h => h)) (p * 1) _ hp4)) ?_
  rw [← hA3]
  refine goH TD_ok 200 rfl ?_
  refine endH ?_
  have qd := Chg.drew w3
  have B2 := B2.no qd
  have own6 := own_no own6 qd
  have q := q.trans qd
  refine go TD_ok 200 rfl ?_
  rw [eN, ← hd]
  refine round ⟨(j + 1, A6, c6), rfl, ⟨by simp only; omega, q, B2, ?_⟩, by simp only; omega⟩
  show World.ownsRow _ (g2 + 1) 4 1 (.slice A6 (j + 1) c6) (j + 1) (bL (runS (scP m) 0 (cs.take (j + 1))))
  rw [hr, bL_snoc]
  exact own6
 ·obtain rfl : j = cs.length := by have : ¬ (j : Int) < (cs.length : Int) := hlt; omega
  rw [List.take_length] at own
  refine go TD_ok 200 rfl ?_
  exact ret (ret2 (v := .slice _ _ _) (x := I 0) Try.results41 rfl rfl ⟨q, .inr (.inr ⟨h8, by omega, A1, c1, rfl, own_base own (by omega)⟩)⟩)
theorem rCell_any (b : Bool) (w : World) : Ret Try.prog 54 [.bool b] w fun v w' => v = I (if b then 1 else 0) ∧ w = w' := by
 refine enter Try.func54 rfl Try.ntmps54 rfl ?_
 cases b with
 | true =>
  refine go TD_ok 200 rfl ?_
  repeat (first | (refine gT rfl rfl rfl rfl ?_; refine go TD_ok 200 rfl ?_) | (refine gF rfl rfl rfl rfl ?_; refine go TD_ok 200 rfl ?_) | (refine condT rfl rfl ?_; refine go TD_ok 200 rfl ?_) | (refine condF rfl rfl ?_; refine go TD_ok 200 rfl ?_))
  exact ret (ret1 (v := I 1) Try.results54 rfl ⟨rfl, rfl⟩)
 | false =>
  refine go TD_ok 200 rfl ?_
  repeat (first | (refine gT rfl rfl rfl rfl ?_; refine go TD_ok 200 rfl ?_) | (refine gF rfl rfl rfl rfl ?_; refine go TD_ok 200 rfl ?_) | (refine condT rfl rfl ?_; refine go TD_ok 200 rfl ?_) | (refine condF rfl rfl ?_; refine go TD_ok 200 rfl ?_))
  exact ret (ret1 (v := I 0) Try.results54 rfl ⟨rfl, rfl⟩)
set_option maxRecDepth 20000 in
set_option maxHeartbeats 8000000 in
theorem rScan_any (m : Scm) (cs : List Bool) (A : Option Addr) (c B B' : Nat) (w0 : World) (H : ScM w0 B m) (h : ScOk (scP m)) (S1 : Sl w0 B' 1 A cs.length (bL cs)) (hcs : cs.length ≤ 1000000) :
  Ret Try.prog 46 [.agg (scL m).toArray, .slice A cs.length c] w0 fun v w' => Chg No w0 w' ∧ ∃ A' c', v = .slice A' cs.length c' ∧ w'.ownsRow w0.heap.size 4 1 (.slice A' cs.length c') cs.length (bL (runS (scP m) 0 cs)) := by
 have n1 : 1 ≤ m.N.l.length := h.n1
 refine enter Try.func46 rfl Try.ntmps46 rfl ?_
 refine go TD_ok 200 rfl ?_
 refine bx rfl rfl rfl (cs := scL m) rfl ?_
 intro g2 u2 hg2 hs2 q2 B2
 have q := q2
 have l2 := B2.lt
 have lq : w0.heap.size ≤ g2 := by omega
 clear hg2 hs2
 refine go TD_ok 200 rfl ?_
 refine loop [1, 2, 5, 6, 7] (fun y : Nat × Option Addr × Nat => [.slice A cs.length c, .pointer (some ⟨g2, 0, none⟩), .slice y.2.1 y.1 y.2.2, I (desS (scP m) 0 (cs.take y.1) : Int), .int .i64 (y.1 : Int)])
  (fun y w' => y.1 ≤ cs.length ∧ Chg No w0 w' ∧ Bk w' g2 77 (scL m) ∧ w'.ownsRow (g2 + 1) 4 1 (.slice y.2.1 y.1 y.2.2) y.1 (bL (runS (scP m) 0 (cs.take y.1)))) (fun y => cs.length - y.1) (0, none, 0) (fun _ => rfl) rfl ⟨Nat.zero_le _, q, B2, own_nil⟩ ?_
 clear B2 q
 rintro ⟨j, A1, c1⟩ τ w ⟨hj, q, B2, own⟩
 simp only at hj own
 dsimp only
 refine go TD_ok 200 rfl ?_
 refine condD rfl (fun hlt => ?_) (fun hlt => ?_)
 ·have hlt : j < cs.length := by have : (j : Int) < (cs.length : Int) := hlt; omega
  obtain ⟨b, hbj⟩ := getA_of hlt
  obtain ⟨hr, hd⟩ := run_take (scP m) hbj
  have hx : desS (scP m) 0 (cs.take j) < m.N.l.length := Go.Camp.desS_lt h _ 0 (by show 0 < m.N.l.length; omega)
  generalize desS (scP m) 0 (cs.take j) = x at *
  obtain ⟨p, hp1, hp2, hp3, hp4⟩ := part_ix (scP m) x b
  have al := al_at h hx
  obtain ⟨nx, _, _⟩ := nx_at h hx
  obtain ⟨b0, o0, hA0, hb0, hc0⟩ := Sl_elB (S1.no q) hbj
  have hz := (S1.no q).2.1
  have H1 := H.no q
  obtain ⟨b1, o1, hA1, hb1, hc1⟩ := Sl.el H1.o bV_len al
  obtain ⟨b3, o3, hA3, hb3, hc3⟩ := Sl.el H1.n nV_len nx
  have hBB := H1.o.2.1
  have hBn := H.n.2.1
  have ol1 : m.O.l.length = m.N.l.length := h.al
  have eN : w64 ((j : Int) + 1) = ((j + 1 : Nat) : Int) := w64_id (by omega) (by omega)
  have hge : ∀ k, (Value.slice A1 j c1).ownBlock = some k → g2 + 1 ≤ k := fun k e => own_ge own e
  refine go TD_ok 200 rfl ?_
  rw [hA0]
  refine idx TD_ok rfl rfl rfl rfl rfl j rfl hlt ?_
  refine go TD_ok 200 rfl ?_
  refine ld TD_ok rfl rfl rfl rfl (hc0) ?_
  refine go TD_ok 200 rfl ?_
  rw [← hA0]
  refine call rfl rfl rfl (ok _ (by decide) rfl) (rCell_any b _) ?_
  rintro v w1 ⟨rfl, rfl⟩
  rw [hp1]
  refine go TD_ok 200 rfl ?_
  repeat ((first | refine ldA TD_ok rfl rfl rfl rfl rfl (Bk.all B2) ?_ | refine ld TD_ok rfl rfl rfl rfl (Bk.get B2 rfl) ?_ | refine gT rfl rfl rfl rfl ?_ | refine gF rfl rfl rfl rfl ?_ | refine condT rfl rfl ?_ | refine condF rfl rfl ?_); refine go TD_ok 200 rfl ?_)
  rw [hA1]
  refine idx TD_ok rfl rfl rfl rfl rfl x rfl (by omega) ?_
  refine go TD_ok 200 rfl ?_
  refine idxA TD_ok rfl rfl rfl rfl rfl p rfl hp2 ?_
  refine go TD_ok 200 rfl ?_
  refine ld TD_ok rfl rfl rfl rfl (hc1 (p * 1) _ hp3) ?_
  refine go TD_ok 200 rfl ?_
  rw [← hA1]
  have hl2 := B2.lt
  refine app1 TD_ok rfl rfl rfl rfl rfl rfl (cs := [.bool (alC (scP m) x b)]) rfl rfl rfl rfl (fun _ => rfl) (fun _ => rfl) (fun _ => rfl) own (by unfold maxLen; omega) (by show (j + 1) * 1 ≤ _; omega) (by omega) ?_
  intro gx A6 c6 w3 own6 qk hs3 hown
  have B2 := B2.keep qk (fun e => by have := hge _ e; omega)
  have hc3 := hc3.keep (by omega) qk (fun e => by have := hge _ e; omega)
  have q := q.step qk (fun k hk e => by have := hge _ e; omega)
  clear hp3 hc1 hA1 qk
  refine go TD_ok 200 rfl ?_
  repeat ((first | refine ldA TD_ok rfl rfl rfl rfl rfl (Bk.all B2) ?_ | refine ld TD_ok rfl rfl rfl rfl (Bk.get B2 rfl) ?_ | refine gT rfl rfl rfl rfl ?_ | refine gF rfl rfl rfl rfl ?_ | refine condT rfl rfl ?_ | refine condF rfl rfl ?_); refine go TD_ok 200 rfl ?_)
  rw [hA3]
  refine idx TD_ok rfl rfl rfl rfl rfl x rfl hx ?_
  refine go TD_ok 200 rfl ?_
  refine idxA TD_ok rfl rfl rfl rfl rfl p rfl hp2 ?_
  refine go TD_ok 200 rfl ?_
  refine ld TD_ok rfl rfl rfl rfl (hc3 (p * 1) _ hp4) ?_
  refine go TD_ok 200 rfl ?_
  rw [← hA3]
  refine go TD_ok 200 rfl ?_
  rw [eN, ← hd]
  refine round ⟨(j + 1, A6, c6), rfl, ⟨by simp only; omega, q, B2, ?_⟩, by simp only; omega⟩
  show World.ownsRow _ (g2 + 1) 4 1 (.slice A6 (j + 1) c6) (j + 1) (bL (runS (scP m) 0 (cs.take (j + 1))))
  rw [hr, bL_snoc]
  exact own6
 ·obtain rfl : j = cs.length := by have : ¬ (j : Int) < (cs.length : Int) := hlt; omega
  rw [List.take_length] at own
  refine go TD_ok 200 rfl ?_
  exact ret (ret1 (v := .slice _ _ _) Try.results46 rfl ⟨q, A1, c1, rfl, own_base own (by omega)⟩)
end Go.Proofs.Yteenhfnamjbaiaa
