/- The contract of the product in the specification. -/
import Derived.Test.YteenhfnamjbaiaaW7
import Derived.Test.YteenhfnamjbaiaaW4
namespace Go.Proofs.Yteenhfnamjbaiaa
open Go.Ev Go.Proofs
open Go.Camp (Sc ScOk Sc8 nxA alA nxC alC smallP smE small_ok prNx prAl prRaw prodP prRaw_ok prRaw_len pr_div pr_lt)
attribute [local irreducible] At AtH
theorem nV_at (p : Int × Int) : (nV p)[0 * 1]? = some (I p.1) ∧ (nV p)[1 * 1]? = some (I p.2) := ⟨rfl, rfl⟩
theorem bV_at (p : Bool × Bool) : (bV p)[0 * 1]? = some (.bool p.1) ∧ (bV p)[1 * 1]? = some (.bool p.2) := ⟨rfl, rfl⟩
set_option maxRecDepth 20000 in
set_option maxHeartbeats 32000000 in
theorem rProduct_any (m1 m2 : Scm) (B : Nat) (w0 : World) (H1 : ScM w0 B m1) (H2 : ScM w0 B m2) (ha8 : Sc8 (scP m1)) (hb8 : Sc8 (scP m2)) (hpn8 : m1.N.l.length * m2.N.l.length ≤ 128) : Ret Try.prog 49 [.agg (scL m1).toArray, .agg (scL m2).toArray] w0 fun v w' => Chg No w0 w' ∧ SmO w0 w' (prodP (scP m1) (scP m2)) v := by
 have n1 : 1 ≤ m1.N.l.length := ha8.1.n1
 have n2 : 1 ≤ m2.N.l.length := hb8.1.n1
 have n18 : m1.N.l.length ≤ 128 := ha8.2
 have n28 : m2.N.l.length ≤ 128 := hb8.2
 have hok := prRaw_ok ha8 hb8
 obtain ⟨hpl1, hpl2⟩ := prRaw_len (scP m1) (scP m2) ((scP m1).nx.length * (scP m2).nx.length)
 obtain ⟨a, ha⟩ : ∃ a, a = scP m1 := ⟨_, rfl⟩
 obtain ⟨b, hbb⟩ : ∃ b, b = scP m2 := ⟨_, rfl⟩
 obtain ⟨p, hp⟩ : ∃ p, p = m1.N.l.length := ⟨_, rfl⟩
 obtain ⟨n, hn⟩ : ∃ n, n = m2.N.l.length := ⟨_, rfl⟩
 have hbn : n = b.nx.length := by rw [hbb]; exact hn
 have han : p = a.nx.length := by rw [ha]; exact hp
 rw [← hp, ← hn] at hpn8
 refine enter Try.func49 rfl Try.ntmps49 rfl ?_
 refine go TD_ok 200 rfl ?_
 refine bx rfl rfl rfl (cs := scL m1) rfl ?_
 intro g2 u2 hg2 hs2 q2 B2
 refine go TD_ok 200 rfl ?_
 refine bx rfl rfl rfl (cs := scL m2) rfl ?_
 intro g3 u3 hg3 hs3 q3 B3
 have l2 := B2.lt
 have B2 := B2.no q3
 have q := q2.trans q3
 refine go TD_ok 200 rfl ?_
 refine nw rfl rfl (z := .agg #[.slice none 0 0, .slice none 0 0]) (by kernel_rfl) (cs := [.slice none 0 0, .slice none 0 0]) rfl ?_
 intro g4 w hg4 hs4 qk B4
 have l3 := B3.lt
 have lq := q.size
 have B2 := B2.no qk
 have B3 := B3.no qk
 have q := q.trans qk
 refine go TD_ok 200 rfl ?_
 refine nw rfl rfl (z := .agg #[.slice none 0 0, .slice none 0 0]) (by kernel_rfl) (cs := [.slice none 0 0, .slice none 0 0]) rfl ?_
 intro g5 w hg5 hs5 qk B5
 have l4 := B4.lt
 have B2 := B2.no qk
 have B3 := B3.no qk
 have B4 := B4.no qk
 have q := q.trans qk
 have u2 : g2 < g3 := by omega
 have u3 : g3 < g4 := by omega
 have u4 : g4 < g5 := by omega
 have u0 : w0.heap.size ≤ g2 := by omega
 clear hg2 hs2 hg3 hs3 hg4 hs4 hg5 hs5 l2 l3 l4 lq
 refine go TD_ok 200 rfl ?_
 repeat ((first | refine ldA TD_ok rfl rfl rfl rfl rfl (Bk.all B2) ?_ | refine ldA TD_ok rfl rfl rfl rfl rfl (Bk.all B3) ?_ | refine ldA TD_ok rfl rfl rfl rfl rfl (Bk.all B4) ?_ | refine ldA TD_ok rfl rfl rfl rfl rfl (Bk.all B5) ?_ | refine ld TD_ok rfl rfl rfl rfl (Bk.get B2 rfl) ?_ | refine ld TD_ok rfl rfl rfl rfl (Bk.get B3 rfl) ?_ | refine ld TD_ok rfl rfl rfl rfl (Bk.get B4 rfl) ?_ | refine ld TD_ok rfl rfl rfl rfl (Bk.get B5 rfl) ?_ | refine gT rfl rfl rfl rfl ?_ | refine gF rfl rfl rfl rfl ?_ | refine condT rfl rfl ?_ | refine condF rfl rfl ?_); refine go TD_ok 200 rfl ?_)
 rw [← hn]
 refine go TD_ok 200 rfl ?_
 refine loop [2, 3, 4, 5, 6, 7] (fun x : Nat × Option Addr × Nat × Option Addr × Nat => [.pointer (some ⟨g2, 0, none⟩), .pointer (some ⟨g3, 0, none⟩), .pointer (some ⟨g4, 0, none⟩), .pointer (some ⟨g5, 0, none⟩), .int .i64 (n : Int), .int .i64 (x.1 : Int)])
  (fun x w' => x.1 ≤ p ∧ Chg No w0 w' ∧ Bk w' g2 77 (scL m1) ∧ Bk w' g3 77 (scL m2) ∧ Bk w' g4 77 [.slice none 0 0, .slice none 0 0] ∧ Bk w' g5 77 [.slice x.2.1 (x.1 * n) x.2.2.1, .slice x.2.2.2.1 (x.1 * n) x.2.2.2.2] ∧
   w'.ownsRow w0.heap.size 124 2 (.slice x.2.1 (x.1 * n) x.2.2.1) (x.1 * n) ((prRaw a b (x.1 * n)).nx.flatMap nV) ∧ w'.ownsRow w0.heap.size 125 2 (.slice x.2.2.2.1 (x.1 * n) x.2.2.2.2) (x.1 * n) ((prRaw a b (x.1 * n)).al.flatMap bV)) (fun x => p - x.1)
  (0, none, 0, none, 0) (fun _ => rfl) rfl ⟨Nat.zero_le _, q, B2, B3, B4, by simp only [Nat.zero_mul]; exact B5, by simp only [Nat.zero_mul]; exact own_nil, by simp only [Nat.zero_mul]; exact own_nil⟩ ?_
 clear B2 B3 B4 B5 q qk q2 q3
 rintro ⟨i, AN, cN, AO, cO⟩ τ w ⟨hi, q, B2, B3, B4, B5, on, oo⟩
 simp only at hi B5 on oo
 dsimp only
 refine go TD_ok 200 rfl ?_
 repeat ((first | refine ldA TD_ok rfl rfl rfl rfl rfl (Bk.all B2) ?_ | refine ldA TD_ok rfl rfl rfl rfl rfl (Bk.all B3) ?_ | refine ldA TD_ok rfl rfl rfl rfl rfl (Bk.all B4) ?_ | refine ldA TD_ok rfl rfl rfl rfl rfl (Bk.all B5) ?_ | refine ld TD_ok rfl rfl rfl rfl (Bk.get B2 rfl) ?_ | refine ld TD_ok rfl rfl rfl rfl (Bk.get B3 rfl) ?_ | refine ld TD_ok rfl rfl rfl rfl (Bk.get B4 rfl) ?_ | refine ld TD_ok rfl rfl rfl rfl (Bk.get B5 rfl) ?_ | refine gT rfl rfl rfl rfl ?_ | refine gF rfl rfl rfl rfl ?_ | refine condT rfl rfl ?_ | refine condF rfl rfl ?_); refine go TD_ok 200 rfl ?_)
 rw [← hp]
 refine condD rfl (fun hlt => ?_) (fun hlt => ?_)
 ·have hlti : i < p := by have : (i : Int) < (p : Int) := hlt; omega
  have ei : w64 ((i : Int) + 1) = ((i + 1 : Nat) : Int) := w64_id (by omega) (by omega)
  refine go TD_ok 200 rfl ?_
  refine loop [2, 3, 4, 5, 6, 7, 8] (fun x : Nat × Option Addr × Nat × Option Addr × Nat => [.pointer (some ⟨g2, 0, none⟩), .pointer (some ⟨g3, 0, none⟩), .pointer (some ⟨g4, 0, none⟩), .pointer (some ⟨g5, 0, none⟩), .int .i64 (n : Int), .int .i64 (i : Int), .int .i64 (x.1 : Int)])
   (fun x w' => x.1 ≤ n ∧ Chg No w0 w' ∧ Bk w' g2 77 (scL m1) ∧ Bk w' g3 77 (scL m2) ∧ Bk w' g4 77 [.slice none 0 0, .slice none 0 0] ∧ Bk w' g5 77 [.slice x.2.1 (i * n + x.1) x.2.2.1, .slice x.2.2.2.1 (i * n + x.1) x.2.2.2.2] ∧
    w'.ownsRow w0.heap.size 124 2 (.slice x.2.1 (i * n + x.1) x.2.2.1) (i * n + x.1) ((prRaw a b (i * n + x.1)).nx.flatMap nV) ∧ w'.ownsRow w0.heap.size 125 2 (.slice x.2.2.2.1 (i * n + x.1) x.2.2.2.2) (i * n + x.1) ((prRaw a b (i * n + x.1)).al.flatMap bV)) (fun x => n - x.1)
   (0, AN, cN, AO, cO) (fun _ => rfl) rfl ⟨Nat.zero_le _, q, B2, B3, B4, B5, on, oo⟩ ?_
  clear B2 B3 B4 B5 q on oo
  rintro ⟨k, AN, cN, AO, cO⟩ τ w ⟨hk, q, B2, B3, B4, B5, on, oo⟩
  simp only at hk B5 on oo
  dsimp only
  refine go TD_ok 200 rfl ?_
  refine condD rfl (fun hlt => ?_) (fun hlt => ?_)
  ·have hltk : k < n := by have : (k : Int) < (n : Int) := hlt; omega
   have ek : w64 ((k : Int) + 1) = ((k + 1 : Nat) : Int) := w64_id (by omega) (by omega)
   have hjl : i * n + k < p * n := pr_lt hlti hltk
   have hd := pr_div (n := b.nx.length) (x := i) (by omega : k < b.nx.length)
   have eNx : prNx a b (i * n + k) = ((((nxA a i).1 * n + (nxA b k).1 : Nat) : Int), (((nxA a i).2 * n + (nxA b k).2 : Nat) : Int)) := by
    unfold prNx; rw [← hbn] at hd ⊢; rw [hd.1, hd.2]
   have eAl : prAl a b (i * n + k) = ((alA a i).1 && (alA b k).1, (alA a i).2 && (alA b k).2) := by
    unfold prAl; rw [← hbn] at hd ⊢; rw [hd.1, hd.2]
   have sN := prNx_snoc a b (i * n + k)
   have sA := prAl_snoc a b (i * n + k)
   rw [eNx] at sN
   rw [eAl] at sA
   obtain ⟨j, hj⟩ : ∃ j, j = i * n + k := ⟨_, rfl⟩
   have hjk : i * n + (k + 1) = j + 1 := by omega
   rw [← hj] at B5 on oo hjl sN sA
   clear eNx eAl hd
   have hxi : i < m1.N.l.length := by omega
   have hxk : k < m2.N.l.length := by omega
   obtain ⟨nx1, na1, na2⟩ := nx_at ha8.1 hxi
   obtain ⟨nx2, nb1, nb2⟩ := nx_at hb8.1 hxk
   have al1 := al_at ha8.1 hxi
   have al2 := al_at hb8.1 hxk
   rw [← ha] at nx1 al1 na1 na2
   rw [← hbb] at nx2 al2 nb1 nb2
   rw [← hp] at na1 na2
   rw [← hn] at nb1 nb2
   have ex1 := encJ (by omega : p ≤ 128) (by omega : n ≤ 128) na1 nb1
   have ex2 := encJ (by omega : p ≤ 128) (by omega : n ≤ 128) na2 nb2
   obtain ⟨b1, o1, hA1, hb1, hc1⟩ := Sl.el (H1.no q).n nV_len nx1
   obtain ⟨b2, o2, hA2, hb2, hc2⟩ := Sl.el (H2.no q).n nV_len nx2
   obtain ⟨b3, o3, hA3, hb3, hc3⟩ := Sl.el (H1.no q).o bV_len al1
   obtain ⟨b4, o4, hA4, hb4, hc4⟩ := Sl.el (H2.no q).o bV_len al2
   have z0 := H1.n.2.1
   have z1 := (H1.no q).n.2.1
   have lq := q.size
   have ol1 : m1.O.l.length = m1.N.l.length := ha8.1.al
   have ol2 : m2.O.l.length = m2.N.l.length := hb8.1.al
   have hgn : ∀ k, (Value.slice AN j cN).ownBlock = some k → w0.heap.size ≤ k := fun k e => own_ge on e
   have hgo : ∀ k, (Value.slice AO j cO).ownBlock = some k → w0.heap.size ≤ k := fun k e => own_ge oo e
   refine go TD_ok 200 rfl ?_
   refine draw mixed (fun w' => Chg (fun k => (Value.slice AN j cN).ownBlock = some k) w w') ([0,1,2,3,4,5,6,7,8,9,10,11,12,13,14,15,16,17,18,19,20,21,22,23,24,25,26,27,28,29,30,31,32].map (fun i => (i, true)) ++ [(33, false)] ++ [(34, false)] ++ [35].map (fun i => (i, true)) ++ [(36, false)]) rfl (by kernel_rfl) ((Chg.drew _).mono fun _ _ h => h.elim) ?_
   have qd : Chg (fun k => (Value.slice AN j cN).ownBlock = some k) w w.drew := (Chg.drew w).mono fun _ _ h => h.elim
   refine goH TD_ok 200 rfl ?_
   repeat (first | (refine quietH rfl (fun w' hS => r_load TD_ok rfl rfl rfl (Bk.get (B5.keep hS (fun e => own_ne on B5 (by decide) e)) rfl)) ?_; refine goH TD_ok 200 rfl ?_) | (refine quietH rfl (fun w' hS => r_load TD_ok rfl rfl rfl (Bk.get (B2.keep hS (fun e => own_ne on B2 (by decide) e)) rfl)) ?_; refine goH TD_ok 200 rfl ?_) | (refine quietH rfl (fun w' hS => r_load TD_ok rfl rfl rfl (Bk.get (B3.keep hS (fun e => own_ne on B3 (by decide) e)) rfl)) ?_; refine goH TD_ok 200 rfl ?_))
   rw [hA1]
   refine quietH rfl (fun w' hS => r_idx TD_ok rfl rfl rfl rfl i rfl (by omega)) ?_
   refine goH TD_ok 200 rfl ?_
   refine quietH rfl (fun w' hS => r_idxA TD_ok rfl rfl rfl rfl 0 rfl (by decide)) ?_
   refine goH TD_ok 200 rfl ?_
   refine quietH rfl (fun w' hS => r_load TD_ok rfl rfl rfl ((hc1.keep (by omega) hS (fun e => by have := hgn _ e; omega)) (0 * 1) _ (nV_at _).1)) ?_
   rw [← hA1]
   refine goH TD_ok 200 rfl ?_
   refine goH TD_ok 200 rfl ?_
   repeat (first | (refine quietH rfl (fun w' hS => r_load TD_ok rfl rfl rfl (Bk.get (B5.keep hS (fun e => own_ne on B5 (by decide) e)) rfl)) ?_; refine goH TD_ok 200 rfl ?_) | (refine quietH rfl (fun w' hS => r_load TD_ok rfl rfl rfl (Bk.get (B2.keep hS (fun e => own_ne on B2 (by decide) e)) rfl)) ?_; refine goH TD_ok 200 rfl ?_) | (refine quietH rfl (fun w' hS => r_load TD_ok rfl rfl rfl (Bk.get (B3.keep hS (fun e => own_ne on B3 (by decide) e)) rfl)) ?_; refine goH TD_ok 200 rfl ?_))
   rw [hA2]
   refine quietH rfl (fun w' hS => r_idx TD_ok rfl rfl rfl rfl k rfl (by omega)) ?_
   refine goH TD_ok 200 rfl ?_
   refine quietH rfl (fun w' hS => r_idxA TD_ok rfl rfl rfl rfl 0 rfl (by decide)) ?_
   refine goH TD_ok 200 rfl ?_
   refine quietH rfl (fun w' hS => r_load TD_ok rfl rfl rfl ((hc2.keep (by omega) hS (fun e => by have := hgn _ e; omega)) (0 * 1) _ (nV_at _).1)) ?_
   rw [← hA2]
   refine goH TD_ok 200 rfl ?_
   refine goH TD_ok 200 rfl ?_
   repeat (first | (refine quietH rfl (fun w' hS => r_load TD_ok rfl rfl rfl (Bk.get (B5.keep hS (fun e => own_ne on B5 (by decide) e)) rfl)) ?_; refine goH TD_ok 200 rfl ?_) | (refine quietH rfl (fun w' hS => r_load TD_ok rfl rfl rfl (Bk.get (B2.keep hS (fun e => own_ne on B2 (by decide) e)) rfl)) ?_; refine goH TD_ok 200 rfl ?_) | (refine quietH rfl (fun w' hS => r_load TD_ok rfl rfl rfl (Bk.get (B3.keep hS (fun e => own_ne on B3 (by decide) e)) rfl)) ?_; refine goH TD_ok 200 rfl ?_))
   rw [hA1]
   refine quietH rfl (fun w' hS => r_idx TD_ok rfl rfl rfl rfl i rfl (by omega)) ?_
   refine goH TD_ok 200 rfl ?_
   refine quietH rfl (fun w' hS => r_idxA TD_ok rfl rfl rfl rfl 1 rfl (by decide)) ?_
   refine goH TD_ok 200 rfl ?_
   refine quietH rfl (fun w' hS => r_load TD_ok rfl rfl rfl ((hc1.keep (by omega) hS (fun e => by have := hgn _ e; omega)) (1 * 1) _ (nV_at _).2)) ?_
   rw [← hA1]
   refine goH TD_ok 200 rfl ?_
   refine goH TD_ok 200 rfl ?_
   repeat (first | (refine quietH rfl (fun w' hS => r_load TD_ok rfl rfl rfl (Bk.get (B5.keep hS (fun e => own_ne on B5 (by decide) e)) rfl)) ?_; refine goH TD_ok 200 rfl ?_) | (refine quietH rfl (fun w' hS => r_load TD_ok rfl rfl rfl (Bk.get (B2.keep hS (fun e => own_ne on B2 (by decide) e)) rfl)) ?_; refine goH TD_ok 200 rfl ?_) | (refine quietH rfl (fun w' hS => r_load TD_ok rfl rfl rfl (Bk.get (B3.keep hS (fun e => own_ne on B3 (by decide) e)) rfl)) ?_; refine goH TD_ok 200 rfl ?_))
   rw [hA2]
   refine quietH rfl (fun w' hS => r_idx TD_ok rfl rfl rfl rfl k rfl (by omega)) ?_
   refine goH TD_ok 200 rfl ?_
   refine quietH rfl (fun w' hS => r_idxA TD_ok rfl rfl rfl rfl 1 rfl (by decide)) ?_
   refine goH TD_ok 200 rfl ?_
   refine quietH rfl (fun w' hS => r_load TD_ok rfl rfl rfl ((hc2.keep (by omega) hS (fun e => by have := hgn _ e; omega)) (1 * 1) _ (nV_at _).2)) ?_
   rw [← hA2]
   refine goH TD_ok 200 rfl ?_
   rw [ex1, ex2]
   refine quietH rfl (fun w' hS => r_bldA TD_ok rfl rfl (z := .agg #[I 0, I 0]) (by kernel_rfl) (cs := nV ((((nxA a i).1 * n + (nxA b k).1 : Nat) : Int), (((nxA a i).2 * n + (nxA b k).2 : Nat) : Int))) rfl) ?_
   refine goH TD_ok 200 rfl ?_
   have on0 := on
   have on := own_no on (Chg.drew w)
   refine rowE TD_ok rfl rfl rfl rfl rfl rfl (cs := nV ((((nxA a i).1 * n + (nxA b k).1 : Nat) : Int), (((nxA a i).2 * n + (nxA b k).2 : Nat) : Int))) rfl ?_
   intro gr w2 hgr hsr qk Br
   have on := own_no on qk
   have qd := qd.no qk
   refine ⟨qd, ?_⟩
   refine goH TD_ok 200 rfl ?_
   have hs0 := qd.size
   refine appSE TD_ok rfl rfl rfl rfl rfl on (Br.sl (sz := 2) (m := 1) rfl) rfl (by show j + 1 ≤ maxLen; unfold maxLen; omega) (by show (j + 1) * 16 ≤ _; omega) (by omega) ?_
   intro A7 c7 w3 on7 qk hown
   have qd := qd.trans qk
   refine ⟨qd, ?_⟩
   refine goH TD_ok 200 rfl ?_
   have B2 := B2.keep qd (fun e => own_ne on0 B2 (by decide) e)
   have B3 := B3.keep qd (fun e => own_ne on0 B3 (by decide) e)
   have B4 := B4.keep qd (fun e => own_ne on0 B4 (by decide) e)
   have B5 := B5.keep qd (fun e => own_ne on0 B5 (by decide) e)
   have oo := own_keep oo qd (fun k e hh => own_apart on0 oo (by decide) k hh e)
   have hc3 := hc3.keep (by omega) qd (fun e => by have := hgn _ e; omega)
   have hc4 := hc4.keep (by omega) qd (fun e => by have := hgn _ e; omega)
   have q := q.step qd (fun k hk e => by have := hgn _ e; omega)
   have B5o := B5
   refine storeL TD_ok rfl rfl rfl rfl (v := .slice A7 (j + 1) c7) rfl rfl B5 rfl (by kernel_rfl) ?_
   intro w4 qk B5' hz5
   have B5 : Bk w4 g5 77 [.slice A7 (j + 1) c7, .slice AO j cO] := B5'
   refine endH ?_
   have B2 := B2.keep qk (by omega)
   have B3 := B3.keep qk (by omega)
   have B4 := B4.keep qk (by omega)
   have on := own_keep on7 qk (fun k e hh => by subst hh; exact own_ne on7 B5o (by decide) e)
   have oo := own_keep oo qk (fun k e hh => by subst hh; exact own_ne oo B5o (by decide) e)
   have z3 := qd.size
   have hc3 := hc3.keep (by omega) qk (by omega)
   have hc4 := hc4.keep (by omega) qk (by omega)
   have q := q.step qk (fun k hk e => by omega)
   clear B5' B5o qk qd hc1 hc2 hA1 hA2 Br on7 on0
   have z4 : w.heap.size ≤ w4.heap.size := by omega
   refine go TD_ok 200 rfl ?_
   refine draw mixed (fun w' => Chg (fun k => (Value.slice AO j cO).ownBlock = some k) w4 w') ([0,1,2,3,4,5,6,7,8,9,10,11,12,13,14,15,16,17,18,19,20,21,22,23,24,25,26,27,28,29,30].map (fun i => (i, true)) ++ [(31, false)] ++ [(32, false)] ++ [33].map (fun i => (i, true)) ++ [(34, false)]) rfl (by kernel_rfl) ((Chg.drew _).mono fun _ _ h => h.elim) ?_
   have qd : Chg (fun k => (Value.slice AO j cO).ownBlock = some k) w4 w4.drew := (Chg.drew w4).mono fun _ _ h => h.elim
   obtain ⟨x1, hx1⟩ : ∃ x, x = (alA a i).1 := ⟨_, rfl⟩
   obtain ⟨x2, hx2⟩ : ∃ x, x = (alA a i).2 := ⟨_, rfl⟩
   refine goH TD_ok 200 rfl ?_
   repeat (first | (refine quietH rfl (fun w' hS => r_load TD_ok rfl rfl rfl (Bk.get (B5.keep hS (fun e => own_ne oo B5 (by decide) e)) rfl)) ?_; refine goH TD_ok 200 rfl ?_) | (refine quietH rfl (fun w' hS => r_load TD_ok rfl rfl rfl (Bk.get (B2.keep hS (fun e => own_ne oo B2 (by decide) e)) rfl)) ?_; refine goH TD_ok 200 rfl ?_) | (refine quietH rfl (fun w' hS => r_load TD_ok rfl rfl rfl (Bk.get (B3.keep hS (fun e => own_ne oo B3 (by decide) e)) rfl)) ?_; refine goH TD_ok 200 rfl ?_))
   rw [hA3]
   refine quietH rfl (fun w' hS => r_idx TD_ok rfl rfl rfl rfl i rfl (by omega)) ?_
   refine goH TD_ok 200 rfl ?_
   refine quietH rfl (fun w' hS => r_idxA TD_ok rfl rfl rfl rfl 0 rfl (by decide)) ?_
   refine goH TD_ok 200 rfl ?_
   refine quietH rfl (fun w' hS => r_load TD_ok rfl rfl rfl ((hc3.keep (by omega) hS (fun e => by have := hgo _ e; omega)) (0 * 1) _ (bV_at _).1)) ?_
   rw [← hA3]
   refine goH TD_ok 200 rfl ?_
   rw [← hx1]
   cases x1 with
   | true =>
    refine goH TD_ok 200 rfl ?_
    repeat (first | (refine gTH rfl rfl rfl rfl ?_; refine goH TD_ok 200 rfl ?_) | (refine gFH rfl rfl rfl rfl ?_; refine goH TD_ok 200 rfl ?_))
    refine goH TD_ok 200 rfl ?_
    repeat (first | (refine quietH rfl (fun w' hS => r_load TD_ok rfl rfl rfl (Bk.get (B5.keep hS (fun e => own_ne oo B5 (by decide) e)) rfl)) ?_; refine goH TD_ok 200 rfl ?_) | (refine quietH rfl (fun w' hS => r_load TD_ok rfl rfl rfl (Bk.get (B2.keep hS (fun e => own_ne oo B2 (by decide) e)) rfl)) ?_; refine goH TD_ok 200 rfl ?_) | (refine quietH rfl (fun w' hS => r_load TD_ok rfl rfl rfl (Bk.get (B3.keep hS (fun e => own_ne oo B3 (by decide) e)) rfl)) ?_; refine goH TD_ok 200 rfl ?_))
    rw [hA4]
    refine quietH rfl (fun w' hS => r_idx TD_ok rfl rfl rfl rfl k rfl (by omega)) ?_
    refine goH TD_ok 200 rfl ?_
    refine quietH rfl (fun w' hS => r_idxA TD_ok rfl rfl rfl rfl 0 rfl (by decide)) ?_
    refine goH TD_ok 200 rfl ?_
    refine quietH rfl (fun w' hS => r_load TD_ok rfl rfl rfl ((hc4.keep (by omega) hS (fun e => by have := hgo _ e; omega)) (0 * 1) _ (bV_at _).1)) ?_
    rw [← hA4]
    refine goH TD_ok 200 rfl ?_
    refine goH TD_ok 200 rfl ?_
    repeat (first | (refine quietH rfl (fun w' hS => r_load TD_ok rfl rfl rfl (Bk.get (B5.keep hS (fun e => own_ne oo B5 (by decide) e)) rfl)) ?_; refine goH TD_ok 200 rfl ?_) | (refine quietH rfl (fun w' hS => r_load TD_ok rfl rfl rfl (Bk.get (B2.keep hS (fun e => own_ne oo B2 (by decide) e)) rfl)) ?_; refine goH TD_ok 200 rfl ?_) | (refine quietH rfl (fun w' hS => r_load TD_ok rfl rfl rfl (Bk.get (B3.keep hS (fun e => own_ne oo B3 (by decide) e)) rfl)) ?_; refine goH TD_ok 200 rfl ?_))
    rw [hA3]
    refine quietH rfl (fun w' hS => r_idx TD_ok rfl rfl rfl rfl i rfl (by omega)) ?_
    refine goH TD_ok 200 rfl ?_
    refine quietH rfl (fun w' hS => r_idxA TD_ok rfl rfl rfl rfl 1 rfl (by decide)) ?_
    refine goH TD_ok 200 rfl ?_
    refine quietH rfl (fun w' hS => r_load TD_ok rfl rfl rfl ((hc3.keep (by omega) hS (fun e => by have := hgo _ e; omega)) (1 * 1) _ (bV_at _).2)) ?_
    rw [← hA3]
    refine goH TD_ok 200 rfl ?_
    rw [← hx2]
    cases x2 with
    | true =>
     refine goH TD_ok 200 rfl ?_
     repeat (first | (refine gTH rfl rfl rfl rfl ?_; refine goH TD_ok 200 rfl ?_) | (refine gFH rfl rfl rfl rfl ?_; refine goH TD_ok 200 rfl ?_))
     refine goH TD_ok 200 rfl ?_
     repeat (first | (refine quietH rfl (fun w' hS => r_load TD_ok rfl rfl rfl (Bk.get (B5.keep hS (fun e => own_ne oo B5 (by decide) e)) rfl)) ?_; refine goH TD_ok 200 rfl ?_) | (refine quietH rfl (fun w' hS => r_load TD_ok rfl rfl rfl (Bk.get (B2.keep hS (fun e => own_ne oo B2 (by decide) e)) rfl)) ?_; refine goH TD_ok 200 rfl ?_) | (refine quietH rfl (fun w' hS => r_load TD_ok rfl rfl rfl (Bk.get (B3.keep hS (fun e => own_ne oo B3 (by decide) e)) rfl)) ?_; refine goH TD_ok 200 rfl ?_))
     rw [hA4]
     refine quietH rfl (fun w' hS => r_idx TD_ok rfl rfl rfl rfl k rfl (by omega)) ?_
     refine goH TD_ok 200 rfl ?_
     refine quietH rfl (fun w' hS => r_idxA TD_ok rfl rfl rfl rfl 1 rfl (by decide)) ?_
     refine goH TD_ok 200 rfl ?_
     refine quietH rfl (fun w' hS => r_load TD_ok rfl rfl rfl ((hc4.keep (by omega) hS (fun e => by have := hgo _ e; omega)) (1 * 1) _ (bV_at _).2)) ?_
     rw [← hA4]
     refine goH TD_ok 200 rfl ?_
     refine quietH rfl (fun w' hS => r_bldA TD_ok rfl rfl (z := .agg #[.bool false, .bool false]) (by kernel_rfl) (cs := bV ((alA a i).1 && (alA b k).1, (alA a i).2 && (alA b k).2)) (by rw [← hx1, ← hx2]; rfl)) ?_
     refine goH TD_ok 200 rfl ?_
     have oo0 := oo
     have oo := own_no oo (Chg.drew w4)
     refine rowE TD_ok rfl rfl rfl rfl rfl rfl (cs := bV ((alA a i).1 && (alA b k).1, (alA a i).2 && (alA b k).2)) rfl ?_
     intro gr w2 hgr hsr qk Br
     have oo := own_no oo qk
     have qd := qd.no qk
     refine ⟨qd, ?_⟩
     refine goH TD_ok 200 rfl ?_
     have hs0 := qd.size
     refine appSE TD_ok rfl rfl rfl rfl rfl oo (Br.sl (sz := 2) (m := 1) rfl) rfl (by show j + 1 ≤ maxLen; unfold maxLen; omega) (by show (j + 1) * 2 ≤ _; omega) (by omega) ?_
     intro A8 c8 w3 oo8 qk hown
     have qd := qd.trans qk
     refine ⟨qd, ?_⟩
     refine goH TD_ok 200 rfl ?_
     have B2 := B2.keep qd (fun e => own_ne oo0 B2 (by decide) e)
     have B3 := B3.keep qd (fun e => own_ne oo0 B3 (by decide) e)
     have B4 := B4.keep qd (fun e => own_ne oo0 B4 (by decide) e)
     have B5 := B5.keep qd (fun e => own_ne oo0 B5 (by decide) e)
     have on := own_keep on qd (fun k e hh => own_apart oo0 on (by decide) k hh e)
     have q := q.step qd (fun k hk e => by have := hgo _ e; omega)
     have B5o := B5
     refine storeL TD_ok rfl rfl rfl rfl (v := .slice A8 (j + 1) c8) rfl rfl B5 rfl (by kernel_rfl) ?_
     intro w5 qk B5' hz5
     have B5 : Bk w5 g5 77 [.slice A7 (j + 1) c7, .slice A8 (j + 1) c8] := B5'
     refine endH ?_
     have B2 := B2.keep qk (by omega)
     have B3 := B3.keep qk (by omega)
     have B4 := B4.keep qk (by omega)
     have on := own_keep on qk (fun k e hh => by subst hh; exact own_ne on B5o (by decide) e)
     have oo := own_keep oo8 qk (fun k e hh => by subst hh; exact own_ne oo8 B5o (by decide) e)
     have q := q.step qk (fun k hk e => by omega)
     refine go TD_ok 200 rfl ?_
     rw [ek]
     refine round ⟨(k + 1, A7, c7, A8, c8), rfl, ⟨by simp only; omega, q, B2, B3, B4, ?_, ?_, ?_⟩, by simp only; omega⟩
     ·simp only; rw [hjk]; exact B5
     ·simp only; rw [hjk, sN]; exact on
     ·simp only; rw [hjk, sA]; exact oo
    | false =>
     refine goH TD_ok 200 rfl ?_
     repeat (first | (refine gTH rfl rfl rfl rfl ?_; refine goH TD_ok 200 rfl ?_) | (refine gFH rfl rfl rfl rfl ?_; refine goH TD_ok 200 rfl ?_))
     refine quietH rfl (fun w' hS => r_bldA TD_ok rfl rfl (z := .agg #[.bool false, .bool false]) (by kernel_rfl) (cs := bV ((alA a i).1 && (alA b k).1, (alA a i).2 && (alA b k).2)) (by rw [← hx1, ← hx2]; rfl)) ?_
     refine goH TD_ok 200 rfl ?_
     have oo0 := oo
     have oo := own_no oo (Chg.drew w4)
     refine rowE TD_ok rfl rfl rfl rfl rfl rfl (cs := bV ((alA a i).1 && (alA b k).1, (alA a i).2 && (alA b k).2)) rfl ?_
     intro gr w2 hgr hsr qk Br
     have oo := own_no oo qk
     have qd := qd.no qk
     refine ⟨qd, ?_⟩
     refine goH TD_ok 200 rfl ?_
     have hs0 := qd.size
     refine appSE TD_ok rfl rfl rfl rfl rfl oo (Br.sl (sz := 2) (m := 1) rfl) rfl (by show j + 1 ≤ maxLen; unfold maxLen; omega) (by show (j + 1) * 2 ≤ _; omega) (by omega) ?_
     intro A8 c8 w3 oo8 qk hown
     have qd := qd.trans qk
     refine ⟨qd, ?_⟩
     refine goH TD_ok 200 rfl ?_
     have B2 := B2.keep qd (fun e => own_ne oo0 B2 (by decide) e)
     have B3 := B3.keep qd (fun e => own_ne oo0 B3 (by decide) e)
     have B4 := B4.keep qd (fun e => own_ne oo0 B4 (by decide) e)
     have B5 := B5.keep qd (fun e => own_ne oo0 B5 (by decide) e)
     have on := own_keep on qd (fun k e hh => own_apart oo0 on (by decide) k hh e)
     have q := q.step qd (fun k hk e => by have := hgo _ e; omega)
     have B5o := B5
     refine storeL TD_ok rfl rfl rfl rfl (v := .slice A8 (j + 1) c8) rfl rfl B5 rfl (by kernel_rfl) ?_
     intro w5 qk B5' hz5
     have B5 : Bk w5 g5 77 [.slice A7 (j + 1) c7, .slice A8 (j + 1) c8] := B5'
     refine endH ?_
     have B2 := B2.keep qk (by omega)
     have B3 := B3.keep qk (by omega)
     have B4 := B4.keep qk (by omega)
     have on := own_keep on qk (fun k e hh => by subst hh; exact own_ne on B5o (by decide) e)
     have oo := own_keep oo8 qk (fun k e hh => by subst hh; exact own_ne oo8 B5o (by decide) e)
     have q := q.step qk (fun k hk e => by omega)
     refine go TD_ok 200 rfl ?_
     rw [ek]
     refine round ⟨(k + 1, A7, c7, A8, c8), rfl, ⟨by simp only; omega, q, B2, B3, B4, ?_, ?_, ?_⟩, by simp only; omega⟩
     ·simp only; rw [hjk]; exact B5
     ·simp only; rw [hjk, sN]; exact on
     ·simp only; rw [hjk, sA]; exact oo
   | false =>
    refine goH TD_ok 200 rfl ?_
    repeat (first | (refine gTH rfl rfl rfl rfl ?_; refine goH TD_ok 200 rfl ?_) | (refine gFH rfl rfl rfl rfl ?_; refine goH TD_ok 200 rfl ?_))
    refine goH TD_ok 200 rfl ?_
    repeat (first | (refine quietH rfl (fun w' hS => r_load TD_ok rfl rfl rfl (Bk.get (B5.keep hS (fun e => own_ne oo B5 (by decide) e)) rfl)) ?_; refine goH TD_ok 200 rfl ?_) | (refine quietH rfl (fun w' hS => r_load TD_ok rfl rfl rfl (Bk.get (B2.keep hS (fun e => own_ne oo B2 (by decide) e)) rfl)) ?_; refine goH TD_ok 200 rfl ?_) | (refine quietH rfl (fun w' hS => r_load TD_ok rfl rfl rfl (Bk.get (B3.keep hS (fun e => own_ne oo B3 (by decide) e)) rfl)) ?_; refine goH TD_ok 200 rfl ?_))
    rw [hA3]
    refine quietH rfl (fun w' hS => r_idx TD_ok rfl rfl rfl rfl i rfl (by omega)) ?_
    refine goH TD_ok 200 rfl ?_
    refine quietH rfl (fun w' hS => r_idxA TD_ok rfl rfl rfl rfl 1 rfl (by decide)) ?_
    refine goH TD_ok 200 rfl ?_
    refine quietH rfl (fun w' hS => r_load TD_ok rfl rfl rfl ((hc3.keep (by omega) hS (fun e => by have := hgo _ e; omega)) (1 * 1) _ (bV_at _).2)) ?_
    rw [← hA3]
    refine goH TD_ok 200 rfl ?_
    rw [← hx2]
    cases x2 with
    | true =>
     refine goH TD_ok 200 rfl ?_
     repeat (first | (refine gTH rfl rfl rfl rfl ?_; refine goH TD_ok 200 rfl ?_) | (refine gFH rfl rfl rfl rfl ?_; refine goH TD_ok 200 rfl ?_))
     refine goH TD_ok 200 rfl ?_
     repeat (first | (refine quietH rfl (fun w' hS => r_load TD_ok rfl rfl rfl (Bk.get (B5.keep hS (fun e => own_ne oo B5 (by decide) e)) rfl)) ?_; refine goH TD_ok 200 rfl ?_) | (refine quietH rfl (fun w' hS => r_load TD_ok rfl rfl rfl (Bk.get (B2.keep hS (fun e => own_ne oo B2 (by decide) e)) rfl)) ?_; refine goH TD_ok 200 rfl ?_) | (refine quietH rfl (fun w' hS => r_load TD_ok rfl rfl rfl (Bk.get (B3.keep hS (fun e => own_ne oo B3 (by decide) e)) rfl)) ?_; refine goH TD_ok 200 rfl ?_))
     rw [hA4]
     refine quietH rfl (fun w' hS => r_idx TD_ok rfl rfl rfl rfl k rfl (by omega)) ?_
     refine goH TD_ok 200 rfl ?_
     refine quietH rfl (fun w' hS => r_idxA TD_ok rfl rfl rfl rfl 1 rfl (by decide)) ?_
     refine goH TD_ok 200 rfl ?_
     refine quietH rfl (fun w' hS => r_load TD_ok rfl rfl rfl ((hc4.keep (by omega) hS (fun e => by have := hgo _ e; omega)) (1 * 1) _ (bV_at _).2)) ?_
     rw [← hA4]
     refine goH TD_ok 200 rfl ?_
     refine quietH rfl (fun w' hS => r_bldA TD_ok rfl rfl (z := .agg #[.bool false, .bool false]) (by kernel_rfl) (cs := bV ((alA a i).1 && (alA b k).1, (alA a i).2 && (alA b k).2)) (by rw [← hx1, ← hx2]; rfl)) ?_
     refine goH TD_ok 200 rfl ?_
     have oo0 := oo
     have oo := own_no oo (Chg.drew w4)
     refine rowE TD_ok rfl rfl rfl rfl rfl rfl (cs := bV ((alA a i).1 && (alA b k).1, (alA a i).2 && (alA b k).2)) rfl ?_
     intro gr w2 hgr hsr qk Br
     have oo := own_no oo qk
     have qd := qd.no qk
     refine ⟨qd, ?_⟩
     refine goH TD_ok 200 rfl ?_
     have hs0 := qd.size
     refine appSE TD_ok rfl rfl rfl rfl rfl oo (Br.sl (sz := 2) (m := 1) rfl) rfl (by show j + 1 ≤ maxLen; unfold maxLen; omega) (by show (j + 1) * 2 ≤ _; omega) (by omega) ?_
     intro A8 c8 w3 oo8 qk hown
     have qd := qd.trans qk
     refine ⟨qd, ?_⟩
     refine goH TD_ok 200 rfl ?_
     have B2 := B2.keep qd (fun e => own_ne oo0 B2 (by decide) e)
     have B3 := B3.keep qd (fun e => own_ne oo0 B3 (by decide) e)
     have B4 := B4.keep qd (fun e => own_ne oo0 B4 (by decide) e)
     have B5 := B5.keep qd (fun e => own_ne oo0 B5 (by decide) e)
     have on := own_keep on qd (fun k e hh => own_apart oo0 on (by decide) k hh e)
     have q := q.step qd (fun k hk e => by have := hgo _ e; omega)
     have B5o := B5
     refine storeL TD_ok rfl rfl rfl rfl (v := .slice A8 (j + 1) c8) rfl rfl B5 rfl (by kernel_rfl) ?_
     intro w5 qk B5' hz5
     have B5 : Bk w5 g5 77 [.slice A7 (j + 1) c7, .slice A8 (j + 1) c8] := B5'
     refine endH ?_
     have B2 := B2.keep qk (by omega)
     have B3 := B3.keep qk (by omega)
     have B4 := B4.keep qk (by omega)
     have on := own_keep on qk (fun k e hh => by subst hh; exact own_ne on B5o (by decide) e)
     have oo := own_keep oo8 qk (fun k e hh => by subst hh; exact own_ne oo8 B5o (by decide) e)
     have q := q.step qk (fun k hk e => by omega)
     refine go TD_ok 200 rfl ?_
     rw [ek]
     refine round ⟨(k + 1, A7, c7, A8, c8), rfl, ⟨by simp only; omega, q, B2, B3, B4, ?_, ?_, ?_⟩, by simp only; omega⟩
     ·simp only; rw [hjk]; exact B5
     ·simp only; rw [hjk, sN]; exact on
     ·simp only; rw [hjk, sA]; exact oo
    | false =>
     refine goH TD_ok 200 rfl ?_
     repeat (first | (refine gTH rfl rfl rfl rfl ?_; refine goH TD_ok 200 rfl ?_) | (refine gFH rfl rfl rfl rfl ?_; refine goH TD_ok 200 rfl ?_))
     refine quietH rfl (fun w' hS => r_bldA TD_ok rfl rfl (z := .agg #[.bool false, .bool false]) (by kernel_rfl) (cs := bV ((alA a i).1 && (alA b k).1, (alA a i).2 && (alA b k).2)) (by rw [← hx1, ← hx2]; rfl)) ?_
     refine goH TD_ok 200 rfl ?_
     have oo0 := oo
     have oo := own_no oo (Chg.drew w4)
     refine rowE TD_ok rfl rfl rfl rfl rfl rfl (cs := bV ((alA a i).1 && (alA b k).1, (alA a i).2 && (alA b k).2)) rfl ?_
     intro gr w2 hgr hsr qk Br
     have oo := own_no oo qk
     have qd := qd.no qk
     refine ⟨qd, ?_⟩
     refine goH TD_ok 200 rfl ?_
     have hs0 := qd.size
     refine appSE TD_ok rfl rfl rfl rfl rfl oo (Br.sl (sz := 2) (m := 1) rfl) rfl (by show j + 1 ≤ maxLen; unfold maxLen; omega) (by show (j + 1) * 2 ≤ _; omega) (by omega) ?_
     intro A8 c8 w3 oo8 qk hown
     have qd := qd.trans qk
     refine ⟨qd, ?_⟩
     refine goH TD_ok 200 rfl ?_
     have B2 := B2.keep qd (fun e => own_ne oo0 B2 (by decide) e)
     have B3 := B3.keep qd (fun e => own_ne oo0 B3 (by decide) e)
     have B4 := B4.keep qd (fun e => own_ne oo0 B4 (by decide) e)
     have B5 := B5.keep qd (fun e => own_ne oo0 B5 (by decide) e)
     have on := own_keep on qd (fun k e hh => own_apart oo0 on (by decide) k hh e)
     have q := q.step qd (fun k hk e => by have := hgo _ e; omega)
     have B5o := B5
     refine storeL TD_ok rfl rfl rfl rfl (v := .slice A8 (j + 1) c8) rfl rfl B5 rfl (by kernel_rfl) ?_
     intro w5 qk B5' hz5
     have B5 : Bk w5 g5 77 [.slice A7 (j + 1) c7, .slice A8 (j + 1) c8] := B5'
     refine endH ?_
     have B2 := B2.keep qk (by omega)
     have B3 := B3.keep qk (by omega)
     have B4 := B4.keep qk (by omega)
     have on := own_keep on qk (fun k e hh => by subst hh; exact own_ne on B5o (by decide) e)
     have oo := own_keep oo8 qk (fun k e hh => by subst hh; exact own_ne oo8 B5o (by decide) e)
     have q := q.step qk (fun k hk e => by omega)
     refine go TD_ok 200 rfl ?_
     rw [ek]
     refine round ⟨(k + 1, A7, c7, A8, c8), rfl, ⟨by simp only; omega, q, B2, B3, B4, ?_, ?_, ?_⟩, by simp only; omega⟩
     ·simp only; rw [hjk]; exact B5
     ·simp only; rw [hjk, sN]; exact on
     ·simp only; rw [hjk, sA]; exact oo
  ·obtain rfl : k = n := by have : ¬ (k : Int) < (n : Int) := hlt; omega
   refine go TD_ok 200 rfl ?_
   rw [ei]
   have e : (i + 1) * k = i * k + k := Nat.succ_mul _ _
   refine round ⟨(i + 1, AN, cN, AO, cO), rfl, ⟨by simp only; omega, q, B2, B3, B4, ?_, ?_, ?_⟩, by simp only; omega⟩
   ·simp only; rw [e]; exact B5
   ·simp only; rw [e]; exact on
   ·simp only; rw [e]; exact oo
 ·obtain rfl : i = p := by have : ¬ (i : Int) < (p : Int) := hlt; omega
  have epn : (scP m1).nx.length * (scP m2).nx.length = i * n := by rw [← ha, ← hbb, ← han, ← hbn]
  have eprod : prodP (scP m1) (scP m2) = smallP (prRaw a b (i * n)) := by unfold prodP; rw [epn, ← ha, ← hbb]
  rw [epn, ← ha, ← hbb] at hok hpl1 hpl2
  rw [eprod]
  obtain ⟨j, hj⟩ : ∃ j, j = i * n := ⟨_, rfl⟩
  rw [← hj] at hok hpl1 hpl2 on oo B5 hpn8 ⊢
  have HM : ScM w w.heap.size ⟨⟨AN, (prRaw a b j).nx, cN⟩, ⟨AO, (prRaw a b j).al, cO⟩⟩ := ⟨by show Sl w _ 2 AN (prRaw a b j).nx.length _; rw [hpl1]; exact own_sl on, by show Sl w _ 2 AO (prRaw a b j).al.length _; rw [hpl2]; exact own_sl oo, by show (prRaw a b j).nx.length ≤ _; omega, by show (prRaw a b j).al.length ≤ _; omega⟩
  have hL : scL ⟨⟨AN, (prRaw a b j).nx, cN⟩, ⟨AO, (prRaw a b j).al, cO⟩⟩ = [.slice AN j cN, .slice AO j cO] := by show [Value.slice AN (prRaw a b j).nx.length cN, Value.slice AO (prRaw a b j).al.length cO] = _; rw [hpl1, hpl2]
  have hsc : scP ⟨⟨AN, (prRaw a b j).nx, cN⟩, ⟨AO, (prRaw a b j).al, cO⟩⟩ = prRaw a b j := rfl
  have X := rSmallest_any _ _ _ HM (by rw [hsc]; exact ⟨hok, by omega⟩)
  rw [hL, hsc] at X
  have l4 := B4.lt
  have lq := q.size
  refine go TD_ok 200 rfl ?_
  refine ldA TD_ok rfl rfl rfl rfl rfl B5.all ?_
  refine go TD_ok 200 rfl ?_
  refine call rfl rfl rfl (ok _ (by decide) rfl) X ?_
  clear X
  rintro v w6 ⟨qk, A1, c1, A2, c2, rfl, o1, o2⟩
  have B4 := B4.no qk
  have q := q.trans qk
  have B4o := B4
  refine go TD_ok 200 rfl ?_
  refine stA TD_ok rfl rfl rfl rfl (vs := [.slice A1 (smallP (prRaw a b j)).nx.length c1, .slice A2 (smallP (prRaw a b j)).nx.length c2]) rfl rfl rfl B4 rfl ?_
  intro w9 qk B4' hz4
  have B4 : Bk w9 g4 77 [.slice A1 (smallP (prRaw a b j)).nx.length c1, .slice A2 (smallP (prRaw a b j)).nx.length c2] := B4'
  refine go TD_ok 200 rfl ?_
  exact ret (retR1 Try.results49 (resA TD_ok rfl rfl rfl B4.all) ⟨q.step qk (fun k hk e => by omega), A1, c1, A2, c2, rfl, own_base (own_keep o1 qk (fun k e hh => by subst hh; exact own_ne o1 B4o (by decide) e)) lq, own_base (own_keep o2 qk (fun k e hh => by subst hh; exact own_ne o2 B4o (by decide) e)) lq⟩)
end Go.Proofs.Yteenhfnamjbaiaa
