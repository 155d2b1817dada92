/- The contract of the first difference in the specification. -/
import Derived.Test.YteenhfnamjbaiaaW8
namespace Go.Proofs.Yteenhfnamjbaiaa
open Go.Ev Go.Proofs
open Go.Camp (Sc ScOk Sc8 nxA alA Wy nxC alC keyW addW heirW diffW difR difP AmW pr_div pr_lt)
attribute [local irreducible] At AtH
def TW : Tab := [(170, .slc 169 3 40), (169, .str 3 [(0,1,false),(1,1,false),(2,1,false)] [I 0, I 0, .slice none 0 0])] ++ TD
theorem TW_ok : tabOk Try.prog TW = true := by kernel_rfl
/-- the pairs that are met, as a table -/
def metT (n m : Nat) (L : List Wy) : List Bool := (List.range (n * m)).map fun j => decide ((j / m, j % m) ∈ L.map keyW)
theorem metT_len (n m : Nat) (L : List Wy) : (metT n m L).length = n * m := by simp [metT]
theorem metT_get {n m x y : Nat} {L : List Wy} (hx : x < n) (hy : y < m) : (metT n m L)[x * m + y]? = some (decide ((x, y) ∈ L.map keyW)) := by
 have h := pr_lt (n := m) hx hy
 obtain ⟨d1, d2⟩ := pr_div (n := m) (x := x) hy
 unfold metT
 rw [List.getElem?_map, List.getElem?_range h, Option.map_some, d1, d2]
theorem metT_set {n m x y : Nat} {L : List Wy} {w : Wy} (hw : keyW w = (x, y)) (hx : x < n) (hy : y < m) : (metT n m L).set (x * m + y) true = metT n m (L ++ [w]) := by
 have h := pr_lt (n := m) hx hy
 obtain ⟨d1, d2⟩ := pr_div (n := m) (x := x) hy
 refine List.ext_getElem? fun j => ?_
 rw [List.getElem?_set]
 unfold metT
 by_cases hj : x * m + y = j
 ·subst hj
  rw [if_pos rfl, if_pos (by simpa using h), List.getElem?_map, List.getElem?_range h, Option.map_some, d1, d2]
  rw [decide_eq_true]
  rw [List.map_append, List.mem_append]
  exact .inr (by simp [hw])
 ·rw [if_neg hj]
  rcases Nat.lt_or_ge j (n * m) with hjl | hjl
  ·rw [List.getElem?_map, List.getElem?_map, List.getElem?_range hjl, Option.map_some, Option.map_some]
   congr 1
   have hne : (j / m, j % m) ≠ keyW w := by
    rw [hw]
    intro e
    injection e with e1 e2
    have := Nat.div_add_mod j m
    rw [e1, e2, Nat.mul_comm] at this
    exact hj this
   by_cases hm : (j / m, j % m) ∈ L.map keyW
   ·rw [decide_eq_true hm, decide_eq_true (by rw [List.map_append]; exact List.mem_append_left _ hm)]
   ·rw [decide_eq_false hm, decide_eq_false (by rw [List.map_append, List.mem_append]; simp only [List.map_cons, List.map_nil, List.mem_singleton]; exact fun h => h.elim hm hne)]
  ·rw [List.getElem?_eq_none (by simpa using hjl), List.getElem?_eq_none (by simpa using hjl)]
theorem metT_nil (n m : Nat) : bL (metT n m []) = List.replicate (n * m * 1) (.bool false) := by
 unfold metT bL
 rw [Nat.mul_one]
 simp [List.map_const']
structure RdX where
 j : Nat
 es : List En
 A : Option Addr
 c : Nat
set_option maxRecDepth 20000 in
set_option maxHeartbeats 32000000 in
theorem rDiffer_any (m1 m2 : Scm) (B : Nat) (w0 : World) (H1 : ScM w0 B m1) (H2 : ScM w0 B m2) (h81 : Sc8 (scP m1)) (h82 : Sc8 (scP m2)) : Ret Try.prog 50 [.agg (scL m1).toArray, .agg (scL m2).toArray] w0 fun v w' => Chg No w0 w' ∧
  ((difP (scP m1) (scP m2) = none ∧ v = .tuple #[.slice none 0 0, .bool false]) ∨ (∃ cs A c, difP (scP m1) (scP m2) = some cs ∧ v = .tuple #[.slice A cs.length c, .bool true] ∧ w'.ownsRow w0.heap.size 4 1 (.slice A cs.length c) cs.length (bL cs))) := by
 have h1 := h81.1
 have h2 := h82.1
 have n1 : 1 ≤ m1.N.l.length := h1.n1
 have n2 : 1 ≤ m2.N.l.length := h2.n1
 have n18 : m1.N.l.length ≤ 128 := h81.2
 have n28 : m2.N.l.length ≤ 128 := h82.2
 obtain ⟨p, hp⟩ : ∃ p, p = m1.N.l.length := ⟨_, rfl⟩
 obtain ⟨n, hn⟩ : ∃ n, n = m2.N.l.length := ⟨_, rfl⟩
 have hnm : p * n ≤ 128 * 128 := Nat.mul_le_mul (by omega) (by omega)
 have hpos : 0 < p * n := Nat.mul_pos (by omega) (by omega)
 refine enter Try.func50 rfl Try.ntmps50 rfl ?_
 refine go TW_ok 200 rfl ?_
 refine bx rfl rfl rfl (cs := scL m1) rfl ?_
 intro g2 u2 hg2 hs2 q2 B2
 refine go TW_ok 200 rfl ?_
 refine bx rfl rfl rfl (cs := scL m2) rfl ?_
 intro g3 u3 hg3 hs3 q3 B3
 have l2 := B2.lt
 have B2 := B2.no q3
 have q := q2.trans q3
 refine go TW_ok 200 rfl ?_
 repeat ((first | refine ldA TW_ok rfl rfl rfl rfl rfl (Bk.all B2) ?_ | refine ldA TW_ok rfl rfl rfl rfl rfl (Bk.all B3) ?_ | refine ld TW_ok rfl rfl rfl rfl (Bk.get B2 rfl) ?_ | refine ld TW_ok rfl rfl rfl rfl (Bk.get B3 rfl) ?_ | refine gT rfl rfl rfl rfl ?_ | refine gF rfl rfl rfl rfl ?_ | refine condT rfl rfl ?_ | refine condF rfl rfl ?_); refine go TW_ok 200 rfl ?_)
 rw [← hp, ← hn]
 refine go TW_ok 200 rfl ?_
 refine mkB TW_ok rfl rfl rfl rfl rfl (p * n) (by rw [← Int.natCast_mul]; exact w64_id (by omega) (by omega)) (z := .bool false) (by kernel_rfl) (v := .bool false) rfl (by decide) (by unfold maxLen; omega) (by omega) ?_
 intro gm w hgm hsm qk Bm
 have l3 := B3.lt
 have lq := q.size
 have B2 := B2.no qk
 have B3 := B3.no qk
 have q := q.trans qk
 rw [← metT_nil] at Bm
 have u2 : w0.heap.size ≤ g2 := by omega
 have u3 : g2 < g3 := by omega
 have um : g3 < gm := by omega
 clear hg2 hs2 hg3 hs3 hgm hsm l2 l3 lq
 refine go TW_ok 200 rfl ?_
 refine idx TW_ok rfl rfl rfl rfl rfl 0 rfl hpos ?_
 refine go TW_ok 200 rfl ?_
 refine st TW_ok rfl rfl rfl rfl (v := .bool true) rfl rfl Bm (by rw [lenL_eq, bL_len, metT_len]; exact Nat.blt_eq.mpr (by omega)) ?_
 intro w qk Bm' hzm
 have Bm : Bk w gm 4 (bL (metT p n [(0, 0, [])])) := by
  have e := metT_set (n := p) (m := n) (L := []) (w := (0, 0, [])) (x := 0) (y := 0) rfl (by omega) (by omega)
  rw [show 0 * n + 0 = 0 by omega] at e
  rw [← show metT p n ([] ++ [(0, 0, [])]) = metT p n [(0, 0, [])] from rfl, ← e, ← bL_set]
  exact Bm'
 have B2 := B2.keep qk (by omega)
 have B3 := B3.keep qk (by omega)
 have q := q.step qk (fun k hk e => by omega)
 clear Bm' hzm
 refine go TW_ok 200 rfl ?_
 refine row TW_ok rfl rfl rfl rfl rfl rfl (cs := [I 0, I 0, .slice none 0 0]) rfl ?_
 intro g7 w hg7 hs7 qk B7 hl7
 have lm := Bm.lt
 have lq := q.size
 have B2 := B2.no qk
 have B3 := B3.no qk
 have Bm := Bm.no qk
 have q := q.trans qk
 have own7 : w.ownsRow w0.heap.size 169 3 (.slice (some ⟨g7, 0, none⟩) 1 1) 1 ([(⟨(0, 0, []), none, 0⟩ : En)].flatMap enL) := own_base (B7.own hl7 (by decide)) (by omega)
 have hdp : difR (scP m1) (scP m2) (p * n - 0) 0 [(0, 0, [])] = difP (scP m1) (scP m2) := by rw [hp, hn]; rfl
 generalize difP (scP m1) (scP m2) = D at *
 clear hg7 hs7 B7 hl7 lm lq
 refine go TW_ok 200 rfl ?_
 refine loop [2, 3, 6, 7, 8] (fun x : RdX => [.pointer (some ⟨g2, 0, none⟩), .pointer (some ⟨g3, 0, none⟩), .slice (some ⟨gm, 0, none⟩) (p * n) (p * n), .slice x.A x.es.length x.c, .int .i64 (x.j : Int)])
  (fun x w' => x.j ≤ x.es.length ∧ AmW p n (x.es.map (·.w)) ∧ difR (scP m1) (scP m2) (p * n - x.j) x.j (x.es.map (·.w)) = D ∧ Chg No w0 w' ∧ Bk w' g2 77 (scL m1) ∧ Bk w' g3 77 (scL m2) ∧ Bk w' gm 4 (bL (metT p n (x.es.map (·.w)))) ∧
   w'.ownsRow w0.heap.size 169 3 (.slice x.A x.es.length x.c) x.es.length (x.es.flatMap enL) ∧ ∀ e ∈ x.es, Cell w' (gm + 1) e) (fun x => p * n - x.j)
  ⟨0, [⟨(0, 0, []), none, 0⟩], some ⟨g7, 0, none⟩, 1⟩ (fun _ => rfl) rfl ⟨by simp, ⟨by simp, fun w hw => by simp at hw; subst hw; exact ⟨by show 0 < p; omega, by show 0 < n; omega⟩, fun j w hw => by have := (List.getElem?_eq_some_iff.1 hw).1; simp at this; subst this; simp at hw; subst hw; simp⟩, hdp, q, B2, B3, Bm, own7, fun e he => by simp at he; subst he; exact own_nil⟩ ?_
 clear B2 B3 Bm own7 q qk q2 q3 hdp
 rintro ⟨i, es, A, c⟩ τ w ⟨hi, ham, hdif, q, B2, B3, Bm, own, hce⟩
 simp only at hi ham hdif Bm own hce
 dsimp only
 have hel : (es.map (·.w)).length = es.length := by simp
 have hLn := ham.len
 rw [hel] at hLn
 refine go TW_ok 200 rfl ?_
 refine condD rfl (fun hlt => ?_) (fun hlt => ?_)
 ·have hlti : i < es.length := by have : (i : Int) < (es.length : Int) := hlt; omega
  obtain ⟨e, he⟩ := getA_of hlti
  have hem := List.mem_of_getElem? he
  have hLi : (es.map (·.w))[i]? = some e.w := by rw [List.getElem?_map, he]; rfl
  have hlt1 := ham.lt _ (List.mem_of_getElem? hLi)
  have hcl := ham.cl i _ hLi
  have hcE := hce e hem
  obtain ⟨b7, o7, hA7, hb7, hc7⟩ := Sl.el (own_sl own) enL_len he
  have bn : ∀ k, (Value.slice A es.length c).ownBlock = some k → k < w.heap.size := fun k e => lt_own own e
  refine go TW_ok 200 rfl ?_
  rw [hA7]
  refine idx TW_ok rfl rfl rfl rfl rfl i rfl hlti ?_
  refine go TW_ok 200 rfl ?_
  refine ldA TW_ok rfl rfl rfl rfl rfl hc7 ?_
  rw [← hA7]
  refine go TW_ok 200 rfl ?_
  refine nw rfl rfl (z := .agg #[I 0, I 0, .slice none 0 0]) (by kernel_rfl) (cs := [I 0, I 0, .slice none 0 0]) rfl ?_
  intro g9 w2 hg9 hs9 qk B9
  have lm := Bm.lt
  have B2 := B2.no qk
  have B3 := B3.no qk
  have Bm := Bm.no qk
  have q := q.trans qk
  have own := own_no own qk
  have hcE := own_no hcE qk
  have hce := fun e he => own_no (hce e he) qk
  have u9 : gm < g9 := by omega
  have v9 : w0.heap.size ≤ g9 := by omega
  have bn : (Value.slice A es.length c).ownBlock ≠ some g9 := fun e => by have := bn _ e; omega
  clear hg9 hs9 lm hc7 hA7 hb7
  have B9o := B9
  refine go TW_ok 200 rfl ?_
  refine stA TW_ok rfl rfl rfl rfl (vs := enL e) rfl rfl rfl B9 rfl ?_
  intro w3 qk B9' hz9
  have B9 : Bk w3 g9 169 (enL e) := B9'
  have B2 := B2.keep qk (by omega)
  have B3 := B3.keep qk (by omega)
  have Bm := Bm.keep qk (by omega)
  have own := own_keep own qk (fun k e hh => by subst hh; exact bn e)
  have hcE : Cell w3 (gm + 1) e := own_keep hcE qk (fun k e hh => by subst hh; exact own_ne hcE B9o (by decide) e)
  have hce : ∀ e ∈ es, Cell w3 (gm + 1) e := fun e he => own_keep (hce e he) qk (fun k e' hh => by subst hh; exact own_ne (hce e he) B9o (by decide) e')
  have q := q.step qk (fun k hk e => by omega)
  clear B9' B9o
  obtain ⟨L0, hL0⟩ : ∃ L, L = es.map (·.w) := ⟨_, rfl⟩
  rw [← hL0] at ham hdif Bm hLi
  have e0 : p * n - i = (p * n - (i + 1)) + 1 := by omega
  rw [e0] at hdif
  refine go TW_ok 200 rfl ?_
  refine loop [2, 3, 6, 7, 8, 9, 10] (fun x : RdX => [.pointer (some ⟨g2, 0, none⟩), .pointer (some ⟨g3, 0, none⟩), .slice (some ⟨gm, 0, none⟩) (p * n) (p * n), .slice x.A x.es.length x.c, .int .i64 (i : Int), .pointer (some ⟨g9, 0, none⟩), .int .i64 (x.j : Int)])
   (fun x w' => x.j ≤ 2 ∧ x.es.map (·.w) = sucW (scP m1) (scP m2) L0 e.w x.j ∧ i < x.es.length ∧ AmW p n (x.es.map (·.w)) ∧ Chg No w0 w' ∧ Bk w' g2 77 (scL m1) ∧ Bk w' g3 77 (scL m2) ∧ Bk w' gm 4 (bL (metT p n (x.es.map (·.w)))) ∧
    w'.ownsRow w0.heap.size 169 3 (.slice x.A x.es.length x.c) x.es.length (x.es.flatMap enL) ∧ (∀ e ∈ x.es, Cell w' (gm + 1) e) ∧ Cell w' (gm + 1) e ∧ Bk w' g9 169 (enL e) ∧ (Value.slice x.A x.es.length x.c).ownBlock ≠ some g9 ∧ ∀ j', j' < x.j → diffW (scP m1) (scP m2) e.w (decide (j' = 1)) = false) (fun x => 2 - x.j)
   ⟨0, es, A, c⟩ (fun _ => rfl) rfl ⟨by simp, hL0.symm, hlti, by rw [← hL0]; exact ham, q, B2, B3, by simp only; rw [← hL0]; exact Bm, own, hce, hcE, B9, bn, fun j' h => absurd h (Nat.not_lt_zero _)⟩ ?_
  clear B2 B3 Bm own hce hcE B9 bn q qk hL0 ham hem he hlti hlt hel hi hLn
  rintro ⟨j, es, A, c⟩ τ w ⟨hj, hL, hii, ham, q, B2, B3, Bm, own, hce, hcE, B9, bn, hdj⟩
  simp only at hj hL hii ham Bm own hce bn hdj
  dsimp only
  have hel : (es.map (·.w)).length = es.length := by simp
  have hLn := ham.len
  rw [hel] at hLn
  refine go TW_ok 200 rfl ?_
  refine condD rfl (fun hlt => ?_) (fun hlt => ?_)
  ·have hlt : j < 2 := by have : (j : Int) < 2 := hlt; omega
   have ej : w64 ((j : Int) + 1) = ((j + 1 : Nat) : Int) := w64_id (by omega) (by omega)
   have hstep := sucW_step (scP m1) (scP m2) L0 e.w hlt
   have hfd := fun h => dif_found (a := scP m1) (b := scP m2) (f := p * n - (i + 1)) hLi hlt hdj h
   rw [← hL] at hstep
   have hx1 : e.w.1 < m1.N.l.length := by omega
   have hx2 : e.w.2.1 < m2.N.l.length := by omega
   have al1 := al_at h1 hx1
   have al2 := al_at h2 hx2
   obtain ⟨nx1, _, _⟩ := nx_at h1 hx1
   obtain ⟨nx2, _, _⟩ := nx_at h2 hx2
   obtain ⟨p1, p3⟩ := part_ix2 (scP m1) e.w.1 hlt
   obtain ⟨p2, p4⟩ := part_ix2 (scP m2) e.w.2.1 hlt
   have ecb : ((j : Int) == 1) = decide (j = 1) := by
    obtain rfl | rfl : j = 0 ∨ j = 1 := by omega
    ·rfl
    ·rfl
   have hdj2 : diffW (scP m1) (scP m2) e.w (decide (j = 1)) = false → ∀ j', j' < j + 1 → diffW (scP m1) (scP m2) e.w (decide (j' = 1)) = false := fun h j' h' => by
    rcases Nat.lt_or_ge j' j with h3 | h3
    ·exact hdj j' h3
    ·obtain rfl : j' = j := by omega
     exact h
   obtain ⟨cb, hcb⟩ : ∃ b, b = decide (j = 1) := ⟨_, rfl⟩
   rw [← hcb] at hstep p1 p2 p3 p4 ecb hfd hdj2
   have lq := q.size
   refine go TW_ok 200 rfl ?_
   repeat ((first | refine ldA TW_ok rfl rfl rfl rfl rfl (Bk.all B9) ?_ | refine ld TW_ok rfl rfl rfl rfl (Bk.get B9 rfl) ?_ | refine gT rfl rfl rfl rfl ?_ | refine gF rfl rfl rfl rfl ?_ | refine condT rfl rfl ?_ | refine condF rfl rfl ?_); refine go TW_ok 200 rfl ?_)
   have S9 : Sl w w.heap.size 1 e.A e.w.2.2.length (bL e.w.2.2) := own_sl hcE
   refine appS TW_ok rfl rfl rfl rfl rfl (own_nil (B' := w.heap.size) (e := 4) (sz := 1)) S9 (bL_one _) (by unfold maxLen; omega) (by show (0 + e.w.2.2.length) * 1 ≤ _; omega) (Nat.le_refl _) ?_
   intro A4 c4 w2 o4 q4 hown4
   rw [show 0 + e.w.2.2.length = e.w.2.2.length from Nat.zero_add _, List.nil_append] at o4
   rw [show 0 + e.w.2.2.length = e.w.2.2.length from Nat.zero_add _]
   have q4 : Chg No w w2 := q4.mono fun _ _ h => by cases h
   refine go TW_ok 200 rfl ?_
   rw [ecb]
   have lq2 := q4.size
   have lBm := Bm.lt
   refine app1 TW_ok rfl rfl rfl rfl rfl rfl (cs := [.bool cb]) rfl rfl rfl rfl (fun _ => rfl) (fun _ => rfl) (fun _ => rfl) o4 (by unfold maxLen; omega) (by show (e.w.2.2.length + 1) * 1 ≤ _; omega) (by omega) ?_
   intro gx A5 c5 w5 o5 q5 hs5 hown5
   have q25 : Chg No w w5 := q4.step q5 (fun k hk e => by have := own_ge o4 e; omega)
   have o5 := own_base (B' := gm + 1) o5 (by omega)
   have B2 := B2.no q25
   have B3 := B3.no q25
   have Bm := Bm.no q25
   have B9 := B9.no q25
   have own := own_no own q25
   have hcE : Cell w5 (gm + 1) e := own_no hcE q25
   have hce : ∀ e ∈ es, Cell w5 (gm + 1) e := fun e he => own_no (hce e he) q25
   have q := q.trans q25
   clear o4 q4 q5 q25 S9 hown4 hown5 lq lq2 lBm hs5
   have HM1 := H1.no q
   have HM2 := H2.no q
   obtain ⟨b1, o1, hA1, hb1, hc1⟩ := Sl.el HM1.o bV_len al1
   obtain ⟨b2, o2, hA2, hb2, hc2⟩ := Sl.el HM2.o bV_len al2
   have hBB := HM1.o.2.1
   have ol1 : m1.O.l.length = m1.N.l.length := h1.al
   have ol2 : m2.O.l.length = m2.N.l.length := h2.al
   refine go TW_ok 200 rfl ?_
   refine draw mixed (fun w' => Chg No w5 w') ([0,1,2,3,4,5,6,7,8,9,10,11,12,13,14,15,16].map (fun i => (i, true))) rfl (by kernel_rfl) (Chg.drew _) ?_
   refine goH TW_ok 200 rfl ?_
   repeat (first | (refine quietH rfl (fun w' hS => r_load TW_ok rfl rfl rfl (Bk.get (B2.no hS) rfl)) ?_; refine goH TW_ok 200 rfl ?_) | (refine quietH rfl (fun w' hS => r_load TW_ok rfl rfl rfl (Bk.get (B9.no hS) rfl)) ?_; refine goH TW_ok 200 rfl ?_))
   rw [hA1]
   refine quietH rfl (fun w' hS => r_idx TW_ok rfl rfl rfl rfl e.w.1 rfl (by omega)) ?_
   refine goH TW_ok 200 rfl ?_
   refine quietH rfl (fun w' hS => r_idxA TW_ok rfl rfl rfl rfl j rfl hlt) ?_
   refine goH TW_ok 200 rfl ?_
   refine quietH rfl (fun w' hS => r_load TW_ok rfl rfl rfl ((hc1.keep (by omega) hS (fun h => h)) (j * 1) _ p1)) ?_
   rw [← hA1]
   refine goH TW_ok 200 rfl ?_
   repeat (first | (refine quietH rfl (fun w' hS => r_load TW_ok rfl rfl rfl (Bk.get (B3.no hS) rfl)) ?_; refine goH TW_ok 200 rfl ?_) | (refine quietH rfl (fun w' hS => r_load TW_ok rfl rfl rfl (Bk.get (B9.no hS) rfl)) ?_; refine goH TW_ok 200 rfl ?_))
   rw [hA2]
   refine quietH rfl (fun w' hS => r_idx TW_ok rfl rfl rfl rfl e.w.2.1 rfl (by omega)) ?_
   refine goH TW_ok 200 rfl ?_
   refine quietH rfl (fun w' hS => r_idxA TW_ok rfl rfl rfl rfl j rfl hlt) ?_
   refine goH TW_ok 200 rfl ?_
   refine quietH rfl (fun w' hS => r_load TW_ok rfl rfl rfl ((hc2.keep (by omega) hS (fun h => h)) (j * 1) _ p2)) ?_
   rw [← hA2]
   refine goH TW_ok 200 rfl ?_
   refine quietH rfl (fun w' hS => r_neqB rfl Try.underlying4 rfl rfl) ?_
   refine goH TW_ok 200 rfl ?_
   refine endH ?_
   have hdv : diffW (scP m1) (scP m2) e.w cb = (alC (scP m1) e.w.1 cb != alC (scP m2) e.w.2.1 cb) := rfl
   rw [← hdv]
   have qd := Chg.drew w5
   have B2 := B2.no qd
   have B3 := B3.no qd
   have Bm := Bm.no qd
   have B9 := B9.no qd
   have own := own_no own qd
   have hcE : Cell _ (gm + 1) e := own_no hcE qd
   have hce : ∀ e ∈ es, Cell w5.drew (gm + 1) e := fun e he => own_no (hce e he) qd
   have o5 := own_no o5 qd
   have q := q.trans qd
   clear qd hc1 hc2 hA1 hA2 hb1 hb2 HM1 HM2 hBB
   generalize w5.drew = w6 at *
   cases hdd : diffW (scP m1) (scP m2) e.w cb with
   | true =>
    refine go TW_ok 200 rfl ?_
    refine condT rfl rfl ?_
    refine go TW_ok 200 rfl ?_
    refine ret (ret2 (v := .slice _ _ _) (x := .bool true) Try.results50 rfl rfl ⟨q, .inr ⟨e.w.2.2 ++ [cb], A5, c5, ?_, ?_, ?_⟩⟩)
    ·rw [← hdif]
     exact hfd hdd
    ·rw [List.length_append]; rfl
    ·rw [List.length_append, show bL (e.w.2.2 ++ [cb]) = bL e.w.2.2 ++ [.bool cb] by simp [bL]]
     exact own_base o5 (by omega)
   | false =>
    have hkk : keyW (heirW (scP m1) (scP m2) e.w cb) = (nxC (scP m1) e.w.1 cb, nxC (scP m2) e.w.2.1 cb) := rfl
    have hk1 : nxC (scP m1) e.w.1 cb < p := by rw [hp]; exact Go.Camp.nxC_lt h1 _ _
    have hk2 : nxC (scP m2) e.w.2.1 cb < n := by rw [hn]; exact Go.Camp.nxC_lt h2 _ _
    have hhw : heirW (scP m1) (scP m2) e.w cb = (nxC (scP m1) e.w.1 cb, nxC (scP m2) e.w.2.1 cb, e.w.2.2 ++ [cb]) := rfl
    have HM1 := H1.no q
    have HM2 := H2.no q
    obtain ⟨b3, o3, hA3, hb3, hc3⟩ := Sl.el HM1.n nV_len nx1
    obtain ⟨b4, o4, hA4, hb4, hc4⟩ := Sl.el HM2.n nV_len nx2
    have hBB := HM1.n.2.1
    have exy := encJ (by omega : p ≤ 128) (by omega : n ≤ 128) hk1 hk2
    have hix := pr_lt hk1 hk2
    refine go TW_ok 200 rfl ?_
    refine condF rfl rfl ?_
    refine go TW_ok 200 rfl ?_
    refine draw mixed (fun w' => Chg No w6 w') ([0,1,2,3,4,5,6,7,8,9,10,11,12,13,14,15,16,17].map (fun i => (i, true))) rfl (by kernel_rfl) (Chg.drew _) ?_
    refine goH TW_ok 200 rfl ?_
    repeat (first | (refine quietH rfl (fun w' hS => r_load TW_ok rfl rfl rfl (Bk.get (B2.no hS) rfl)) ?_; refine goH TW_ok 200 rfl ?_) | (refine quietH rfl (fun w' hS => r_load TW_ok rfl rfl rfl (Bk.get (B9.no hS) rfl)) ?_; refine goH TW_ok 200 rfl ?_))
    rw [hA3]
    refine quietH rfl (fun w' hS => r_idx TW_ok rfl rfl rfl rfl e.w.1 rfl (by omega)) ?_
    refine goH TW_ok 200 rfl ?_
    refine quietH rfl (fun w' hS => r_idxA TW_ok rfl rfl rfl rfl j rfl hlt) ?_
    refine goH TW_ok 200 rfl ?_
    refine quietH rfl (fun w' hS => r_load TW_ok rfl rfl rfl ((hc3.keep (by omega) hS (fun h => h)) (j * 1) _ p3)) ?_
    rw [← hA3]
    refine goH TW_ok 200 rfl ?_
    repeat (first | (refine quietH rfl (fun w' hS => r_load TW_ok rfl rfl rfl (Bk.get (B3.no hS) rfl)) ?_; refine goH TW_ok 200 rfl ?_) | (refine quietH rfl (fun w' hS => r_load TW_ok rfl rfl rfl (Bk.get (B9.no hS) rfl)) ?_; refine goH TW_ok 200 rfl ?_))
    rw [hA4]
    refine quietH rfl (fun w' hS => r_idx TW_ok rfl rfl rfl rfl e.w.2.1 rfl (by omega)) ?_
    refine goH TW_ok 200 rfl ?_
    refine quietH rfl (fun w' hS => r_idxA TW_ok rfl rfl rfl rfl j rfl hlt) ?_
    refine goH TW_ok 200 rfl ?_
    refine quietH rfl (fun w' hS => r_load TW_ok rfl rfl rfl ((hc4.keep (by omega) hS (fun h => h)) (j * 1) _ p4)) ?_
    rw [← hA4]
    refine goH TW_ok 200 rfl ?_
    refine endH ?_
    have qd := Chg.drew w6
    have B2 := B2.no qd
    have B3 := B3.no qd
    have Bm := Bm.no qd
    have B9 := B9.no qd
    have own := own_no own qd
    have hcE : Cell _ (gm + 1) e := own_no hcE qd
    have hce : ∀ e ∈ es, Cell w6.drew (gm + 1) e := fun e he => own_no (hce e he) qd
    have o5 := own_no o5 qd
    have q := q.trans qd
    clear qd hc3 hc4 hA3 hA4 hb3 hb4 HM1 HM2 hBB
    generalize w6.drew = w7 at *
    obtain ⟨x, hx⟩ : ∃ x, x = nxC (scP m1) e.w.1 cb := ⟨_, rfl⟩
    obtain ⟨y, hy⟩ : ∃ y, y = nxC (scP m2) e.w.2.1 cb := ⟨_, rfl⟩
    rw [← hx, ← hy] at hkk hhw exy hix
    rw [← hx] at hk1
    rw [← hy] at hk2
    rw [← hx, ← hy]
    refine go TW_ok 200 rfl ?_
    repeat ((first | refine ldA TW_ok rfl rfl rfl rfl rfl (Bk.all B3) ?_ | refine ld TW_ok rfl rfl rfl rfl (Bk.get B3 rfl) ?_ | refine gT rfl rfl rfl rfl ?_ | refine gF rfl rfl rfl rfl ?_ | refine condT rfl rfl ?_ | refine condF rfl rfl ?_); refine go TW_ok 200 rfl ?_)
    rw [← hn, exy]
    refine idx TW_ok rfl rfl rfl rfl rfl (x * n + y) rfl hix ?_
    refine go TW_ok 200 rfl ?_
    have hgm : (bL (metT p n (es.map (·.w))))[0 + (x * n + y) * 1]? = some (.bool (decide ((x, y) ∈ (es.map (·.w)).map keyW))) := by
     rw [show 0 + (x * n + y) * 1 = x * n + y by omega]
     unfold bL
     rw [List.getElem?_map, metT_get hk1 hk2]
     rfl
    refine ld TW_ok rfl rfl rfl rfl (Bm.getE hgm) ?_
    by_cases hin : (x, y) ∈ (es.map (·.w)).map keyW
    ·rw [decide_eq_true hin]
     refine go TW_ok 200 rfl ?_
     repeat (first | (refine gT rfl rfl rfl rfl ?_; refine go TW_ok 200 rfl ?_) | (refine gF rfl rfl rfl rfl ?_; refine go TW_ok 200 rfl ?_) | (refine condT rfl rfl ?_; refine go TW_ok 200 rfl ?_) | (refine condF rfl rfl ?_; refine go TW_ok 200 rfl ?_))
     rw [ej]
     have hadd : addW (es.map (·.w)) (heirW (scP m1) (scP m2) e.w cb) = es.map (·.w) := by unfold addW; rw [if_pos (by rw [hkk]; exact hin)]
     rw [hadd] at hstep
     exact round ⟨⟨j + 1, es, A, c⟩, rfl, ⟨by simp only; omega, hstep.symm, hii, ham, q, B2, B3, Bm, own, hce, hcE, B9, bn, hdj2 hdd⟩, by simp only; omega⟩
    ·rw [decide_eq_false hin]
     have hadd : addW (es.map (·.w)) (heirW (scP m1) (scP m2) e.w cb) = es.map (·.w) ++ [heirW (scP m1) (scP m2) e.w cb] := by unfold addW; rw [if_neg (by rw [hkk]; exact hin)]
     rw [hadd] at hstep
     have ham2 : AmW p n (es.map (·.w) ++ [heirW (scP m1) (scP m2) e.w cb]) := by
      rw [← hadd]
      exact ham.add (by rw [hhw]; exact hk1) (by rw [hhw]; exact hk2) (by rw [hhw]; simp; omega)
     have hl2 := ham2.len
     rw [List.length_append, hel] at hl2
     simp only [List.length_cons, List.length_nil] at hl2
     refine go TW_ok 200 rfl ?_
     repeat ((first | refine ldA TW_ok rfl rfl rfl rfl rfl (Bk.all B3) ?_ | refine ld TW_ok rfl rfl rfl rfl (Bk.get B3 rfl) ?_ | refine gT rfl rfl rfl rfl ?_ | refine gF rfl rfl rfl rfl ?_ | refine condT rfl rfl ?_ | refine condF rfl rfl ?_); refine go TW_ok 200 rfl ?_)
     rw [← hn, exy]
     refine idx TW_ok rfl rfl rfl rfl rfl (x * n + y) rfl hix ?_
     refine go TW_ok 200 rfl ?_
     have Bmo := Bm
     refine st TW_ok rfl rfl rfl rfl (v := .bool true) rfl rfl Bm (by rw [lenL_eq, bL_len, metT_len]; exact Nat.blt_eq.mpr (by omega)) ?_
     intro w8 qk Bm' hzm
     have Bm : Bk w8 gm 4 (bL (metT p n (es.map (·.w) ++ [heirW (scP m1) (scP m2) e.w cb]))) := by
      rw [← metT_set hkk hk1 hk2, ← bL_set]
      rw [show 0 + (x * n + y) * 1 = x * n + y by omega] at Bm'
      exact Bm'
     have B2 := B2.keep qk (by omega)
     have B3 := B3.keep qk (by omega)
     have B9 := B9.keep qk (by omega)
     have own := own_keep own qk (fun k e hh => by subst hh; exact own_ne own Bmo (by decide) e)
     have hcE : Cell w8 (gm + 1) e := own_keep hcE qk (fun k e hh => by have := own_ge hcE e; omega)
     have hce : ∀ e ∈ es, Cell w8 (gm + 1) e := fun e he => own_keep (hce e he) qk (fun k e' hh => by have := own_ge (hce e he) e'; omega)
     have o5 := own_keep o5 qk (fun k e hh => by have := own_ge o5 e; omega)
     have q := q.step qk (fun k hk e => by omega)
     clear Bm' Bmo qk
     obtain ⟨en, hen⟩ : ∃ en : En, en = ⟨(x, y, e.w.2.2 ++ [cb]), A5, c5⟩ := ⟨_, rfl⟩
     have henw : en.w = heirW (scP m1) (scP m2) e.w cb := by rw [hen, hhw]
     have henL : enL en = [I (x : Int), I (y : Int), .slice A5 (e.w.2.2.length + 1) c5] := by rw [hen]; unfold enL; simp
     have hcN : Cell w8 (gm + 1) en := by
      rw [hen]
      show w8.ownsRow (gm + 1) 4 1 (.slice A5 (e.w.2.2 ++ [cb]).length c5) (e.w.2.2 ++ [cb]).length (bL (e.w.2.2 ++ [cb]))
      rw [List.length_append, show bL (e.w.2.2 ++ [cb]) = bL e.w.2.2 ++ [.bool cb] by simp [bL]]
      exact o5
     have l9 := B9.lt
     refine go TW_ok 200 rfl ?_
     refine app1 TW_ok rfl rfl rfl rfl rfl rfl (cs := [I (x : Int), I (y : Int), .slice A5 (e.w.2.2.length + 1) c5]) rfl rfl rfl rfl (fun _ => rfl) (fun _ => rfl) (fun _ => rfl) own (by unfold maxLen; omega) (by show (es.length + 1) * 40 ≤ _; omega) q.size ?_
     intro gx A7 c7 w9 own7 qk hs7 hown7
     have B2 := B2.keep qk (fun e => own_ne own B2 (by decide) e)
     have B3 := B3.keep qk (fun e => own_ne own B3 (by decide) e)
     have Bm := Bm.keep qk (fun e => own_ne own Bm (by decide) e)
     have B9 := B9.keep qk (fun e => bn e)
     have hcE : Cell w9 (gm + 1) e := own_keep hcE qk (fun k e hh => own_apart own hcE (by decide) k hh e)
     have hcN : Cell w9 (gm + 1) en := own_keep hcN qk (fun k e hh => own_apart own hcN (by decide) k hh e)
     have hce : ∀ e ∈ es, Cell w9 (gm + 1) e := fun e he => own_keep (hce e he) qk (fun k e' hh => own_apart own (hce e he) (by decide) k hh e')
     have q := q.step qk (fun k hk e => by have := own_ge own e; omega)
     have eL : (es ++ [en]).map (·.w) = es.map (·.w) ++ [heirW (scP m1) (scP m2) e.w cb] := by rw [List.map_append, List.map_cons, List.map_nil, henw]
     have elen : (es ++ [en]).length = es.length + 1 := by simp
     refine go TW_ok 200 rfl ?_
     rw [ej, ← elen]
     refine round ⟨⟨j + 1, es ++ [en], A7, c7⟩, rfl, ⟨by simp only; omega, by simp only; rw [eL]; exact hstep.symm, by simp only; omega, by simp only; rw [eL]; exact ham2, q, B2, B3, by simp only; rw [eL]; exact Bm, ?_, ?_, hcE, B9, ?_, hdj2 hdd⟩, by simp only; omega⟩
     ·simp only
      rw [elen, List.flatMap_append, List.flatMap_singleton, henL]
      exact own7
     ·intro e' he'
      rcases List.mem_append.1 he' with h | h
      ·exact hce e' h
      ·simp at h
       subst h
       exact hcN
     ·simp only
      rw [elen]
      intro h
      rcases hown7 with h' | h'
      ·exact bn (h' ▸ h)
      ·rw [h'] at h
       simp only [Option.some.injEq] at h
       omega
  ·obtain rfl : j = 2 := by have : ¬ (j : Int) < 2 := hlt; omega
   refine go TW_ok 200 rfl ?_
   rw [w64_id (x := (i : Int) + 1) (by omega) (by omega)]
   refine round ⟨⟨i + 1, es, A, c⟩, rfl, ⟨by simp only; omega, ham, ?_, q, B2, B3, Bm, own, hce⟩, by simp only; omega⟩
   simp only
   rw [hL, ← hdif]
   exact (dif_next hLi hdj).symm
 ·have hii : i = es.length := by have : ¬ (i : Int) < (es.length : Int) := hlt; omega
  refine go TW_ok 200 rfl ?_
  exact ret (ret2 (v := .slice none 0 0) (x := .bool false) Try.results50 rfl rfl ⟨q, .inl ⟨by rw [← hdif]; exact dif_none (by rw [hel]; omega), rfl⟩⟩)
end Go.Proofs.Yteenhfnamjbaiaa
