/- The contract of the product of two scanners. -/
import Derived.Test.YteenhfnamjbaiaaW5
import Derived.Test.YteenhfnamjbaiaaW3
namespace Go.Proofs.Yteenhfnamjbaiaa
open Go.Ev Go.Proofs
open Go.Camp (Sc ScOk Sc8 nxA alA nxC alC smallP smE small_ok prNx prAl prRaw prodP prRaw_ok prRaw_len pr_div pr_lt)
attribute [local irreducible] At AtH
def prd18 : F3.Tr := .fork3 [(0, true), (2, true), (5, true), (6, true), (7, true)] (.fork [(1, false)] (.fork [(3, false)] (.fin [(4, false), (10, true), (8, false), (9, false), (11, false), (12, true), (13, false)]) (.fin [(8, false), (4, false), (10, true), (9, false), (11, false), (12, true), (13, false)])) (.fin [(8, false), (3, false), (4, false), (10, true), (9, false), (11, false), (12, true), (13, false)])) (.fork [(3, false)] (.fork [(1, false)] (.fin [(4, false), (10, true), (8, false), (9, false), (11, false), (12, true), (13, false)]) (.fin [(8, false), (4, false), (10, true), (9, false), (11, false), (12, true), (13, false)])) (.fin [(8, false), (1, false), (4, false), (10, true), (9, false), (11, false), (12, true), (13, false)])) (.fork [(8, false)] (.fin [(1, false), (3, false), (4, false), (10, true), (9, false), (11, false), (12, true), (13, false)]) (.fin [(3, false), (1, false), (4, false), (10, true), (9, false), (11, false), (12, true), (13, false)]))
theorem prNx_snoc (a b : Sc) (n : Nat) : (prRaw a b (n + 1)).nx.flatMap nV = (prRaw a b n).nx.flatMap nV ++ nV (prNx a b n) := by simp [prRaw, List.range_succ, List.map_append, List.flatMap_append]
theorem prAl_snoc (a b : Sc) (n : Nat) : (prRaw a b (n + 1)).al.flatMap bV = (prRaw a b n).al.flatMap bV ++ bV (prAl a b n) := by simp [prRaw, List.range_succ, List.map_append, List.flatMap_append]
theorem encJ {p n x y : Nat} (hp : p ≤ 128) (hn : n ≤ 128) (hx : x < p) (hy : y < n) : w64 (w64 ((x : Int) * (n : Int)) + (y : Int)) = ((x * n + y : Nat) : Int) := by
 have h := pr_lt (n := n) hx hy
 have h2 : p * n ≤ 128 * 128 := Nat.mul_le_mul hp hn
 rw [← Int.natCast_mul, w64_id (x := ((x * n : Nat) : Int)) (by omega) (by omega), w64_id (by omega) (by omega)]
 omega
/-- the successors and the alarms of a pair, as far as they are found -/
def pvN (a b : Sc) (j c : Nat) : List Value := [I (if c = 0 then 0 else (prNx a b j).1), I (if c = 2 then (prNx a b j).2 else 0)]
def pvA (a b : Sc) (j c : Nat) : List Value := [.bool (if c = 0 then false else (prAl a b j).1), .bool (if c = 2 then (prAl a b j).2 else false)]
theorem pv_step (a b : Sc) {i k n c : Nat} (hn : n = b.nx.length) (hk : k < n) (hc : c < 2) : pvN a b (i * n + k) (c + 1) = (pvN a b (i * n + k) c).set (0 + c * 1) (I ((nxC a i (decide (c = 1)) * n + nxC b k (decide (c = 1)) : Nat) : Int)) ∧ pvA a b (i * n + k) (c + 1) = (pvA a b (i * n + k) c).set (0 + c * 1) (.bool (alC a i (decide (c = 1)) && alC b k (decide (c = 1)))) := by
 subst hn
 obtain ⟨d1, d2⟩ := pr_div (x := i) hk
 obtain rfl | rfl : c = 0 ∨ c = 1 := by omega
 ·unfold pvN pvA prNx prAl
  rw [d1, d2]
  exact ⟨rfl, rfl⟩
 ·unfold pvN pvA prNx prAl
  rw [d1, d2]
  exact ⟨rfl, rfl⟩
set_option maxRecDepth 20000 in
set_option maxHeartbeats 32000000 in
theorem Product_any (m1 m2 : Scm) (B : Nat) (w0 : World) (H1 : ScM w0 B m1) (H2 : ScM w0 B m2) : Ret Try.prog 48 [.agg (scL m1).toArray, .agg (scL m2).toArray] w0 fun v w' => Chg No w0 w' ∧
  ((¬ (Sc8 (scP m1) ∧ Sc8 (scP m2)) ∧ v = .tuple #[.agg #[.slice none 0 0, .slice none 0 0], I 2]) ∨
   ((Sc8 (scP m1) ∧ Sc8 (scP m2)) ∧ 128 < (prodP (scP m1) (scP m2)).nx.length ∧ v = .tuple #[.agg #[.slice none 0 0, .slice none 0 0], I 3]) ∨
   ((Sc8 (scP m1) ∧ Sc8 (scP m2)) ∧ (prodP (scP m1) (scP m2)).nx.length ≤ 128 ∧ ∃ x, v = .tuple #[x, I 0] ∧ SmV w0 w' (prodP (scP m1) (scP m2)) x)) := by
 refine enter Try.func48 rfl Try.ntmps48 rfl ?_
 refine go TD_ok 200 rfl ?_
 refine bx rfl rfl rfl (cs := scL m1) rfl ?_
 intro g2 u2 hg2 hs2 q2 B2
 refine go TD_ok 200 rfl ?_
 refine bx rfl rfl rfl (cs := scL m2) rfl ?_
 intro g3 u3 hg3 hs3 q3 B3
 have l2 := B2.lt
 have B2 := B2.no q3
 have q := q2.trans q3
 refine go TD_ok 200 rfl ?_
 refine nw rfl rfl (z := .agg #[.slice none 0 0, .slice none 0 0]) (by kernel_rfl) (cs := [.slice none 0 0, .slice none 0 0]) rfl ?_
 intro g4 w hg4 hs4 qk B4
 have l3 := B3.lt
 have lq := q.size
 have B2 := B2.no qk
 have B3 := B3.no qk
 have q := q.trans qk
 have u2 : g2 < g3 := by omega
 have u3 : g3 < g4 := by omega
 have u0 : w0.heap.size ≤ g2 := by omega
 clear hg2 hs2 hg3 hs3 hg4 hs4 l2 l3 lq
 refine go TD_ok 200 rfl ?_
 repeat ((first | refine ldA TD_ok rfl rfl rfl rfl rfl (Bk.all B2) ?_ | refine ldA TD_ok rfl rfl rfl rfl rfl (Bk.all B3) ?_ | refine ldA TD_ok rfl rfl rfl rfl rfl (Bk.all B4) ?_ | refine ld TD_ok rfl rfl rfl rfl (Bk.get B2 rfl) ?_ | refine ld TD_ok rfl rfl rfl rfl (Bk.get B3 rfl) ?_ | refine ld TD_ok rfl rfl rfl rfl (Bk.get B4 rfl) ?_ | refine gT rfl rfl rfl rfl ?_ | refine gF rfl rfl rfl rfl ?_ | refine condT rfl rfl ?_ | refine condF rfl rfl ?_); refine go TD_ok 200 rfl ?_)
 refine call rfl rfl rfl (ok _ (by decide) rfl) (scans_any m1 B _ (H1.no q)) ?_
 rintro v w ⟨⟨b, rfl, hb⟩, qk⟩
 have B2 := B2.no qk
 have B3 := B3.no qk
 have B4 := B4.no qk
 have q := q.trans qk
 cases b with
 | false =>
  refine go TD_ok 200 rfl ?_
  repeat ((first | refine ldA TD_ok rfl rfl rfl rfl rfl (Bk.all B2) ?_ | refine ldA TD_ok rfl rfl rfl rfl rfl (Bk.all B3) ?_ | refine ldA TD_ok rfl rfl rfl rfl rfl (Bk.all B4) ?_ | refine ld TD_ok rfl rfl rfl rfl (Bk.get B2 rfl) ?_ | refine ld TD_ok rfl rfl rfl rfl (Bk.get B3 rfl) ?_ | refine ld TD_ok rfl rfl rfl rfl (Bk.get B4 rfl) ?_ | refine gT rfl rfl rfl rfl ?_ | refine gF rfl rfl rfl rfl ?_ | refine condT rfl rfl ?_ | refine condF rfl rfl ?_); refine go TD_ok 200 rfl ?_)
  refine stA TD_ok rfl rfl rfl rfl (vs := [.slice none 0 0, .slice none 0 0]) rfl rfl rfl B4 rfl ?_
  intro w2 qk B4 hz
  have B4 : Bk w2 g4 77 [.slice none 0 0, .slice none 0 0] := B4
  refine go TD_ok 200 rfl ?_
  exact ret (retR2 Try.results48 (resA TD_ok rfl rfl rfl B4.all) (s := .tmp 5) (x := I 2) rfl ⟨q.step qk (fun k hk e => by omega), .inl ⟨fun h => (by have := hb.2 h.1; cases this), rfl⟩⟩)
 | true =>
 have ha8 := hb.1 rfl
 refine go TD_ok 200 rfl ?_
 repeat ((first | refine ldA TD_ok rfl rfl rfl rfl rfl (Bk.all B2) ?_ | refine ldA TD_ok rfl rfl rfl rfl rfl (Bk.all B3) ?_ | refine ldA TD_ok rfl rfl rfl rfl rfl (Bk.all B4) ?_ | refine ld TD_ok rfl rfl rfl rfl (Bk.get B2 rfl) ?_ | refine ld TD_ok rfl rfl rfl rfl (Bk.get B3 rfl) ?_ | refine ld TD_ok rfl rfl rfl rfl (Bk.get B4 rfl) ?_ | refine gT rfl rfl rfl rfl ?_ | refine gF rfl rfl rfl rfl ?_ | refine condT rfl rfl ?_ | refine condF rfl rfl ?_); refine go TD_ok 200 rfl ?_)
 refine call rfl rfl rfl (ok _ (by decide) rfl) (scans_any m2 B _ (H2.no q)) ?_
 rintro v w ⟨⟨b, rfl, hb⟩, qk⟩
 have B2 := B2.no qk
 have B3 := B3.no qk
 have B4 := B4.no qk
 have q := q.trans qk
 cases b with
 | false =>
  refine go TD_ok 200 rfl ?_
  repeat ((first | refine ldA TD_ok rfl rfl rfl rfl rfl (Bk.all B2) ?_ | refine ldA TD_ok rfl rfl rfl rfl rfl (Bk.all B3) ?_ | refine ldA TD_ok rfl rfl rfl rfl rfl (Bk.all B4) ?_ | refine ld TD_ok rfl rfl rfl rfl (Bk.get B2 rfl) ?_ | refine ld TD_ok rfl rfl rfl rfl (Bk.get B3 rfl) ?_ | refine ld TD_ok rfl rfl rfl rfl (Bk.get B4 rfl) ?_ | refine gT rfl rfl rfl rfl ?_ | refine gF rfl rfl rfl rfl ?_ | refine condT rfl rfl ?_ | refine condF rfl rfl ?_); refine go TD_ok 200 rfl ?_)
  refine stA TD_ok rfl rfl rfl rfl (vs := [.slice none 0 0, .slice none 0 0]) rfl rfl rfl B4 rfl ?_
  intro w2 qk B4 hz
  have B4 : Bk w2 g4 77 [.slice none 0 0, .slice none 0 0] := B4
  refine go TD_ok 200 rfl ?_
  exact ret (retR2 Try.results48 (resA TD_ok rfl rfl rfl B4.all) (s := .tmp 5) (x := I 2) rfl ⟨q.step qk (fun k hk e => by omega), .inl ⟨fun h => (by have := hb.2 h.2; cases this), rfl⟩⟩)
 | true =>
 have hb8 := hb.1 rfl
 have n1 : 1 ≤ m1.N.l.length := ha8.1.n1
 have n2 : 1 ≤ m2.N.l.length := hb8.1.n1
 have n18 : m1.N.l.length ≤ 128 := ha8.2
 have n28 : m2.N.l.length ≤ 128 := hb8.2
 have hok := prRaw_ok ha8 hb8
 obtain ⟨hpl1, hpl2⟩ := prRaw_len (scP m1) (scP m2) ((scP m1).nx.length * (scP m2).nx.length)
 obtain ⟨a, ha⟩ : ∃ a, a = scP m1 := ⟨_, rfl⟩
 obtain ⟨b, hbb⟩ : ∃ b, b = scP m2 := ⟨_, rfl⟩
 obtain ⟨p, hp⟩ : ∃ p, p = m1.N.l.length := ⟨_, rfl⟩
 obtain ⟨n, hn⟩ : ∃ n, n = m2.N.l.length := ⟨_, rfl⟩
 have hbn : n = b.nx.length := by rw [hbb]; exact hn
 have han : p = a.nx.length := by rw [ha]; exact hp
 have hpn : p * n ≤ 128 * 128 := Nat.mul_le_mul (by omega) (by omega)
 refine go TD_ok 200 rfl ?_
 repeat ((first | refine ldA TD_ok rfl rfl rfl rfl rfl (Bk.all B2) ?_ | refine ldA TD_ok rfl rfl rfl rfl rfl (Bk.all B3) ?_ | refine ldA TD_ok rfl rfl rfl rfl rfl (Bk.all B4) ?_ | refine ld TD_ok rfl rfl rfl rfl (Bk.get B2 rfl) ?_ | refine ld TD_ok rfl rfl rfl rfl (Bk.get B3 rfl) ?_ | refine ld TD_ok rfl rfl rfl rfl (Bk.get B4 rfl) ?_ | refine gT rfl rfl rfl rfl ?_ | refine gF rfl rfl rfl rfl ?_ | refine condT rfl rfl ?_ | refine condF rfl rfl ?_); refine go TD_ok 200 rfl ?_)
 refine nw rfl rfl (z := .agg #[.slice none 0 0, .slice none 0 0]) (by kernel_rfl) (cs := [.slice none 0 0, .slice none 0 0]) rfl ?_
 intro g6 w hg6 hs6 qk B6
 have l4 := B4.lt
 have B2 := B2.no qk
 have B3 := B3.no qk
 have B4 := B4.no qk
 have q := q.trans qk
 have u6 : g4 < g6 := by omega
 clear hg6 hs6 l4
 refine go TD_ok 200 rfl ?_
 repeat ((first | refine ldA TD_ok rfl rfl rfl rfl rfl (Bk.all B2) ?_ | refine ldA TD_ok rfl rfl rfl rfl rfl (Bk.all B3) ?_ | refine ldA TD_ok rfl rfl rfl rfl rfl (Bk.all B4) ?_ | refine ldA TD_ok rfl rfl rfl rfl rfl (Bk.all B6) ?_ | refine ld TD_ok rfl rfl rfl rfl (Bk.get B2 rfl) ?_ | refine ld TD_ok rfl rfl rfl rfl (Bk.get B3 rfl) ?_ | refine ld TD_ok rfl rfl rfl rfl (Bk.get B4 rfl) ?_ | refine ld TD_ok rfl rfl rfl rfl (Bk.get B6 rfl) ?_ | refine gT rfl rfl rfl rfl ?_ | refine gF rfl rfl rfl rfl ?_ | refine condT rfl rfl ?_ | refine condF rfl rfl ?_); refine go TD_ok 200 rfl ?_)
 rw [← hp]
 refine loop [2, 3, 4, 6, 24, 25] (fun x : Nat × Option Addr × Nat × Option Addr × Nat => [.pointer (some ⟨g2, 0, none⟩), .pointer (some ⟨g3, 0, none⟩), .pointer (some ⟨g4, 0, none⟩), .pointer (some ⟨g6, 0, none⟩), .int .i64 (p : Int), .int .i64 (x.1 : Int)])
  (fun x w' => x.1 ≤ p ∧ Chg No w0 w' ∧ Bk w' g2 77 (scL m1) ∧ Bk w' g3 77 (scL m2) ∧ Bk w' g4 77 [.slice none 0 0, .slice none 0 0] ∧ Bk w' g6 77 [.slice x.2.1 (x.1 * n) x.2.2.1, .slice x.2.2.2.1 (x.1 * n) x.2.2.2.2] ∧
   w'.ownsRow w0.heap.size 124 2 (.slice x.2.1 (x.1 * n) x.2.2.1) (x.1 * n) ((prRaw a b (x.1 * n)).nx.flatMap nV) ∧ w'.ownsRow w0.heap.size 125 2 (.slice x.2.2.2.1 (x.1 * n) x.2.2.2.2) (x.1 * n) ((prRaw a b (x.1 * n)).al.flatMap bV)) (fun x => p - x.1)
  (0, none, 0, none, 0) (fun _ => rfl) rfl ⟨Nat.zero_le _, q, B2, B3, B4, by simp only [Nat.zero_mul]; exact B6, by simp only [Nat.zero_mul]; exact own_nil, by simp only [Nat.zero_mul]; exact own_nil⟩ ?_
 clear B2 B3 B4 B6 q qk q2 q3
 rintro ⟨i, AN, cN, AO, cO⟩ τ w ⟨hi, q, B2, B3, B4, B6, on, oo⟩
 simp only at hi B6 on oo
 dsimp only
 refine go TD_ok 200 rfl ?_
 refine condD rfl (fun hlt => ?_) (fun hlt => ?_)
 ·have hlti : i < p := by have : (i : Int) < (p : Int) := hlt; omega
  have ei : w64 ((i : Int) + 1) = ((i + 1 : Nat) : Int) := w64_id (by omega) (by omega)
  refine go TD_ok 200 rfl ?_
  repeat ((first | refine ldA TD_ok rfl rfl rfl rfl rfl (Bk.all B2) ?_ | refine ldA TD_ok rfl rfl rfl rfl rfl (Bk.all B3) ?_ | refine ldA TD_ok rfl rfl rfl rfl rfl (Bk.all B4) ?_ | refine ldA TD_ok rfl rfl rfl rfl rfl (Bk.all B6) ?_ | refine ld TD_ok rfl rfl rfl rfl (Bk.get B2 rfl) ?_ | refine ld TD_ok rfl rfl rfl rfl (Bk.get B3 rfl) ?_ | refine ld TD_ok rfl rfl rfl rfl (Bk.get B4 rfl) ?_ | refine ld TD_ok rfl rfl rfl rfl (Bk.get B6 rfl) ?_ | refine gT rfl rfl rfl rfl ?_ | refine gF rfl rfl rfl rfl ?_ | refine condT rfl rfl ?_ | refine condF rfl rfl ?_); refine go TD_ok 200 rfl ?_)
  rw [← hn]
  refine loop [2, 3, 4, 6, 24, 25, 7, 30, 31] (fun x : Nat × Option Addr × Nat × Option Addr × Nat => [.pointer (some ⟨g2, 0, none⟩), .pointer (some ⟨g3, 0, none⟩), .pointer (some ⟨g4, 0, none⟩), .pointer (some ⟨g6, 0, none⟩), .int .i64 (p : Int), .int .i64 (i : Int), .int .i64 (i : Int), .int .i64 (n : Int), .int .i64 (x.1 : Int)])
   (fun x w' => x.1 ≤ n ∧ Chg No w0 w' ∧ Bk w' g2 77 (scL m1) ∧ Bk w' g3 77 (scL m2) ∧ Bk w' g4 77 [.slice none 0 0, .slice none 0 0] ∧ Bk w' g6 77 [.slice x.2.1 (i * n + x.1) x.2.2.1, .slice x.2.2.2.1 (i * n + x.1) x.2.2.2.2] ∧
    w'.ownsRow w0.heap.size 124 2 (.slice x.2.1 (i * n + x.1) x.2.2.1) (i * n + x.1) ((prRaw a b (i * n + x.1)).nx.flatMap nV) ∧ w'.ownsRow w0.heap.size 125 2 (.slice x.2.2.2.1 (i * n + x.1) x.2.2.2.2) (i * n + x.1) ((prRaw a b (i * n + x.1)).al.flatMap bV)) (fun x => n - x.1)
   (0, AN, cN, AO, cO) (fun _ => rfl) rfl ⟨Nat.zero_le _, q, B2, B3, B4, B6, on, oo⟩ ?_
  clear B2 B3 B4 B6 q on oo
  rintro ⟨k, AN, cN, AO, cO⟩ τ w ⟨hk, q, B2, B3, B4, B6, on, oo⟩
  simp only at hk B6 on oo
  dsimp only
  refine go TD_ok 200 rfl ?_
  refine condD rfl (fun hlt => ?_) (fun hlt => ?_)
  ·have hltk : k < n := by have : (k : Int) < (n : Int) := hlt; omega
   have ek : w64 ((k : Int) + 1) = ((k + 1 : Nat) : Int) := w64_id (by omega) (by omega)
   have hjl : i * n + k < p * n := pr_lt hlti hltk
   obtain ⟨j, hj⟩ : ∃ j, j = i * n + k := ⟨_, rfl⟩
   have hjk : i * n + (k + 1) = j + 1 := by omega
   rw [← hj] at B6 on oo hjl
   have bn : ∀ k, (Value.slice AN j cN).ownBlock = some k → k < w.heap.size := fun k e => lt_own on e
   have bo : ∀ k, (Value.slice AO j cO).ownBlock = some k → k < w.heap.size := fun k e => lt_own oo e
   have l6 := B6.lt
   have lq := q.size
   refine go TD_ok 200 rfl ?_
   repeat ((first | refine ldA TD_ok rfl rfl rfl rfl rfl (Bk.all B2) ?_ | refine ldA TD_ok rfl rfl rfl rfl rfl (Bk.all B3) ?_ | refine ldA TD_ok rfl rfl rfl rfl rfl (Bk.all B4) ?_ | refine ldA TD_ok rfl rfl rfl rfl rfl (Bk.all B6) ?_ | refine ld TD_ok rfl rfl rfl rfl (Bk.get B2 rfl) ?_ | refine ld TD_ok rfl rfl rfl rfl (Bk.get B3 rfl) ?_ | refine ld TD_ok rfl rfl rfl rfl (Bk.get B4 rfl) ?_ | refine ld TD_ok rfl rfl rfl rfl (Bk.get B6 rfl) ?_ | refine gT rfl rfl rfl rfl ?_ | refine gF rfl rfl rfl rfl ?_ | refine condT rfl rfl ?_ | refine condF rfl rfl ?_); refine go TD_ok 200 rfl ?_)
   refine nw rfl rfl (z := .agg #[I 0, I 0]) (by kernel_rfl) (cs := [I 0, I 0]) rfl ?_
   intro g9 w2 hg9 hs9 qk B9
   have on := own_no on qk
   have oo := own_no oo qk
   have B2 := B2.no qk
   have B3 := B3.no qk
   have B4 := B4.no qk
   have B6 := B6.no qk
   have q := q.trans qk
   have l9 := B9.lt
   refine go TD_ok 200 rfl ?_
   repeat ((first | refine ldA TD_ok rfl rfl rfl rfl rfl (Bk.all B2) ?_ | refine ldA TD_ok rfl rfl rfl rfl rfl (Bk.all B3) ?_ | refine ldA TD_ok rfl rfl rfl rfl rfl (Bk.all B4) ?_ | refine ldA TD_ok rfl rfl rfl rfl rfl (Bk.all B6) ?_ | refine ldA TD_ok rfl rfl rfl rfl rfl (Bk.all B9) ?_ | refine ld TD_ok rfl rfl rfl rfl (Bk.get B2 rfl) ?_ | refine ld TD_ok rfl rfl rfl rfl (Bk.get B3 rfl) ?_ | refine ld TD_ok rfl rfl rfl rfl (Bk.get B4 rfl) ?_ | refine ld TD_ok rfl rfl rfl rfl (Bk.get B6 rfl) ?_ | refine ld TD_ok rfl rfl rfl rfl (Bk.get B9 rfl) ?_ | refine gT rfl rfl rfl rfl ?_ | refine gF rfl rfl rfl rfl ?_ | refine condT rfl rfl ?_ | refine condF rfl rfl ?_); refine go TD_ok 200 rfl ?_)
   refine nw rfl rfl (z := .agg #[.bool false, .bool false]) (by kernel_rfl) (cs := [.bool false, .bool false]) rfl ?_
   intro g10 w3 hg10 hs10 qk B10
   have on := own_no on qk
   have oo := own_no oo qk
   have B2 := B2.no qk
   have B3 := B3.no qk
   have B4 := B4.no qk
   have B6 := B6.no qk
   have B9 := B9.no qk
   have q := q.trans qk
   have u9 : g6 < g9 := by omega
   have u10 : g9 < g10 := by omega
   have v9 : w0.heap.size ≤ g9 := by omega
   have bn : ∀ k, (Value.slice AN j cN).ownBlock = some k → k < g9 := fun k e => by have := bn k e; omega
   have bo : ∀ k, (Value.slice AO j cO).ownBlock = some k → k < g9 := fun k e => by have := bo k e; omega
   clear hg9 hs9 hg10 hs10 l9 l6 lq
   refine go TD_ok 200 rfl ?_
   refine loop [2, 3, 4, 6, 24, 25, 7, 30, 31, 8, 9, 10, 34] (fun c : Nat => [.pointer (some ⟨g2, 0, none⟩), .pointer (some ⟨g3, 0, none⟩), .pointer (some ⟨g4, 0, none⟩), .pointer (some ⟨g6, 0, none⟩), .int .i64 (p : Int), .int .i64 (i : Int), .int .i64 (i : Int), .int .i64 (n : Int), .int .i64 (k : Int), .int .i64 (k : Int), .pointer (some ⟨g9, 0, none⟩), .pointer (some ⟨g10, 0, none⟩), .int .i64 (c : Int)])
    (fun c w' => c ≤ 2 ∧ Chg No w0 w' ∧ Bk w' g2 77 (scL m1) ∧ Bk w' g3 77 (scL m2) ∧ Bk w' g4 77 [.slice none 0 0, .slice none 0 0] ∧ Bk w' g6 77 [.slice AN j cN, .slice AO j cO] ∧
     w'.ownsRow w0.heap.size 124 2 (.slice AN j cN) j ((prRaw a b j).nx.flatMap nV) ∧ w'.ownsRow w0.heap.size 125 2 (.slice AO j cO) j ((prRaw a b j).al.flatMap bV) ∧ Bk w' g9 124 (pvN a b j c) ∧ Bk w' g10 125 (pvA a b j c)) (fun c => 2 - c) 0 (fun _ => rfl) rfl ⟨by simp, q, B2, B3, B4, B6, on, oo, B9, B10⟩ ?_
   clear B2 B3 B4 B6 q on oo B9 B10 qk
   rintro c τ w ⟨hc, q, B2, B3, B4, B6, on, oo, B9, B10⟩
   refine go TD_ok 200 rfl ?_
   refine condD rfl (fun hlt => ?_) (fun hlt => ?_)
   ·have hltc : c < 2 := by have : (c : Int) < 2 := hlt; omega
    have ec : w64 ((c : Int) + 1) = ((c + 1 : Nat) : Int) := w64_id (by omega) (by omega)
    have hxi : i < m1.N.l.length := by omega
    have hxk : k < m2.N.l.length := by omega
    obtain ⟨nx1, _, _⟩ := nx_at ha8.1 hxi
    obtain ⟨nx2, _, _⟩ := nx_at hb8.1 hxk
    have al1 := al_at ha8.1 hxi
    have al2 := al_at hb8.1 hxk
    obtain ⟨p3, p1⟩ := part_ix2 (scP m1) i hltc
    obtain ⟨p4, p2⟩ := part_ix2 (scP m2) k hltc
    have hna := Go.Camp.nxC_lt ha8.1 i (decide (c = 1))
    have hnb := Go.Camp.nxC_lt hb8.1 k (decide (c = 1))
    rw [← ha] at nx1 al1 p1 p3 hna
    rw [← hbb] at nx2 al2 p2 p4 hnb
    rw [← han] at hna
    rw [← hbn] at hnb
    obtain ⟨st1, st2⟩ := pv_step a b (i := i) hbn hltk hltc
    rw [← hj] at st1 st2
    have hvl : (pvN a b j c).length = 2 := rfl
    have hvl2 : (pvA a b j c).length = 2 := rfl
    have hB9 : Bk w g9 124 (pvN a b j c) := B9
    have hB10 : Bk w g10 125 (pvA a b j c) := B10
    generalize pvN a b j c = vN at *
    generalize pvA a b j c = vA at *
    have exy := encJ (by omega : p ≤ 128) (by omega : n ≤ 128) hna hnb
    obtain ⟨b1, o1, hA1, hb1, hc1⟩ := Sl.el (H1.no q).n nV_len nx1
    obtain ⟨b2, o2, hA2, hb2, hc2⟩ := Sl.el (H2.no q).n nV_len nx2
    have z1 := (H1.no q).n.2.1
    have z2 := (H2.no q).n.2.1
    have ll3 := B3.lt
    refine go TD_ok 200 rfl ?_
    refine draw mixed (fun w' => Chg No w w') ([0,1,2,3,4,5,6,7,8,9,10,11,12,13,14,15,16,17,18,19,20].map (fun i => (i, true)) ++ [(21, false)]) rfl (by kernel_rfl) (Chg.drew _) ?_
    refine goH TD_ok 200 rfl ?_
    repeat (first | (refine quietH rfl (fun w' hS => r_load TD_ok rfl rfl rfl (Bk.get (B2.no hS) rfl)) ?_; refine goH TD_ok 200 rfl ?_) | (refine quietH rfl (fun w' hS => r_load TD_ok rfl rfl rfl (Bk.get (B3.no hS) rfl)) ?_; refine goH TD_ok 200 rfl ?_))
    rw [hA1]
    refine quietH rfl (fun w' hS => r_idx TD_ok rfl rfl rfl rfl i rfl hxi) ?_
    refine goH TD_ok 200 rfl ?_
    refine quietH rfl (fun w' hS => r_idxA TD_ok rfl rfl rfl rfl c rfl hltc) ?_
    refine goH TD_ok 200 rfl ?_
    refine quietH rfl (fun w' hS => r_load TD_ok rfl rfl rfl ((hc1.keep (by omega) hS (fun h => h)) (c * 1) _ p1)) ?_
    rw [← hA1]
    refine goH TD_ok 200 rfl ?_
    repeat (first | (refine quietH rfl (fun w' hS => r_load TD_ok rfl rfl rfl (Bk.get (B2.no hS) rfl)) ?_; refine goH TD_ok 200 rfl ?_) | (refine quietH rfl (fun w' hS => r_load TD_ok rfl rfl rfl (Bk.get (B3.no hS) rfl)) ?_; refine goH TD_ok 200 rfl ?_))
    rw [hA2]
    refine quietH rfl (fun w' hS => r_idx TD_ok rfl rfl rfl rfl k rfl hxk) ?_
    refine goH TD_ok 200 rfl ?_
    refine quietH rfl (fun w' hS => r_idxA TD_ok rfl rfl rfl rfl c rfl hltc) ?_
    refine goH TD_ok 200 rfl ?_
    refine quietH rfl (fun w' hS => r_load TD_ok rfl rfl rfl ((hc2.keep (by omega) hS (fun h => h)) (c * 1) _ p2)) ?_
    rw [← hA2]
    refine goH TD_ok 200 rfl ?_
    rw [← hn, exy]
    refine quietH rfl (fun w' hS => r_idxA TD_ok rfl rfl rfl rfl c rfl hltc) ?_
    refine goH TD_ok 200 rfl ?_
    have qd := Chg.drew w
    refine storeL TD_ok rfl rfl rfl rfl (v := I ((nxC a i (decide (c = 1)) * n + nxC b k (decide (c = 1)) : Nat) : Int)) rfl rfl (B9.no qd) (by rw [lenL_eq, hvl]; exact Nat.blt_eq.mpr (by omega)) (by kernel_rfl) ?_
    intro w5 qk B9 hz9
    have B9 : Bk w5 g9 124 (pvN a b j (c + 1)) := by rw [st1]; exact B9
    refine endH ?_
    have qk := qd.mono (N := fun k => k = g9) (fun _ _ h => h.elim) |>.trans qk
    have B2 := B2.keep qk (by omega)
    have B3 := B3.keep qk (by omega)
    have B4 := B4.keep qk (by omega)
    have B6 := B6.keep qk (by omega)
    have B10 := B10.keep qk (by omega)
    have on := own_keep on qk (fun k e hh => by have := bn k e; omega)
    have oo := own_keep oo qk (fun k e hh => by have := bo k e; omega)
    have q := q.step qk (fun k hk e => by omega)
    clear hc1 hc2 hA1 hA2 hb1 hb2 z1 z2 qk qd hB9 p1 p2
    obtain ⟨b1, o1, hA1, hb1, hc1⟩ := Sl.el (H1.no q).o bV_len al1
    obtain ⟨b2, o2, hA2, hb2, hc2⟩ := Sl.el (H2.no q).o bV_len al2
    have z1 := (H1.no q).n.2.1
    have z2 := (H2.no q).n.2.1
    have ol1 : m1.O.l.length = m1.N.l.length := ha8.1.al
    have ol2 : m2.O.l.length = m2.N.l.length := hb8.1.al
    refine go TD_ok 200 rfl ?_
    repeat ((first | refine ldA TD_ok rfl rfl rfl rfl rfl (Bk.all B2) ?_ | refine ldA TD_ok rfl rfl rfl rfl rfl (Bk.all B3) ?_ | refine ld TD_ok rfl rfl rfl rfl (Bk.get B2 rfl) ?_ | refine ld TD_ok rfl rfl rfl rfl (Bk.get B3 rfl) ?_ | refine gT rfl rfl rfl rfl ?_ | refine gF rfl rfl rfl rfl ?_ | refine condT rfl rfl ?_ | refine condF rfl rfl ?_); refine go TD_ok 200 rfl ?_)
    rw [hA1]
    refine idx TD_ok rfl rfl rfl rfl rfl i rfl (by omega) ?_
    refine go TD_ok 200 rfl ?_
    refine idxA TD_ok rfl rfl rfl rfl rfl c rfl hltc ?_
    refine go TD_ok 200 rfl ?_
    refine ld TD_ok rfl rfl rfl rfl (hc1 (c * 1) _ p3) ?_
    refine go TD_ok 200 rfl ?_
    rw [← hA1]
    cases hav : alC a i (decide (c = 1)) with
    | false =>
     refine go TD_ok 200 rfl ?_
     repeat ((first | refine ldA TD_ok rfl rfl rfl rfl rfl (Bk.all B2) ?_ | refine ldA TD_ok rfl rfl rfl rfl rfl (Bk.all B3) ?_ | refine ld TD_ok rfl rfl rfl rfl (Bk.get B2 rfl) ?_ | refine ld TD_ok rfl rfl rfl rfl (Bk.get B3 rfl) ?_ | refine gT rfl rfl rfl rfl ?_ | refine gF rfl rfl rfl rfl ?_ | refine condT rfl rfl ?_ | refine condF rfl rfl ?_); refine go TD_ok 200 rfl ?_)
     refine idxA TD_ok rfl rfl rfl rfl rfl c rfl hltc ?_
     refine go TD_ok 200 rfl ?_
     refine st TD_ok rfl rfl rfl rfl (v := .bool (alC a i (decide (c = 1)) && alC b k (decide (c = 1)))) (by rw [hav]; rfl) rfl B10 (by rw [lenL_eq, hvl2]; exact Nat.blt_eq.mpr (by omega)) ?_
     intro w6 qk B10 hz10
     have B10 : Bk w6 g10 125 (pvA a b j (c + 1)) := by rw [st2]; exact B10
     have B2 := B2.keep qk (by omega)
     have B3 := B3.keep qk (by omega)
     have B4 := B4.keep qk (by omega)
     have B6 := B6.keep qk (by omega)
     have B9 := B9.keep qk (by omega)
     have on := own_keep on qk (fun k e hh => by have := bn k e; omega)
     have oo := own_keep oo qk (fun k e hh => by have := bo k e; omega)
     have q := q.step qk (fun k hk e => by omega)
     refine go TD_ok 200 rfl ?_
     rw [ec]
     exact round ⟨c + 1, rfl, ⟨by omega, q, B2, B3, B4, B6, on, oo, B9, B10⟩, by omega⟩
    | true =>
     refine go TD_ok 200 rfl ?_
     repeat ((first | refine ldA TD_ok rfl rfl rfl rfl rfl (Bk.all B2) ?_ | refine ldA TD_ok rfl rfl rfl rfl rfl (Bk.all B3) ?_ | refine ld TD_ok rfl rfl rfl rfl (Bk.get B2 rfl) ?_ | refine ld TD_ok rfl rfl rfl rfl (Bk.get B3 rfl) ?_ | refine gT rfl rfl rfl rfl ?_ | refine gF rfl rfl rfl rfl ?_ | refine condT rfl rfl ?_ | refine condF rfl rfl ?_); refine go TD_ok 200 rfl ?_)
     rw [hA2]
     refine idx TD_ok rfl rfl rfl rfl rfl k rfl (by omega) ?_
     refine go TD_ok 200 rfl ?_
     refine idxA TD_ok rfl rfl rfl rfl rfl c rfl hltc ?_
     refine go TD_ok 200 rfl ?_
     refine ld TD_ok rfl rfl rfl rfl (hc2 (c * 1) _ p4) ?_
     refine go TD_ok 200 rfl ?_
     rw [← hA2]
     refine go TD_ok 200 rfl ?_
     repeat ((first | refine ldA TD_ok rfl rfl rfl rfl rfl (Bk.all B2) ?_ | refine ldA TD_ok rfl rfl rfl rfl rfl (Bk.all B3) ?_ | refine ld TD_ok rfl rfl rfl rfl (Bk.get B2 rfl) ?_ | refine ld TD_ok rfl rfl rfl rfl (Bk.get B3 rfl) ?_ | refine gT rfl rfl rfl rfl ?_ | refine gF rfl rfl rfl rfl ?_ | refine condT rfl rfl ?_ | refine condF rfl rfl ?_); refine go TD_ok 200 rfl ?_)
     refine idxA TD_ok rfl rfl rfl rfl rfl c rfl hltc ?_
     refine go TD_ok 200 rfl ?_
     refine st TD_ok rfl rfl rfl rfl (v := .bool (alC a i (decide (c = 1)) && alC b k (decide (c = 1)))) (by rw [hav]; rfl) rfl B10 (by rw [lenL_eq, hvl2]; exact Nat.blt_eq.mpr (by omega)) ?_
     intro w6 qk B10 hz10
     have B10 : Bk w6 g10 125 (pvA a b j (c + 1)) := by rw [st2]; exact B10
     have B2 := B2.keep qk (by omega)
     have B3 := B3.keep qk (by omega)
     have B4 := B4.keep qk (by omega)
     have B6 := B6.keep qk (by omega)
     have B9 := B9.keep qk (by omega)
     have on := own_keep on qk (fun k e hh => by have := bn k e; omega)
     have oo := own_keep oo qk (fun k e hh => by have := bo k e; omega)
     have q := q.step qk (fun k hk e => by omega)
     refine go TD_ok 200 rfl ?_
     rw [ec]
     exact round ⟨c + 1, rfl, ⟨by omega, q, B2, B3, B4, B6, on, oo, B9, B10⟩, by omega⟩
   ·obtain rfl : c = 2 := by have : ¬ (c : Int) < 2 := hlt; omega
    have B9 : Bk w g9 124 (nV (prNx a b j)) := B9
    have B10 : Bk w g10 125 (bV (prAl a b j)) := B10
    obtain ⟨vN, hvN⟩ : ∃ v, v = prNx a b j := ⟨_, rfl⟩
    obtain ⟨vA, hvA⟩ : ∃ v, v = prAl a b j := ⟨_, rfl⟩
    have sN := prNx_snoc a b j
    have sA := prAl_snoc a b j
    rw [← hvN] at B9 sN
    rw [← hvA] at B10 sA
    have lq := q.size
    have hgn : ∀ k, (Value.slice AN j cN).ownBlock = some k → w0.heap.size ≤ k := fun k e => own_ge on e
    have hgo : ∀ k, (Value.slice AO j cO).ownBlock = some k → w0.heap.size ≤ k := fun k e => own_ge oo e
    refine go TD_ok 200 rfl ?_
    refine join [2, 3, 4, 6, 24, 25, 7, 30, 31] (fun x : Option Addr × Nat × Option Addr × Nat => [.pointer (some ⟨g2, 0, none⟩), .pointer (some ⟨g3, 0, none⟩), .pointer (some ⟨g4, 0, none⟩), .pointer (some ⟨g6, 0, none⟩), .int .i64 (p : Int), .int .i64 (i : Int), .int .i64 (i : Int), .int .i64 (n : Int), .int .i64 (k : Int)])
     (fun x w' => Chg No w0 w' ∧ Bk w' g2 77 (scL m1) ∧ Bk w' g3 77 (scL m2) ∧ Bk w' g4 77 [.slice none 0 0, .slice none 0 0] ∧ Bk w' g6 77 [.slice x.1 (j + 1) x.2.1, .slice x.2.2.1 (j + 1) x.2.2.2] ∧
      w'.ownsRow w0.heap.size 124 2 (.slice x.1 (j + 1) x.2.1) (j + 1) ((prRaw a b (j + 1)).nx.flatMap nV) ∧ w'.ownsRow w0.heap.size 125 2 (.slice x.2.2.1 (j + 1) x.2.2.2) (j + 1) ((prRaw a b (j + 1)).al.flatMap bV)) (fun _ => rfl) ?_ ?_
    ·refine F3.drawT mixed (fun w' => Chg (fun k => (Value.slice AN j cN).ownBlock = some k ∨ (Value.slice AO j cO).ownBlock = some k ∨ k = g6) w w' ∧ w'.cell? ⟨g6, 1, none⟩ = some (.slice AO j cO)) prd18 (by kernel_rfl) ⟨(Chg.drew _).mono fun _ _ h => h.elim, (B6.no (Chg.drew _)).get (i := 1) rfl⟩ ?_
     have nm9 : ¬ ((Value.slice AN j cN).ownBlock = some g9 ∨ (Value.slice AO j cO).ownBlock = some g9 ∨ g9 = g6) := by
      rintro (h | h | h)
      ·have := bn _ h; omega
      ·have := bo _ h; omega
      ·omega
     have nm10 : ¬ ((Value.slice AN j cN).ownBlock = some g10 ∨ (Value.slice AO j cO).ownBlock = some g10 ∨ g10 = g6) := by
      rintro (h | h | h)
      ·have := bn _ h; omega
      ·have := bo _ h; omega
      ·omega
     have hnm : ∀ g cs, Bk w g 77 cs → g ≠ g6 → ¬ ((Value.slice AN j cN).ownBlock = some g ∨ (Value.slice AO j cO).ownBlock = some g ∨ g = g6) := by
      rintro g cs hb hne (h | h | h)
      ·exact own_ne on hb (by decide) h
      ·exact own_ne oo hb (by decide) h
      ·exact hne h
     have nm2 := hnm _ _ B2 (by omega)
     have nm3 := hnm _ _ B3 (by omega)
     have nm4 := hnm _ _ B4 (by omega)
     have hw00 : ∀ k, k < w0.heap.size → ((Value.slice AN j cN).ownBlock = some k ∨ (Value.slice AO j cO).ownBlock = some k ∨ k = g6) → False := by
      rintro k hk (h | h | h)
      ·have := hgn _ h; omega
      ·have := hgo _ h; omega
      ·omega
     have qd : Chg (fun k => (Value.slice AN j cN).ownBlock = some k ∨ (Value.slice AO j cO).ownBlock = some k ∨ k = g6) w w.drew := (Chg.drew w).mono fun _ _ h => h.elim
     have on0 := on
     have oo0 := oo
     have B20 := B2
     have B30 := B3
     have B40 := B4
     have on := own_no on (Chg.drew w)
     have oo := own_no oo (Chg.drew w)
     have B6 := B6.no (Chg.drew w)
     refine F3.segK3 rfl ?_
     refine goH TD_ok 200 rfl ?_
     refine quietH rfl (fun w' hS => r_loadArr TD_ok rfl rfl rfl rfl (B9.keep hS.1 nm9).all) ?_
     refine goH TD_ok 200 rfl ?_
     refine quietH rfl (fun w' hS => r_load TD_ok rfl rfl rfl hS.2) ?_
     refine goH TD_ok 200 rfl ?_
     refine quietH rfl (fun w' hS => r_loadArr TD_ok rfl rfl rfl rfl (B10.keep hS.1 nm10).all) ?_
     refine goH TD_ok 200 rfl ?_
     refine F3.forkK3 ⟨qd, B6.get (i := 1) rfl⟩ ?_ ?_ ?_
     ·refine F3.segK rfl ?_
      refine goH TD_ok 200 rfl ?_
      refine valE rfl (r_load TD_ok rfl rfl rfl (Bk.get B6 rfl)) ⟨qd, B6.get (i := 1) rfl⟩ ?_
      refine goH TD_ok 200 rfl ?_
      refine F3.forkK ⟨qd, B6.get (i := 1) rfl⟩ ?_ ?_
      ·refine F3.segK rfl ?_
       refine goH TD_ok 200 rfl ?_
       refine rowE TD_ok rfl rfl rfl rfl rfl rfl (cs := nV vN) rfl ?_
       intro gr3 wa hgr3 hsr3 qk Br3
       have B6 := B6.no qk
       have on := own_no on qk
       have oo := own_no oo qk
       try have Br8 := Br8.no qk
       have qd := qd.trans (qk.mono fun _ _ h => h.elim)
       refine ⟨⟨qd, B6.get (i := 1) rfl⟩, ?_⟩
       refine goH TD_ok 200 rfl ?_
       refine F3.forkK ⟨qd, B6.get (i := 1) rfl⟩ ?_ ?_
       ·refine F3.segF rfl ?_
        refine goH TD_ok 200 rfl ?_
        have hzz := qd.size
        refine appSE TD_ok rfl rfl rfl rfl rfl on (Br3.sl (sz := 2) (m := 1) rfl) rfl (by show j + 1 ≤ maxLen; unfold maxLen; omega) (by show (j + 1) * 16 ≤ _; omega) (by omega) ?_
        intro A4 c4 wb on4 qk hown4
        have B6 := B6.keep qk (fun e => own_ne on B6 (by decide) e)
        have oo := own_keep oo qk (fun k e hh => own_apart on oo (by decide) k hh e)
        try have Br8 := Br8.keep qk (fun e => own_ne on Br8 (by decide) e)
        have qd := qd.trans (qk.mono fun _ _ h => .inl h)
        refine ⟨⟨qd, B6.get (i := 1) rfl⟩, ?_⟩
        refine goH TD_ok 200 rfl ?_
        refine rowE TD_ok rfl rfl rfl rfl rfl rfl (cs := bV vA) rfl ?_
        intro gr8 wc hgr8 hsr8 qk Br8
        have B6 := B6.no qk
        try have on := own_no on qk
        try have on4 := own_no on4 qk
        have oo := own_no oo qk
        try have Br3 := Br3.no qk
        have qd := qd.trans (qk.mono fun _ _ h => h.elim)
        refine ⟨⟨qd, B6.get (i := 1) rfl⟩, ?_⟩
        refine goH TD_ok 200 rfl ?_
        have hzz := qd.size
        refine appSE TD_ok rfl rfl rfl rfl rfl oo (Br8.sl (sz := 2) (m := 1) rfl) rfl (by show j + 1 ≤ maxLen; unfold maxLen; omega) (by show (j + 1) * 2 ≤ _; omega) (by omega) ?_
        intro A9 c9 wd oo9 qk hown9
        have B6 := B6.keep qk (fun e => own_ne oo B6 (by decide) e)
        have on4 := own_keep on4 qk (fun k e hh => own_apart oo on4 (by decide) k hh e)
        have qd := qd.trans (qk.mono fun _ _ h => .inr (.inl h))
        refine ⟨⟨qd, B6.get (i := 1) rfl⟩, ?_⟩
        refine goH TD_ok 200 rfl ?_
        have B6o := B6
        refine storeE TD_ok rfl rfl rfl rfl (v := .slice A4 (j + 1) c4) rfl rfl B6 rfl ?_
        intro we qk B6' hz6
        have B6 : Bk we g6 77 [.slice A4 (j + 1) c4, .slice AO j cO] := B6'
        have on4 := own_keep on4 qk (fun k e hh => by subst hh; exact own_ne on4 B6o (by decide) e)
        have oo9 := own_keep oo9 qk (fun k e hh => by subst hh; exact own_ne oo9 B6o (by decide) e)
        have qd := qd.trans (qk.mono fun _ _ h => .inr (.inr h))
        refine ⟨⟨qd, B6.get (i := 1) rfl⟩, ?_⟩
        refine goH TD_ok 200 rfl ?_
        have B6o := B6
        refine storeL TD_ok rfl rfl rfl rfl (v := .slice A9 (j + 1) c9) rfl rfl B6 rfl (by kernel_rfl) ?_
        intro wf qk B6' hz6
        have B6 : Bk wf g6 77 [.slice A4 (j + 1) c4, .slice A9 (j + 1) c9] := B6'
        have on4 := own_keep on4 qk (fun k e hh => by subst hh; exact own_ne on4 B6o (by decide) e)
        have oo9 := own_keep oo9 qk (fun k e hh => by subst hh; exact own_ne oo9 B6o (by decide) e)
        have qd := qd.trans (qk.mono fun _ _ h => .inr (.inr h))
        refine endH ?_
        exact round ⟨(A4, c4, A9, c9), rfl, q.step qd hw00, B20.keep qd nm2, B30.keep qd nm3, B40.keep qd nm4, B6, by rw [sN]; exact on4, by rw [sA]; exact oo9⟩
       ·refine F3.segF rfl ?_
        refine goH TD_ok 200 rfl ?_
        refine rowE TD_ok rfl rfl rfl rfl rfl rfl (cs := bV vA) rfl ?_
        intro gr8 wc hgr8 hsr8 qk Br8
        have B6 := B6.no qk
        try have on := own_no on qk
        try have on4 := own_no on4 qk
        have oo := own_no oo qk
        try have Br3 := Br3.no qk
        have qd := qd.trans (qk.mono fun _ _ h => h.elim)
        refine ⟨⟨qd, B6.get (i := 1) rfl⟩, ?_⟩
        refine goH TD_ok 200 rfl ?_
        have hzz := qd.size
        refine appSE TD_ok rfl rfl rfl rfl rfl on (Br3.sl (sz := 2) (m := 1) rfl) rfl (by show j + 1 ≤ maxLen; unfold maxLen; omega) (by show (j + 1) * 16 ≤ _; omega) (by omega) ?_
        intro A4 c4 wb on4 qk hown4
        have B6 := B6.keep qk (fun e => own_ne on B6 (by decide) e)
        have oo := own_keep oo qk (fun k e hh => own_apart on oo (by decide) k hh e)
        try have Br8 := Br8.keep qk (fun e => own_ne on Br8 (by decide) e)
        have qd := qd.trans (qk.mono fun _ _ h => .inl h)
        refine ⟨⟨qd, B6.get (i := 1) rfl⟩, ?_⟩
        refine goH TD_ok 200 rfl ?_
        have hzz := qd.size
        refine appSE TD_ok rfl rfl rfl rfl rfl oo (Br8.sl (sz := 2) (m := 1) rfl) rfl (by show j + 1 ≤ maxLen; unfold maxLen; omega) (by show (j + 1) * 2 ≤ _; omega) (by omega) ?_
        intro A9 c9 wd oo9 qk hown9
        have B6 := B6.keep qk (fun e => own_ne oo B6 (by decide) e)
        have on4 := own_keep on4 qk (fun k e hh => own_apart oo on4 (by decide) k hh e)
        have qd := qd.trans (qk.mono fun _ _ h => .inr (.inl h))
        refine ⟨⟨qd, B6.get (i := 1) rfl⟩, ?_⟩
        refine goH TD_ok 200 rfl ?_
        have B6o := B6
        refine storeE TD_ok rfl rfl rfl rfl (v := .slice A4 (j + 1) c4) rfl rfl B6 rfl ?_
        intro we qk B6' hz6
        have B6 : Bk we g6 77 [.slice A4 (j + 1) c4, .slice AO j cO] := B6'
        have on4 := own_keep on4 qk (fun k e hh => by subst hh; exact own_ne on4 B6o (by decide) e)
        have oo9 := own_keep oo9 qk (fun k e hh => by subst hh; exact own_ne oo9 B6o (by decide) e)
        have qd := qd.trans (qk.mono fun _ _ h => .inr (.inr h))
        refine ⟨⟨qd, B6.get (i := 1) rfl⟩, ?_⟩
        refine goH TD_ok 200 rfl ?_
        have B6o := B6
        refine storeL TD_ok rfl rfl rfl rfl (v := .slice A9 (j + 1) c9) rfl rfl B6 rfl (by kernel_rfl) ?_
        intro wf qk B6' hz6
        have B6 : Bk wf g6 77 [.slice A4 (j + 1) c4, .slice A9 (j + 1) c9] := B6'
        have on4 := own_keep on4 qk (fun k e hh => by subst hh; exact own_ne on4 B6o (by decide) e)
        have oo9 := own_keep oo9 qk (fun k e hh => by subst hh; exact own_ne oo9 B6o (by decide) e)
        have qd := qd.trans (qk.mono fun _ _ h => .inr (.inr h))
        refine endH ?_
        exact round ⟨(A4, c4, A9, c9), rfl, q.step qd hw00, B20.keep qd nm2, B30.keep qd nm3, B40.keep qd nm4, B6, by rw [sN]; exact on4, by rw [sA]; exact oo9⟩
      ·refine F3.segF rfl ?_
       refine goH TD_ok 200 rfl ?_
       refine rowE TD_ok rfl rfl rfl rfl rfl rfl (cs := bV vA) rfl ?_
       intro gr8 wc hgr8 hsr8 qk Br8
       have B6 := B6.no qk
       try have on := own_no on qk
       try have on4 := own_no on4 qk
       have oo := own_no oo qk
       try have Br3 := Br3.no qk
       have qd := qd.trans (qk.mono fun _ _ h => h.elim)
       refine ⟨⟨qd, B6.get (i := 1) rfl⟩, ?_⟩
       refine goH TD_ok 200 rfl ?_
       refine rowE TD_ok rfl rfl rfl rfl rfl rfl (cs := nV vN) rfl ?_
       intro gr3 wa hgr3 hsr3 qk Br3
       have B6 := B6.no qk
       have on := own_no on qk
       have oo := own_no oo qk
       try have Br8 := Br8.no qk
       have qd := qd.trans (qk.mono fun _ _ h => h.elim)
       refine ⟨⟨qd, B6.get (i := 1) rfl⟩, ?_⟩
       refine goH TD_ok 200 rfl ?_
       have hzz := qd.size
       refine appSE TD_ok rfl rfl rfl rfl rfl on (Br3.sl (sz := 2) (m := 1) rfl) rfl (by show j + 1 ≤ maxLen; unfold maxLen; omega) (by show (j + 1) * 16 ≤ _; omega) (by omega) ?_
       intro A4 c4 wb on4 qk hown4
       have B6 := B6.keep qk (fun e => own_ne on B6 (by decide) e)
       have oo := own_keep oo qk (fun k e hh => own_apart on oo (by decide) k hh e)
       try have Br8 := Br8.keep qk (fun e => own_ne on Br8 (by decide) e)
       have qd := qd.trans (qk.mono fun _ _ h => .inl h)
       refine ⟨⟨qd, B6.get (i := 1) rfl⟩, ?_⟩
       refine goH TD_ok 200 rfl ?_
       have hzz := qd.size
       refine appSE TD_ok rfl rfl rfl rfl rfl oo (Br8.sl (sz := 2) (m := 1) rfl) rfl (by show j + 1 ≤ maxLen; unfold maxLen; omega) (by show (j + 1) * 2 ≤ _; omega) (by omega) ?_
       intro A9 c9 wd oo9 qk hown9
       have B6 := B6.keep qk (fun e => own_ne oo B6 (by decide) e)
       have on4 := own_keep on4 qk (fun k e hh => own_apart oo on4 (by decide) k hh e)
       have qd := qd.trans (qk.mono fun _ _ h => .inr (.inl h))
       refine ⟨⟨qd, B6.get (i := 1) rfl⟩, ?_⟩
       refine goH TD_ok 200 rfl ?_
       have B6o := B6
       refine storeE TD_ok rfl rfl rfl rfl (v := .slice A4 (j + 1) c4) rfl rfl B6 rfl ?_
       intro we qk B6' hz6
       have B6 : Bk we g6 77 [.slice A4 (j + 1) c4, .slice AO j cO] := B6'
       have on4 := own_keep on4 qk (fun k e hh => by subst hh; exact own_ne on4 B6o (by decide) e)
       have oo9 := own_keep oo9 qk (fun k e hh => by subst hh; exact own_ne oo9 B6o (by decide) e)
       have qd := qd.trans (qk.mono fun _ _ h => .inr (.inr h))
       refine ⟨⟨qd, B6.get (i := 1) rfl⟩, ?_⟩
       refine goH TD_ok 200 rfl ?_
       have B6o := B6
       refine storeL TD_ok rfl rfl rfl rfl (v := .slice A9 (j + 1) c9) rfl rfl B6 rfl (by kernel_rfl) ?_
       intro wf qk B6' hz6
       have B6 : Bk wf g6 77 [.slice A4 (j + 1) c4, .slice A9 (j + 1) c9] := B6'
       have on4 := own_keep on4 qk (fun k e hh => by subst hh; exact own_ne on4 B6o (by decide) e)
       have oo9 := own_keep oo9 qk (fun k e hh => by subst hh; exact own_ne oo9 B6o (by decide) e)
       have qd := qd.trans (qk.mono fun _ _ h => .inr (.inr h))
       refine endH ?_
       exact round ⟨(A4, c4, A9, c9), rfl, q.step qd hw00, B20.keep qd nm2, B30.keep qd nm3, B40.keep qd nm4, B6, by rw [sN]; exact on4, by rw [sA]; exact oo9⟩
     ·refine F3.segK rfl ?_
      refine goH TD_ok 200 rfl ?_
      refine rowE TD_ok rfl rfl rfl rfl rfl rfl (cs := nV vN) rfl ?_
      intro gr3 wa hgr3 hsr3 qk Br3
      have B6 := B6.no qk
      have on := own_no on qk
      have oo := own_no oo qk
      try have Br8 := Br8.no qk
      have qd := qd.trans (qk.mono fun _ _ h => h.elim)
      refine ⟨⟨qd, B6.get (i := 1) rfl⟩, ?_⟩
      refine goH TD_ok 200 rfl ?_
      refine F3.forkK ⟨qd, B6.get (i := 1) rfl⟩ ?_ ?_
      ·refine F3.segK rfl ?_
       refine goH TD_ok 200 rfl ?_
       refine valE rfl (r_load TD_ok rfl rfl rfl (Bk.get B6 rfl)) ⟨qd, B6.get (i := 1) rfl⟩ ?_
       refine goH TD_ok 200 rfl ?_
       refine F3.forkK ⟨qd, B6.get (i := 1) rfl⟩ ?_ ?_
       ·refine F3.segF rfl ?_
        refine goH TD_ok 200 rfl ?_
        have hzz := qd.size
        refine appSE TD_ok rfl rfl rfl rfl rfl on (Br3.sl (sz := 2) (m := 1) rfl) rfl (by show j + 1 ≤ maxLen; unfold maxLen; omega) (by show (j + 1) * 16 ≤ _; omega) (by omega) ?_
        intro A4 c4 wb on4 qk hown4
        have B6 := B6.keep qk (fun e => own_ne on B6 (by decide) e)
        have oo := own_keep oo qk (fun k e hh => own_apart on oo (by decide) k hh e)
        try have Br8 := Br8.keep qk (fun e => own_ne on Br8 (by decide) e)
        have qd := qd.trans (qk.mono fun _ _ h => .inl h)
        refine ⟨⟨qd, B6.get (i := 1) rfl⟩, ?_⟩
        refine goH TD_ok 200 rfl ?_
        refine rowE TD_ok rfl rfl rfl rfl rfl rfl (cs := bV vA) rfl ?_
        intro gr8 wc hgr8 hsr8 qk Br8
        have B6 := B6.no qk
        try have on := own_no on qk
        try have on4 := own_no on4 qk
        have oo := own_no oo qk
        try have Br3 := Br3.no qk
        have qd := qd.trans (qk.mono fun _ _ h => h.elim)
        refine ⟨⟨qd, B6.get (i := 1) rfl⟩, ?_⟩
        refine goH TD_ok 200 rfl ?_
        have hzz := qd.size
        refine appSE TD_ok rfl rfl rfl rfl rfl oo (Br8.sl (sz := 2) (m := 1) rfl) rfl (by show j + 1 ≤ maxLen; unfold maxLen; omega) (by show (j + 1) * 2 ≤ _; omega) (by omega) ?_
        intro A9 c9 wd oo9 qk hown9
        have B6 := B6.keep qk (fun e => own_ne oo B6 (by decide) e)
        have on4 := own_keep on4 qk (fun k e hh => own_apart oo on4 (by decide) k hh e)
        have qd := qd.trans (qk.mono fun _ _ h => .inr (.inl h))
        refine ⟨⟨qd, B6.get (i := 1) rfl⟩, ?_⟩
        refine goH TD_ok 200 rfl ?_
        have B6o := B6
        refine storeE TD_ok rfl rfl rfl rfl (v := .slice A4 (j + 1) c4) rfl rfl B6 rfl ?_
        intro we qk B6' hz6
        have B6 : Bk we g6 77 [.slice A4 (j + 1) c4, .slice AO j cO] := B6'
        have on4 := own_keep on4 qk (fun k e hh => by subst hh; exact own_ne on4 B6o (by decide) e)
        have oo9 := own_keep oo9 qk (fun k e hh => by subst hh; exact own_ne oo9 B6o (by decide) e)
        have qd := qd.trans (qk.mono fun _ _ h => .inr (.inr h))
        refine ⟨⟨qd, B6.get (i := 1) rfl⟩, ?_⟩
        refine goH TD_ok 200 rfl ?_
        have B6o := B6
        refine storeL TD_ok rfl rfl rfl rfl (v := .slice A9 (j + 1) c9) rfl rfl B6 rfl (by kernel_rfl) ?_
        intro wf qk B6' hz6
        have B6 : Bk wf g6 77 [.slice A4 (j + 1) c4, .slice A9 (j + 1) c9] := B6'
        have on4 := own_keep on4 qk (fun k e hh => by subst hh; exact own_ne on4 B6o (by decide) e)
        have oo9 := own_keep oo9 qk (fun k e hh => by subst hh; exact own_ne oo9 B6o (by decide) e)
        have qd := qd.trans (qk.mono fun _ _ h => .inr (.inr h))
        refine endH ?_
        exact round ⟨(A4, c4, A9, c9), rfl, q.step qd hw00, B20.keep qd nm2, B30.keep qd nm3, B40.keep qd nm4, B6, by rw [sN]; exact on4, by rw [sA]; exact oo9⟩
       ·refine F3.segF rfl ?_
        refine goH TD_ok 200 rfl ?_
        refine rowE TD_ok rfl rfl rfl rfl rfl rfl (cs := bV vA) rfl ?_
        intro gr8 wc hgr8 hsr8 qk Br8
        have B6 := B6.no qk
        try have on := own_no on qk
        try have on4 := own_no on4 qk
        have oo := own_no oo qk
        try have Br3 := Br3.no qk
        have qd := qd.trans (qk.mono fun _ _ h => h.elim)
        refine ⟨⟨qd, B6.get (i := 1) rfl⟩, ?_⟩
        refine goH TD_ok 200 rfl ?_
        have hzz := qd.size
        refine appSE TD_ok rfl rfl rfl rfl rfl on (Br3.sl (sz := 2) (m := 1) rfl) rfl (by show j + 1 ≤ maxLen; unfold maxLen; omega) (by show (j + 1) * 16 ≤ _; omega) (by omega) ?_
        intro A4 c4 wb on4 qk hown4
        have B6 := B6.keep qk (fun e => own_ne on B6 (by decide) e)
        have oo := own_keep oo qk (fun k e hh => own_apart on oo (by decide) k hh e)
        try have Br8 := Br8.keep qk (fun e => own_ne on Br8 (by decide) e)
        have qd := qd.trans (qk.mono fun _ _ h => .inl h)
        refine ⟨⟨qd, B6.get (i := 1) rfl⟩, ?_⟩
        refine goH TD_ok 200 rfl ?_
        have hzz := qd.size
        refine appSE TD_ok rfl rfl rfl rfl rfl oo (Br8.sl (sz := 2) (m := 1) rfl) rfl (by show j + 1 ≤ maxLen; unfold maxLen; omega) (by show (j + 1) * 2 ≤ _; omega) (by omega) ?_
        intro A9 c9 wd oo9 qk hown9
        have B6 := B6.keep qk (fun e => own_ne oo B6 (by decide) e)
        have on4 := own_keep on4 qk (fun k e hh => own_apart oo on4 (by decide) k hh e)
        have qd := qd.trans (qk.mono fun _ _ h => .inr (.inl h))
        refine ⟨⟨qd, B6.get (i := 1) rfl⟩, ?_⟩
        refine goH TD_ok 200 rfl ?_
        have B6o := B6
        refine storeE TD_ok rfl rfl rfl rfl (v := .slice A4 (j + 1) c4) rfl rfl B6 rfl ?_
        intro we qk B6' hz6
        have B6 : Bk we g6 77 [.slice A4 (j + 1) c4, .slice AO j cO] := B6'
        have on4 := own_keep on4 qk (fun k e hh => by subst hh; exact own_ne on4 B6o (by decide) e)
        have oo9 := own_keep oo9 qk (fun k e hh => by subst hh; exact own_ne oo9 B6o (by decide) e)
        have qd := qd.trans (qk.mono fun _ _ h => .inr (.inr h))
        refine ⟨⟨qd, B6.get (i := 1) rfl⟩, ?_⟩
        refine goH TD_ok 200 rfl ?_
        have B6o := B6
        refine storeL TD_ok rfl rfl rfl rfl (v := .slice A9 (j + 1) c9) rfl rfl B6 rfl (by kernel_rfl) ?_
        intro wf qk B6' hz6
        have B6 : Bk wf g6 77 [.slice A4 (j + 1) c4, .slice A9 (j + 1) c9] := B6'
        have on4 := own_keep on4 qk (fun k e hh => by subst hh; exact own_ne on4 B6o (by decide) e)
        have oo9 := own_keep oo9 qk (fun k e hh => by subst hh; exact own_ne oo9 B6o (by decide) e)
        have qd := qd.trans (qk.mono fun _ _ h => .inr (.inr h))
        refine endH ?_
        exact round ⟨(A4, c4, A9, c9), rfl, q.step qd hw00, B20.keep qd nm2, B30.keep qd nm3, B40.keep qd nm4, B6, by rw [sN]; exact on4, by rw [sA]; exact oo9⟩
      ·refine F3.segF rfl ?_
       refine goH TD_ok 200 rfl ?_
       refine rowE TD_ok rfl rfl rfl rfl rfl rfl (cs := bV vA) rfl ?_
       intro gr8 wc hgr8 hsr8 qk Br8
       have B6 := B6.no qk
       try have on := own_no on qk
       try have on4 := own_no on4 qk
       have oo := own_no oo qk
       try have Br3 := Br3.no qk
       have qd := qd.trans (qk.mono fun _ _ h => h.elim)
       refine ⟨⟨qd, B6.get (i := 1) rfl⟩, ?_⟩
       refine goH TD_ok 200 rfl ?_
       refine valE rfl (r_load TD_ok rfl rfl rfl (Bk.get B6 rfl)) ⟨qd, B6.get (i := 1) rfl⟩ ?_
       refine goH TD_ok 200 rfl ?_
       have hzz := qd.size
       refine appSE TD_ok rfl rfl rfl rfl rfl on (Br3.sl (sz := 2) (m := 1) rfl) rfl (by show j + 1 ≤ maxLen; unfold maxLen; omega) (by show (j + 1) * 16 ≤ _; omega) (by omega) ?_
       intro A4 c4 wb on4 qk hown4
       have B6 := B6.keep qk (fun e => own_ne on B6 (by decide) e)
       have oo := own_keep oo qk (fun k e hh => own_apart on oo (by decide) k hh e)
       try have Br8 := Br8.keep qk (fun e => own_ne on Br8 (by decide) e)
       have qd := qd.trans (qk.mono fun _ _ h => .inl h)
       refine ⟨⟨qd, B6.get (i := 1) rfl⟩, ?_⟩
       refine goH TD_ok 200 rfl ?_
       have hzz := qd.size
       refine appSE TD_ok rfl rfl rfl rfl rfl oo (Br8.sl (sz := 2) (m := 1) rfl) rfl (by show j + 1 ≤ maxLen; unfold maxLen; omega) (by show (j + 1) * 2 ≤ _; omega) (by omega) ?_
       intro A9 c9 wd oo9 qk hown9
       have B6 := B6.keep qk (fun e => own_ne oo B6 (by decide) e)
       have on4 := own_keep on4 qk (fun k e hh => own_apart oo on4 (by decide) k hh e)
       have qd := qd.trans (qk.mono fun _ _ h => .inr (.inl h))
       refine ⟨⟨qd, B6.get (i := 1) rfl⟩, ?_⟩
       refine goH TD_ok 200 rfl ?_
       have B6o := B6
       refine storeE TD_ok rfl rfl rfl rfl (v := .slice A4 (j + 1) c4) rfl rfl B6 rfl ?_
       intro we qk B6' hz6
       have B6 : Bk we g6 77 [.slice A4 (j + 1) c4, .slice AO j cO] := B6'
       have on4 := own_keep on4 qk (fun k e hh => by subst hh; exact own_ne on4 B6o (by decide) e)
       have oo9 := own_keep oo9 qk (fun k e hh => by subst hh; exact own_ne oo9 B6o (by decide) e)
       have qd := qd.trans (qk.mono fun _ _ h => .inr (.inr h))
       refine ⟨⟨qd, B6.get (i := 1) rfl⟩, ?_⟩
       refine goH TD_ok 200 rfl ?_
       have B6o := B6
       refine storeL TD_ok rfl rfl rfl rfl (v := .slice A9 (j + 1) c9) rfl rfl B6 rfl (by kernel_rfl) ?_
       intro wf qk B6' hz6
       have B6 : Bk wf g6 77 [.slice A4 (j + 1) c4, .slice A9 (j + 1) c9] := B6'
       have on4 := own_keep on4 qk (fun k e hh => by subst hh; exact own_ne on4 B6o (by decide) e)
       have oo9 := own_keep oo9 qk (fun k e hh => by subst hh; exact own_ne oo9 B6o (by decide) e)
       have qd := qd.trans (qk.mono fun _ _ h => .inr (.inr h))
       refine endH ?_
       exact round ⟨(A4, c4, A9, c9), rfl, q.step qd hw00, B20.keep qd nm2, B30.keep qd nm3, B40.keep qd nm4, B6, by rw [sN]; exact on4, by rw [sA]; exact oo9⟩
     ·refine F3.segK rfl ?_
      refine goH TD_ok 200 rfl ?_
      refine rowE TD_ok rfl rfl rfl rfl rfl rfl (cs := bV vA) rfl ?_
      intro gr8 wc hgr8 hsr8 qk Br8
      have B6 := B6.no qk
      try have on := own_no on qk
      try have on4 := own_no on4 qk
      have oo := own_no oo qk
      try have Br3 := Br3.no qk
      have qd := qd.trans (qk.mono fun _ _ h => h.elim)
      refine ⟨⟨qd, B6.get (i := 1) rfl⟩, ?_⟩
      refine goH TD_ok 200 rfl ?_
      refine F3.forkK ⟨qd, B6.get (i := 1) rfl⟩ ?_ ?_
      ·refine F3.segF rfl ?_
       refine goH TD_ok 200 rfl ?_
       refine valE rfl (r_load TD_ok rfl rfl rfl (Bk.get B6 rfl)) ⟨qd, B6.get (i := 1) rfl⟩ ?_
       refine goH TD_ok 200 rfl ?_
       refine rowE TD_ok rfl rfl rfl rfl rfl rfl (cs := nV vN) rfl ?_
       intro gr3 wa hgr3 hsr3 qk Br3
       have B6 := B6.no qk
       have on := own_no on qk
       have oo := own_no oo qk
       try have Br8 := Br8.no qk
       have qd := qd.trans (qk.mono fun _ _ h => h.elim)
       refine ⟨⟨qd, B6.get (i := 1) rfl⟩, ?_⟩
       refine goH TD_ok 200 rfl ?_
       have hzz := qd.size
       refine appSE TD_ok rfl rfl rfl rfl rfl on (Br3.sl (sz := 2) (m := 1) rfl) rfl (by show j + 1 ≤ maxLen; unfold maxLen; omega) (by show (j + 1) * 16 ≤ _; omega) (by omega) ?_
       intro A4 c4 wb on4 qk hown4
       have B6 := B6.keep qk (fun e => own_ne on B6 (by decide) e)
       have oo := own_keep oo qk (fun k e hh => own_apart on oo (by decide) k hh e)
       try have Br8 := Br8.keep qk (fun e => own_ne on Br8 (by decide) e)
       have qd := qd.trans (qk.mono fun _ _ h => .inl h)
       refine ⟨⟨qd, B6.get (i := 1) rfl⟩, ?_⟩
       refine goH TD_ok 200 rfl ?_
       have hzz := qd.size
       refine appSE TD_ok rfl rfl rfl rfl rfl oo (Br8.sl (sz := 2) (m := 1) rfl) rfl (by show j + 1 ≤ maxLen; unfold maxLen; omega) (by show (j + 1) * 2 ≤ _; omega) (by omega) ?_
       intro A9 c9 wd oo9 qk hown9
       have B6 := B6.keep qk (fun e => own_ne oo B6 (by decide) e)
       have on4 := own_keep on4 qk (fun k e hh => own_apart oo on4 (by decide) k hh e)
       have qd := qd.trans (qk.mono fun _ _ h => .inr (.inl h))
       refine ⟨⟨qd, B6.get (i := 1) rfl⟩, ?_⟩
       refine goH TD_ok 200 rfl ?_
       have B6o := B6
       refine storeE TD_ok rfl rfl rfl rfl (v := .slice A4 (j + 1) c4) rfl rfl B6 rfl ?_
       intro we qk B6' hz6
       have B6 : Bk we g6 77 [.slice A4 (j + 1) c4, .slice AO j cO] := B6'
       have on4 := own_keep on4 qk (fun k e hh => by subst hh; exact own_ne on4 B6o (by decide) e)
       have oo9 := own_keep oo9 qk (fun k e hh => by subst hh; exact own_ne oo9 B6o (by decide) e)
       have qd := qd.trans (qk.mono fun _ _ h => .inr (.inr h))
       refine ⟨⟨qd, B6.get (i := 1) rfl⟩, ?_⟩
       refine goH TD_ok 200 rfl ?_
       have B6o := B6
       refine storeL TD_ok rfl rfl rfl rfl (v := .slice A9 (j + 1) c9) rfl rfl B6 rfl (by kernel_rfl) ?_
       intro wf qk B6' hz6
       have B6 : Bk wf g6 77 [.slice A4 (j + 1) c4, .slice A9 (j + 1) c9] := B6'
       have on4 := own_keep on4 qk (fun k e hh => by subst hh; exact own_ne on4 B6o (by decide) e)
       have oo9 := own_keep oo9 qk (fun k e hh => by subst hh; exact own_ne oo9 B6o (by decide) e)
       have qd := qd.trans (qk.mono fun _ _ h => .inr (.inr h))
       refine endH ?_
       exact round ⟨(A4, c4, A9, c9), rfl, q.step qd hw00, B20.keep qd nm2, B30.keep qd nm3, B40.keep qd nm4, B6, by rw [sN]; exact on4, by rw [sA]; exact oo9⟩
      ·refine F3.segF rfl ?_
       refine goH TD_ok 200 rfl ?_
       refine rowE TD_ok rfl rfl rfl rfl rfl rfl (cs := nV vN) rfl ?_
       intro gr3 wa hgr3 hsr3 qk Br3
       have B6 := B6.no qk
       have on := own_no on qk
       have oo := own_no oo qk
       try have Br8 := Br8.no qk
       have qd := qd.trans (qk.mono fun _ _ h => h.elim)
       refine ⟨⟨qd, B6.get (i := 1) rfl⟩, ?_⟩
       refine goH TD_ok 200 rfl ?_
       refine valE rfl (r_load TD_ok rfl rfl rfl (Bk.get B6 rfl)) ⟨qd, B6.get (i := 1) rfl⟩ ?_
       refine goH TD_ok 200 rfl ?_
       have hzz := qd.size
       refine appSE TD_ok rfl rfl rfl rfl rfl on (Br3.sl (sz := 2) (m := 1) rfl) rfl (by show j + 1 ≤ maxLen; unfold maxLen; omega) (by show (j + 1) * 16 ≤ _; omega) (by omega) ?_
       intro A4 c4 wb on4 qk hown4
       have B6 := B6.keep qk (fun e => own_ne on B6 (by decide) e)
       have oo := own_keep oo qk (fun k e hh => own_apart on oo (by decide) k hh e)
       try have Br8 := Br8.keep qk (fun e => own_ne on Br8 (by decide) e)
       have qd := qd.trans (qk.mono fun _ _ h => .inl h)
       refine ⟨⟨qd, B6.get (i := 1) rfl⟩, ?_⟩
       refine goH TD_ok 200 rfl ?_
       have hzz := qd.size
       refine appSE TD_ok rfl rfl rfl rfl rfl oo (Br8.sl (sz := 2) (m := 1) rfl) rfl (by show j + 1 ≤ maxLen; unfold maxLen; omega) (by show (j + 1) * 2 ≤ _; omega) (by omega) ?_
       intro A9 c9 wd oo9 qk hown9
       have B6 := B6.keep qk (fun e => own_ne oo B6 (by decide) e)
       have on4 := own_keep on4 qk (fun k e hh => own_apart oo on4 (by decide) k hh e)
       have qd := qd.trans (qk.mono fun _ _ h => .inr (.inl h))
       refine ⟨⟨qd, B6.get (i := 1) rfl⟩, ?_⟩
       refine goH TD_ok 200 rfl ?_
       have B6o := B6
       refine storeE TD_ok rfl rfl rfl rfl (v := .slice A4 (j + 1) c4) rfl rfl B6 rfl ?_
       intro we qk B6' hz6
       have B6 : Bk we g6 77 [.slice A4 (j + 1) c4, .slice AO j cO] := B6'
       have on4 := own_keep on4 qk (fun k e hh => by subst hh; exact own_ne on4 B6o (by decide) e)
       have oo9 := own_keep oo9 qk (fun k e hh => by subst hh; exact own_ne oo9 B6o (by decide) e)
       have qd := qd.trans (qk.mono fun _ _ h => .inr (.inr h))
       refine ⟨⟨qd, B6.get (i := 1) rfl⟩, ?_⟩
       refine goH TD_ok 200 rfl ?_
       have B6o := B6
       refine storeL TD_ok rfl rfl rfl rfl (v := .slice A9 (j + 1) c9) rfl rfl B6 rfl (by kernel_rfl) ?_
       intro wf qk B6' hz6
       have B6 : Bk wf g6 77 [.slice A4 (j + 1) c4, .slice A9 (j + 1) c9] := B6'
       have on4 := own_keep on4 qk (fun k e hh => by subst hh; exact own_ne on4 B6o (by decide) e)
       have oo9 := own_keep oo9 qk (fun k e hh => by subst hh; exact own_ne oo9 B6o (by decide) e)
       have qd := qd.trans (qk.mono fun _ _ h => .inr (.inr h))
       refine endH ?_
       exact round ⟨(A4, c4, A9, c9), rfl, q.step qd hw00, B20.keep qd nm2, B30.keep qd nm3, B40.keep qd nm4, B6, by rw [sN]; exact on4, by rw [sA]; exact oo9⟩
    rintro ⟨A4, c4, A9, c9⟩ τ w ⟨q, B2, B3, B4, B6, on, oo⟩
    simp only at B6 on oo
    refine go TD_ok 200 rfl ?_
    rw [ek]
    refine round ⟨(k + 1, A4, c4, A9, c9), rfl, ⟨by simp only; omega, q, B2, B3, B4, ?_, ?_, ?_⟩, by simp only; omega⟩
    ·simp only; rw [hjk]; exact B6
    ·simp only; rw [hjk]; exact on
    ·simp only; rw [hjk]; exact oo
  ·obtain rfl : k = n := by have : ¬ (k : Int) < (n : Int) := hlt; omega
   refine go TD_ok 200 rfl ?_
   rw [ei]
   have e : (i + 1) * k = i * k + k := Nat.succ_mul _ _
   refine round ⟨(i + 1, AN, cN, AO, cO), rfl, ⟨by simp only; omega, q, B2, B3, B4, ?_, ?_, ?_⟩, by simp only; omega⟩
   ·simp only; rw [e]; exact B6
   ·simp only; rw [e]; exact on
   ·simp only; rw [e]; exact oo
 ·obtain rfl : i = p := by have : ¬ (i : Int) < (p : Int) := hlt; omega
  have epn : (scP m1).nx.length * (scP m2).nx.length = i * n := by rw [← ha, ← hbb, ← han, ← hbn]
  have eprod : prodP (scP m1) (scP m2) = smallP (prRaw a b (i * n)) := by unfold prodP; rw [epn, ← ha, ← hbb]
  rw [epn, ← ha, ← hbb] at hok hpl1 hpl2
  rw [eprod]
  obtain ⟨k1, k2, _, k4⟩ := small_ok hok
  obtain ⟨j, hj⟩ : ∃ j, j = i * n := ⟨_, rfl⟩
  rw [← hj] at hok hpl1 hpl2 k1 k2 k4 on oo B6 hpn ⊢
  have HM : ScM w w.heap.size ⟨⟨AN, (prRaw a b j).nx, cN⟩, ⟨AO, (prRaw a b j).al, cO⟩⟩ := ⟨by show Sl w _ 2 AN (prRaw a b j).nx.length _; rw [hpl1]; exact own_sl on, by show Sl w _ 2 AO (prRaw a b j).al.length _; rw [hpl2]; exact own_sl oo, by show (prRaw a b j).nx.length ≤ _; omega, by show (prRaw a b j).al.length ≤ _; omega⟩
  have hL : scL ⟨⟨AN, (prRaw a b j).nx, cN⟩, ⟨AO, (prRaw a b j).al, cO⟩⟩ = [.slice AN j cN, .slice AO j cO] := by show [Value.slice AN (prRaw a b j).nx.length cN, Value.slice AO (prRaw a b j).al.length cO] = _; rw [hpl1, hpl2]
  have X := smallest_any _ _ _ HM hok
  rw [hL] at X
  have hsc : scP ⟨⟨AN, (prRaw a b j).nx, cN⟩, ⟨AO, (prRaw a b j).al, cO⟩⟩ = prRaw a b j := rfl
  rw [hsc, k4] at X
  have l4 := B4.lt
  have lq := q.size
  refine go TD_ok 200 rfl ?_
  refine ldA TD_ok rfl rfl rfl rfl rfl B6.all ?_
  refine go TD_ok 200 rfl ?_
  refine call rfl rfl rfl (ok _ (by decide) rfl) X ?_
  clear X
  rintro v w6 ⟨gx, gy, rfl, qk, ge1, ge2, Bx, By⟩
  have B4 := B4.no qk
  have q := q.trans qk
  have lx := Bx.lt
  have ly := By.lt
  refine go TD_ok 200 rfl ?_
  refine nw rfl rfl (z := .agg #[.slice none 0 0, .slice none 0 0]) (by kernel_rfl) (cs := [.slice none 0 0, .slice none 0 0]) rfl ?_
  intro g12 w7 hg12 hs12 qk B12
  have B4 := B4.no qk
  have Bx := Bx.no qk
  have By := By.no qk
  have q := q.trans qk
  refine go TD_ok 200 rfl ?_
  refine stA TD_ok rfl rfl rfl rfl (vs := [.slice (some ⟨gx, 0, none⟩) (smallP (prRaw a b j)).nx.length (smallP (prRaw a b j)).nx.length, .slice (some ⟨gy, 0, none⟩) (smallP (prRaw a b j)).nx.length (smallP (prRaw a b j)).nx.length]) rfl rfl rfl B12 rfl ?_
  intro w8 qk B12 hz12
  have B12 : Bk w8 g12 77 [.slice (some ⟨gx, 0, none⟩) (smallP (prRaw a b j)).nx.length (smallP (prRaw a b j)).nx.length, .slice (some ⟨gy, 0, none⟩) (smallP (prRaw a b j)).nx.length (smallP (prRaw a b j)).nx.length] := B12
  have Bx := Bx.keep qk (by omega)
  have By := By.keep qk (by omega)
  have B4 := B4.keep qk (by omega)
  have q := q.step qk (fun k hk e => by omega)
  refine go TD_ok 200 rfl ?_
  repeat ((first | refine ldA TD_ok rfl rfl rfl rfl rfl (Bk.all B4) ?_ | refine ldA TD_ok rfl rfl rfl rfl rfl (Bk.all B12) ?_ | refine ld TD_ok rfl rfl rfl rfl (Bk.get B4 rfl) ?_ | refine ld TD_ok rfl rfl rfl rfl (Bk.get B12 rfl) ?_ | refine gT rfl rfl rfl rfl ?_ | refine gF rfl rfl rfl rfl ?_ | refine condT rfl rfl ?_ | refine condF rfl rfl ?_); refine go TD_ok 200 rfl ?_)
  by_cases hlong : 128 < ((smallP (prRaw a b j)).nx.length : Int)
  ·rw [decide_eq_true hlong]
   refine go TD_ok 200 rfl ?_
   repeat ((first | refine ldA TD_ok rfl rfl rfl rfl rfl (Bk.all B4) ?_ | refine ldA TD_ok rfl rfl rfl rfl rfl (Bk.all B12) ?_ | refine ld TD_ok rfl rfl rfl rfl (Bk.get B4 rfl) ?_ | refine ld TD_ok rfl rfl rfl rfl (Bk.get B12 rfl) ?_ | refine gT rfl rfl rfl rfl ?_ | refine gF rfl rfl rfl rfl ?_ | refine condT rfl rfl ?_ | refine condF rfl rfl ?_); refine go TD_ok 200 rfl ?_)
   refine stA TD_ok rfl rfl rfl rfl (vs := [.slice none 0 0, .slice none 0 0]) rfl rfl rfl B4 rfl ?_
   intro w2 qk B4 hz
   have B4 : Bk w2 g4 77 [.slice none 0 0, .slice none 0 0] := B4
   refine go TD_ok 200 rfl ?_
   exact ret (retR2 Try.results48 (resA TD_ok rfl rfl rfl B4.all) (s := .tmp 5) (x := I 3) rfl ⟨q.step qk (fun k hk e => by omega), .inr (.inl ⟨⟨ha8, hb8⟩, by omega, rfl⟩)⟩)
  rw [decide_eq_false hlong]
  refine go TD_ok 200 rfl ?_
  repeat ((first | refine ldA TD_ok rfl rfl rfl rfl rfl (Bk.all B4) ?_ | refine ldA TD_ok rfl rfl rfl rfl rfl (Bk.all B12) ?_ | refine ld TD_ok rfl rfl rfl rfl (Bk.get B4 rfl) ?_ | refine ld TD_ok rfl rfl rfl rfl (Bk.get B12 rfl) ?_ | refine gT rfl rfl rfl rfl ?_ | refine gF rfl rfl rfl rfl ?_ | refine condT rfl rfl ?_ | refine condF rfl rfl ?_); refine go TD_ok 200 rfl ?_)
  refine stA TD_ok rfl rfl rfl rfl (vs := [.slice (some ⟨gx, 0, none⟩) (smallP (prRaw a b j)).nx.length (smallP (prRaw a b j)).nx.length, .slice (some ⟨gy, 0, none⟩) (smallP (prRaw a b j)).nx.length (smallP (prRaw a b j)).nx.length]) rfl rfl rfl B4 rfl ?_
  intro w9 qk B4 hz4
  have B4 : Bk w9 g4 77 [.slice (some ⟨gx, 0, none⟩) (smallP (prRaw a b j)).nx.length (smallP (prRaw a b j)).nx.length, .slice (some ⟨gy, 0, none⟩) (smallP (prRaw a b j)).nx.length (smallP (prRaw a b j)).nx.length] := B4
  have Bx := Bx.keep qk (by omega)
  have By := By.keep qk (by omega)
  refine go TD_ok 200 rfl ?_
  exact ret (retR2 Try.results48 (resA TD_ok rfl rfl rfl B4.all) (s := .tmp 5) (x := I 0) rfl ⟨q.step qk (fun k hk e => by omega), .inr (.inr ⟨⟨ha8, hb8⟩, by omega, _, rfl, ⟨gx, gy, rfl, by omega, by omega, Bx, By⟩⟩)⟩)
end Go.Proofs.Yteenhfnamjbaiaa
