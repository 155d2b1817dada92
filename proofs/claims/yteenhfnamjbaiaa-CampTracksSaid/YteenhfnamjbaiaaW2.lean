/- The contracts of scanners: as defined in the specification; the least scanner of the program; how many states. -/
import Derived.Test.YteenhfnamjbaiaaW1
import Derived.Test.YteenhfnamjbaiaaU4
namespace Go.Proofs.Yteenhfnamjbaiaa
open Go.Ev Go.Proofs
open Go.Camp (Sc ScOk Sc8 nxA alA nxC alC runS desS smallP smE small_ok)
attribute [local irreducible] At AtH
set_option maxRecDepth 20000 in
set_option maxHeartbeats 8000000 in
theorem rScanner_any (m : Scm) (B : Nat) (w0 : World) (H : ScM w0 B m) : Ret Try.prog 43 [.agg (scL m).toArray] w0 fun v w' => (∃ b, v = .bool b ∧ (b = true ↔ Sc8 (scP m))) ∧ Chg No w0 w' := by
 have ln := H.ln
 have lo := H.lo
 refine enter Try.func43 rfl Try.ntmps43 rfl ?_
 refine go TD_ok 200 rfl ?_
 refine bx rfl rfl rfl (cs := scL m) rfl ?_
 intro g1 u1 hg1 hs1 q1 B1
 have q := q1
 refine go TD_ok 200 rfl ?_
 repeat ((first | refine ldA TD_ok rfl rfl rfl rfl rfl (Bk.all B1) ?_ | refine ld TD_ok rfl rfl rfl rfl (Bk.get B1 rfl) ?_ | refine gT rfl rfl rfl rfl ?_ | refine gF rfl rfl rfl rfl ?_ | refine condT rfl rfl ?_ | refine condF rfl rfl ?_); refine go TD_ok 200 rfl ?_)
 refine call rfl rfl rfl (ok _ (by decide) rfl) (rIn_any (m.N.l.length : Int) 1 128 _) ?_
 rintro x w ⟨rfl, rfl⟩
 by_cases h1 : 1 ≤ (m.N.l.length : Int) ∧ (m.N.l.length : Int) ≤ 128
 case neg =>
  rw [decide_eq_false h1]
  refine go TD_ok 200 rfl ?_
  repeat ((first | refine ldA TD_ok rfl rfl rfl rfl rfl (Bk.all B1) ?_ | refine ld TD_ok rfl rfl rfl rfl (Bk.get B1 rfl) ?_ | refine gT rfl rfl rfl rfl ?_ | refine gF rfl rfl rfl rfl ?_ | refine condT rfl rfl ?_ | refine condF rfl rfl ?_); refine go TD_ok 200 rfl ?_)
  exact ret (ret1 (v := .bool false) Try.results43 rfl ⟨⟨false, rfl, fun e => (by cases e), fun h => absurd ⟨by have : 1 ≤ m.N.l.length := h.1.n1; omega, by have : m.N.l.length ≤ 128 := h.2; omega⟩ h1⟩, q⟩)
 rw [decide_eq_true h1]
 refine go TD_ok 200 rfl ?_
 repeat ((first | refine ldA TD_ok rfl rfl rfl rfl rfl (Bk.all B1) ?_ | refine ld TD_ok rfl rfl rfl rfl (Bk.get B1 rfl) ?_ | refine gT rfl rfl rfl rfl ?_ | refine gF rfl rfl rfl rfl ?_ | refine condT rfl rfl ?_ | refine condF rfl rfl ?_); refine go TD_ok 200 rfl ?_)
 by_cases h2 : m.O.l.length = m.N.l.length
 case neg =>
  have e : ((m.O.l.length : Int) != (m.N.l.length : Int)) = true := by simp; omega
  rw [e]
  refine go TD_ok 200 rfl ?_
  repeat ((first | refine ldA TD_ok rfl rfl rfl rfl rfl (Bk.all B1) ?_ | refine ld TD_ok rfl rfl rfl rfl (Bk.get B1 rfl) ?_ | refine gT rfl rfl rfl rfl ?_ | refine gF rfl rfl rfl rfl ?_ | refine condT rfl rfl ?_ | refine condF rfl rfl ?_); refine go TD_ok 200 rfl ?_)
  exact ret (ret1 (v := .bool false) Try.results43 rfl ⟨⟨false, rfl, fun e => (by cases e), fun h => absurd h.1.al h2⟩, q⟩)
 have e : ((m.O.l.length : Int) != (m.N.l.length : Int)) = false := by simp [h2]
 rw [e]
 refine go TD_ok 200 rfl ?_
 repeat ((first | refine ldA TD_ok rfl rfl rfl rfl rfl (Bk.all B1) ?_ | refine ld TD_ok rfl rfl rfl rfl (Bk.get B1 rfl) ?_ | refine gT rfl rfl rfl rfl ?_ | refine gF rfl rfl rfl rfl ?_ | refine condT rfl rfl ?_ | refine condF rfl rfl ?_); refine go TD_ok 200 rfl ?_)
 refine loop [1, 3, 4] (fun j : Nat => [.pointer (some ⟨g1, 0, none⟩), .int .i64 (m.N.l.length : Int), .int .i64 (j : Int)])
  (fun j w' => j ≤ m.N.l.length ∧ Chg No w0 w' ∧ Bk w' g1 77 (scL m) ∧ ∀ i p, i < j → m.N.l[i]? = some p → NxOk m.N.l.length p) (fun j => m.N.l.length - j) 0 (fun _ => rfl) rfl ⟨Nat.zero_le _, q, B1, fun i s h => absurd h (Nat.not_lt_zero _)⟩ ?_
 rintro j τ w ⟨hj, q, B1, hm⟩
 have H1 := H.no q
 refine go TD_ok 200 rfl ?_
 repeat ((first | refine ldA TD_ok rfl rfl rfl rfl rfl (Bk.all B1) ?_ | refine ld TD_ok rfl rfl rfl rfl (Bk.get B1 rfl) ?_ | refine gT rfl rfl rfl rfl ?_ | refine gF rfl rfl rfl rfl ?_ | refine condT rfl rfl ?_ | refine condF rfl rfl ?_); refine go TD_ok 200 rfl ?_)
 refine condD rfl (fun hlt => ?_) (fun hlt => ?_)
 ·have hlt : j < m.N.l.length := by omega
  obtain ⟨p, hp⟩ := getA_of hlt
  obtain ⟨b1, o1, hA1, hb1, hc1⟩ := Sl.el H1.n nV_len hp
  have hmp : p ∈ (scP m).nx := List.mem_of_getElem? hp
  refine go TD_ok 200 rfl ?_
  repeat ((first | refine ldA TD_ok rfl rfl rfl rfl rfl (Bk.all B1) ?_ | refine ld TD_ok rfl rfl rfl rfl (Bk.get B1 rfl) ?_ | refine gT rfl rfl rfl rfl ?_ | refine gF rfl rfl rfl rfl ?_ | refine condT rfl rfl ?_ | refine condF rfl rfl ?_); refine go TD_ok 200 rfl ?_)
  rw [hA1]
  refine idx TD_ok rfl rfl rfl rfl rfl j rfl hlt ?_
  refine go TD_ok 200 rfl ?_
  refine idxA TD_ok rfl rfl rfl rfl rfl 0 rfl (by decide) ?_
  refine go TD_ok 200 rfl ?_
  refine ld TD_ok rfl rfl rfl rfl (hc1 (0 * 1) _ (by rfl)) ?_
  refine go TD_ok 200 rfl ?_
  rw [← hA1]
  refine go TD_ok 200 rfl ?_
  repeat ((first | refine ldA TD_ok rfl rfl rfl rfl rfl (Bk.all B1) ?_ | refine ld TD_ok rfl rfl rfl rfl (Bk.get B1 rfl) ?_ | refine gT rfl rfl rfl rfl ?_ | refine gF rfl rfl rfl rfl ?_ | refine condT rfl rfl ?_ | refine condF rfl rfl ?_); refine go TD_ok 200 rfl ?_)
  rw [w64_id (x := (m.N.l.length : Int) - 1) (by omega) (by omega)]
  refine call rfl rfl rfl (ok _ (by decide) rfl) (rIn_any p.1 0 ((m.N.l.length : Int) - 1) _) ?_
  rintro x w ⟨rfl, rfl⟩
  by_cases g1 : 0 ≤ p.1 ∧ p.1 ≤ (m.N.l.length : Int) - 1
  case neg =>
   rw [decide_eq_false g1]
   refine go TD_ok 200 rfl ?_
   repeat ((first | refine ldA TD_ok rfl rfl rfl rfl rfl (Bk.all B1) ?_ | refine ld TD_ok rfl rfl rfl rfl (Bk.get B1 rfl) ?_ | refine gT rfl rfl rfl rfl ?_ | refine gF rfl rfl rfl rfl ?_ | refine condT rfl rfl ?_ | refine condF rfl rfl ?_); refine go TD_ok 200 rfl ?_)
   exact ret (ret1 (v := .bool false) Try.results43 rfl ⟨⟨false, rfl, fun e => (by cases e), fun h => absurd (h.1.nx p hmp).1 g1⟩, q⟩)
  rw [decide_eq_true g1]
  refine go TD_ok 200 rfl ?_
  repeat ((first | refine ldA TD_ok rfl rfl rfl rfl rfl (Bk.all B1) ?_ | refine ld TD_ok rfl rfl rfl rfl (Bk.get B1 rfl) ?_ | refine gT rfl rfl rfl rfl ?_ | refine gF rfl rfl rfl rfl ?_ | refine condT rfl rfl ?_ | refine condF rfl rfl ?_); refine go TD_ok 200 rfl ?_)
  rw [hA1]
  refine idx TD_ok rfl rfl rfl rfl rfl j rfl hlt ?_
  refine go TD_ok 200 rfl ?_
  refine idxA TD_ok rfl rfl rfl rfl rfl 1 rfl (by decide) ?_
  refine go TD_ok 200 rfl ?_
  refine ld TD_ok rfl rfl rfl rfl (hc1 (1 * 1) _ (by rfl)) ?_
  refine go TD_ok 200 rfl ?_
  rw [← hA1]
  refine go TD_ok 200 rfl ?_
  repeat ((first | refine ldA TD_ok rfl rfl rfl rfl rfl (Bk.all B1) ?_ | refine ld TD_ok rfl rfl rfl rfl (Bk.get B1 rfl) ?_ | refine gT rfl rfl rfl rfl ?_ | refine gF rfl rfl rfl rfl ?_ | refine condT rfl rfl ?_ | refine condF rfl rfl ?_); refine go TD_ok 200 rfl ?_)
  rw [w64_id (x := (m.N.l.length : Int) - 1) (by omega) (by omega)]
  refine call rfl rfl rfl (ok _ (by decide) rfl) (rIn_any p.2 0 ((m.N.l.length : Int) - 1) _) ?_
  rintro x w ⟨rfl, rfl⟩
  by_cases g2 : 0 ≤ p.2 ∧ p.2 ≤ (m.N.l.length : Int) - 1
  case neg =>
   rw [decide_eq_false g2]
   refine go TD_ok 200 rfl ?_
   repeat ((first | refine ldA TD_ok rfl rfl rfl rfl rfl (Bk.all B1) ?_ | refine ld TD_ok rfl rfl rfl rfl (Bk.get B1 rfl) ?_ | refine gT rfl rfl rfl rfl ?_ | refine gF rfl rfl rfl rfl ?_ | refine condT rfl rfl ?_ | refine condF rfl rfl ?_); refine go TD_ok 200 rfl ?_)
   exact ret (ret1 (v := .bool false) Try.results43 rfl ⟨⟨false, rfl, fun e => (by cases e), fun h => absurd (h.1.nx p hmp).2 g2⟩, q⟩)
  rw [decide_eq_true g2]
  refine go TD_ok 200 rfl ?_
  repeat ((first | refine ldA TD_ok rfl rfl rfl rfl rfl (Bk.all B1) ?_ | refine ld TD_ok rfl rfl rfl rfl (Bk.get B1 rfl) ?_ | refine gT rfl rfl rfl rfl ?_ | refine gF rfl rfl rfl rfl ?_ | refine condT rfl rfl ?_ | refine condF rfl rfl ?_); refine go TD_ok 200 rfl ?_)
  rw [w64_id (x := (j : Int) + 1) (by omega) (by omega)]
  refine round ⟨j + 1, rfl, ⟨by omega, q, B1, fun i p' hi hp' => ?_⟩, by omega⟩
  rcases Nat.lt_or_ge i j with h' | h'
  ·exact hm i p' h' hp'
  ·obtain rfl : i = j := by omega
   rw [hp] at hp'; cases hp'
   exact ⟨g1, g2⟩
 obtain rfl : j = m.N.l.length := by omega
 have hall : ∀ p ∈ m.N.l, NxOk m.N.l.length p := fun p hp => by
  obtain ⟨i, hi, rfl⟩ := List.getElem_of_mem hp
  exact hm i _ hi (List.getElem?_eq_getElem hi)
 refine go TD_ok 200 rfl ?_
 repeat ((first | refine ldA TD_ok rfl rfl rfl rfl rfl (Bk.all B1) ?_ | refine ld TD_ok rfl rfl rfl rfl (Bk.get B1 rfl) ?_ | refine gT rfl rfl rfl rfl ?_ | refine gF rfl rfl rfl rfl ?_ | refine condT rfl rfl ?_ | refine condF rfl rfl ?_); refine go TD_ok 200 rfl ?_)
 exact ret (ret1 (v := .bool true) Try.results43 rfl ⟨⟨true, rfl, fun _ => ⟨⟨by show 1 ≤ m.N.l.length; omega, by show m.N.l.length ≤ 16384; omega, h2, hall⟩, by show m.N.l.length ≤ 128; omega⟩, fun _ => rfl⟩, q⟩)
/-- the least scanner that is returned, where it lies -/
structure SmV (w0 w' : World) (s : Sc) (v : Value) : Prop where
 ex : ∃ gx go : Nat, v = .agg #[.slice (some ⟨gx, 0, none⟩) s.nx.length s.nx.length, .slice (some ⟨go, 0, none⟩) s.nx.length s.nx.length] ∧ w0.heap.size ≤ gx ∧ w0.heap.size ≤ go ∧ Bk w' gx 124 (s.nx.flatMap nV) ∧ Bk w' go 125 (s.al.flatMap bV)
/-- as a scanner in memory -/
theorem SmV.m {w0 w' : World} {s : Sc} {v : Value} (h : SmV w0 w' s v) (hs : s.al.length = s.nx.length) (hl : s.nx.length ≤ 16384) : ∃ m : Scm, scP m = s ∧ v = .agg (scL m).toArray ∧ ScM w' w'.heap.size m := by
 obtain ⟨gx, go, rfl, _, _, Bx, Bo⟩ := h.ex
 refine ⟨⟨⟨some ⟨gx, 0, none⟩, s.nx, s.nx.length⟩, ⟨some ⟨go, 0, none⟩, s.al, s.nx.length⟩⟩, rfl, ?_, ?_, ?_, ?_, ?_⟩
 ·show Value.agg _ = Value.agg #[Value.slice (some ⟨gx, 0, none⟩) s.nx.length s.nx.length, Value.slice (some ⟨go, 0, none⟩) s.al.length s.nx.length]
  rw [hs]
 ·exact Bx.sl (flat_len nV_len _)
 ·exact Bo.sl (flat_len bV_len _)
 ·show s.nx.length ≤ _; omega
 ·show s.al.length ≤ _; omega
set_option maxRecDepth 20000 in
set_option maxHeartbeats 8000000 in
theorem Smallest_any (m : Scm) (B : Nat) (w0 : World) (H : ScM w0 B m) : Ret Try.prog 42 [.agg (scL m).toArray] w0 fun v w' => Chg No w0 w' ∧
  ((¬ Sc8 (scP m) ∧ v = .tuple #[.agg #[.slice none 0 0, .slice none 0 0], I 2]) ∨ (Sc8 (scP m) ∧ ∃ x, v = .tuple #[x, I 0] ∧ SmV w0 w' (smallP (scP m)) x)) := by
 refine enter Try.func42 rfl Try.ntmps42 rfl ?_
 refine go TD_ok 200 rfl ?_
 refine bx rfl rfl rfl (cs := scL m) rfl ?_
 intro g1 u1 hg1 hs1 q1 B1
 have q := q1
 refine go TD_ok 200 rfl ?_
 refine nw rfl rfl (z := .agg #[.slice none 0 0, .slice none 0 0]) (by kernel_rfl) (cs := [.slice none 0 0, .slice none 0 0]) rfl ?_
 intro g2 w hg2 hs2 qk B2
 have B1 := B1.no qk
 have q := q.trans qk
 have lq := q.size
 have l1 := B1.lt
 have u2 : w0.heap.size ≤ g2 := by omega
 refine go TD_ok 200 rfl ?_
 repeat ((first | refine ldA TD_ok rfl rfl rfl rfl rfl (Bk.all B1) ?_ | refine ldA TD_ok rfl rfl rfl rfl rfl (Bk.all B2) ?_ | refine ld TD_ok rfl rfl rfl rfl (Bk.get B1 rfl) ?_ | refine ld TD_ok rfl rfl rfl rfl (Bk.get B2 rfl) ?_ | refine gT rfl rfl rfl rfl ?_ | refine gF rfl rfl rfl rfl ?_ | refine condT rfl rfl ?_ | refine condF rfl rfl ?_); refine go TD_ok 200 rfl ?_)
 refine call rfl rfl rfl (ok _ (by decide) rfl) (scans_any m B _ (H.no q)) ?_
 rintro v w ⟨⟨b, rfl, hb⟩, qk⟩
 have B1 := B1.no qk
 have B2 := B2.no qk
 have q := q.trans qk
 cases b with
 | false =>
  refine go TD_ok 200 rfl ?_
  repeat ((first | refine ldA TD_ok rfl rfl rfl rfl rfl (Bk.all B1) ?_ | refine ldA TD_ok rfl rfl rfl rfl rfl (Bk.all B2) ?_ | refine ld TD_ok rfl rfl rfl rfl (Bk.get B1 rfl) ?_ | refine ld TD_ok rfl rfl rfl rfl (Bk.get B2 rfl) ?_ | refine gT rfl rfl rfl rfl ?_ | refine gF rfl rfl rfl rfl ?_ | refine condT rfl rfl ?_ | refine condF rfl rfl ?_); refine go TD_ok 200 rfl ?_)
  refine stA TD_ok rfl rfl rfl rfl (vs := [.slice none 0 0, .slice none 0 0]) rfl rfl rfl B2 rfl ?_
  intro w qk B2 hz2
  have B2 : Bk w g2 77 [.slice none 0 0, .slice none 0 0] := B2
  refine go TD_ok 200 rfl ?_
  exact ret (retR2 Try.results42 (resA TD_ok rfl rfl rfl B2.all) (s := .tmp 3) (x := I 2) rfl ⟨q.step qk (fun k hk e => by omega), .inl ⟨fun h => (by have := hb.2 h; cases this), rfl⟩⟩)
 | true =>
 have h8 := hb.1 rfl
 obtain ⟨k1, k2, k3, k4⟩ := small_ok h8.1
 refine go TD_ok 200 rfl ?_
 repeat ((first | refine ldA TD_ok rfl rfl rfl rfl rfl (Bk.all B1) ?_ | refine ldA TD_ok rfl rfl rfl rfl rfl (Bk.all B2) ?_ | refine ld TD_ok rfl rfl rfl rfl (Bk.get B1 rfl) ?_ | refine ld TD_ok rfl rfl rfl rfl (Bk.get B2 rfl) ?_ | refine gT rfl rfl rfl rfl ?_ | refine gF rfl rfl rfl rfl ?_ | refine condT rfl rfl ?_ | refine condF rfl rfl ?_); refine go TD_ok 200 rfl ?_)
 refine call rfl rfl rfl (ok _ (by decide) rfl) (smallest_any m B _ (H.no q) h8.1) ?_
 rintro v w6 ⟨gx, gy, rfl, qk, ge1, ge2, Bx, By⟩
 rw [k4]
 have l2 := B2.lt
 have lq := q.size
 have B2 := B2.no qk
 have q := q.trans qk
 refine go TD_ok 200 rfl ?_
 refine stA TD_ok rfl rfl rfl rfl (vs := [.slice (some ⟨gx, 0, none⟩) (smallP (scP m)).nx.length (smallP (scP m)).nx.length, .slice (some ⟨gy, 0, none⟩) (smallP (scP m)).nx.length (smallP (scP m)).nx.length]) rfl rfl rfl B2 rfl ?_
 intro w7 qk B2 hz7
 have B2 : Bk w7 g2 77 [.slice (some ⟨gx, 0, none⟩) (smallP (scP m)).nx.length (smallP (scP m)).nx.length, .slice (some ⟨gy, 0, none⟩) (smallP (scP m)).nx.length (smallP (scP m)).nx.length] := B2
 have Bx := Bx.keep qk (by omega)
 have By := By.keep qk (by omega)
 refine go TD_ok 200 rfl ?_
 exact ret (retR2 Try.results42 (resA TD_ok rfl rfl rfl B2.all) (s := .tmp 3) (x := I 0) rfl ⟨q.step qk (fun k hk e => by omega), .inr ⟨h8, _, rfl, ⟨gx, gy, rfl, by omega, by omega, Bx, By⟩⟩⟩)
end Go.Proofs.Yteenhfnamjbaiaa
