/- The contracts of the specification's functions that make lists. -/
import Derived.Test.YtocolpbakaibnaaR1
namespace Go.Proofs.Ytocolpbakaibnaa
open Go.Ev Go.Proofs Go.Cnt
attribute [local irreducible] At AtH

theorem own_size {w : World} {B : Nat} {e : TypeId} {sz n c : Nat} {A : Option Addr} {xs : List Value} (h : w.ownsRow B e sz (.slice A n c) n xs) (hn : 0 < n) : B ≤ w.heap.size := by
  obtain ⟨g, m, f, rfl, h1, h2, _⟩ := own_row h hn
  have := h2.lt
  omega
/-- the slots of the bits of a number -/
def outN (n b : Nat) : List Bool := (List.range n).map fun j => b.testBit j
theorem outN_succ (n b : Nat) : outN (n + 1) b = outN n b ++ [b.testBit n] := by simp [outN, List.range_succ]
theorem outN_len (n b : Nat) : (outN n b).length = n := by simp [outN]
theorem bit_lem {b j : Nat} (hb : b ≤ 4000000000) : (bitw .and ((b : Int).fdiv (2 ^ j)) 1 == 1) = b.testBit j := by
  have e1 : (b : Int).fdiv (2 ^ j) = ((b / 2 ^ j : Nat) : Int) := by
    have : ((2 : Int) ^ j) = ((2 ^ j : Nat) : Int) := by simp
    rw [this, Int.fdiv_eq_ediv_of_nonneg _ (Int.natCast_nonneg _)]
    rfl
  rw [e1]
  have hle : b / 2 ^ j ≤ b := Nat.div_le_self _ _
  unfold bitw
  have e2 : ((BitVec.ofInt 64 ((b / 2 ^ j : Nat) : Int)) &&& (BitVec.ofInt 64 1)).toNat = b / 2 ^ j % 2 := by
    have h1 : (BitVec.ofInt 64 1) = BitVec.ofNat 64 1 := rfl
    rw [h1, BitVec.toNat_and, BitVec.ofInt_natCast, BitVec.toNat_ofNat, BitVec.toNat_ofNat, Nat.mod_eq_of_lt (by omega), Nat.mod_eq_of_lt (by omega), Nat.and_one_is_mod]
  simp only
  rw [e2, w64_id (by omega) (by omega), Nat.testBit_eq_decide_div_mod_eq]
  rw [Bool.eq_iff_iff, beq_iff_eq, decide_eq_true_eq]
  omega
theorem Outcome_any (n b : Nat) (w : World) (hn : n ≤ 12) (hb : b ≤ 4000000000) :
    Ret Try.prog 20 [.int .i64 n, .int .i64 b] w fun v w' => ∃ A c, v = .slice A n c ∧ Chg No w w' ∧ w'.ownsRow w.heap.size 4 1 (.slice A n c) n (boolVs (outN n b)) := by
  refine enter Try.func20 rfl Try.ntmps20 rfl ?_
  refine go T_ok 100 rfl ?_
  refine loop [0, 1, 5, 6] (fun x : Nat × Option Addr × Nat => [.int .i64 n, .int .i64 b, .slice x.2.1 x.1 x.2.2, .int .i64 (x.1 : Int)])
    (fun x w' => x.1 ≤ n ∧ Chg No w w' ∧ w'.ownsRow w.heap.size 4 1 (.slice x.2.1 x.1 x.2.2) x.1 (boolVs (outN x.1 b))) (fun x => n - x.1) (0, none, 0) (fun _ => rfl) rfl ⟨by simp, Chg.refl _ _, own_nil⟩ ?_
  rintro ⟨i, A, c⟩ τ w' ⟨hi, q, hown⟩
  simp only at hi hown
  dsimp only
  refine go T_ok 100 rfl ?_
  refine condD rfl (fun hlt => ?_) (fun hlt => ?_)
  · have hlt : i < n := by omega
    refine go T_ok 100 rfl ?_
    refine shr rfl rfl rfl rfl i rfl (by omega) ?_
    refine go T_ok 100 rfl ?_
    rw [bit_lem hb]
    refine app1 T_ok rfl rfl rfl rfl rfl rfl (cs := [.bool _]) rfl rfl rfl rfl (fun _ => rfl) (fun _ => rfl) (fun _ => rfl) hown (by unfold maxLen; omega) (by omega) q.size ?_
    intro g A' c' w3 hown' q3 hs3 _
    refine go T_ok 100 rfl ?_
    have ei : w64 ((i : Int) + 1) = ((i + 1 : Nat) : Int) := w64_id (by omega) (by omega)
    rw [ei]
    refine round ⟨(i + 1, A', c'), rfl, ⟨by simp only; omega, q.step q3 (fun k hk e => absurd (own_ge hown e) (by omega)), ?_⟩, by simp only; omega⟩
    simp only [outN_succ, boolVs, List.map_append, List.map_cons, List.map_nil]
    exact hown'
  · refine go T_ok 100 rfl ?_
    have : i = n := by omega
    subst this
    exact ret (ret1 (v := .slice _ _ _) Try.results20 rfl ⟨A, c, rfl, q, hown⟩)
theorem Turned_any (xs : List Bool) (A0 : Option Addr) (c0 B : Nat) (w : World) (h : Sl w B 1 A0 xs.length (boolVs xs)) (hl : xs.length ≤ 100000) :
    Ret Try.prog 29 [.slice A0 xs.length c0] w fun v w' => ∃ A c, v = .slice A xs.length c ∧ Chg No w w' ∧ w'.ownsRow w.heap.size 4 1 (.slice A xs.length c) xs.length (boolVs (xs.map (!·))) := by
  refine enter Try.func29 rfl Try.ntmps29 rfl ?_
  refine go T_ok 100 rfl ?_
  refine loop [0, 3, 4] (fun x : Nat × Option Addr × Nat => [.slice A0 xs.length c0, .slice x.2.1 x.1 x.2.2, .int .i64 (x.1 : Int)])
    (fun x w' => x.1 ≤ xs.length ∧ Chg No w w' ∧ w'.ownsRow w.heap.size 4 1 (.slice x.2.1 x.1 x.2.2) x.1 (boolVs ((xs.take x.1).map (!·)))) (fun x => xs.length - x.1) (0, none, 0) (fun _ => rfl) rfl ⟨by simp, Chg.refl _ _, own_nil⟩ ?_
  rintro ⟨i, A, c⟩ τ w' ⟨hi, q, hown⟩
  simp only at hi hown
  dsimp only
  refine go T_ok 100 rfl ?_
  refine condD rfl (fun hlt => ?_) (fun hlt => ?_)
  · have hlt : i < xs.length := by omega
    refine go T_ok 100 rfl ?_
    obtain ⟨_, _, hA⟩ := h.no q
    obtain ⟨b, off, rfl, hb, hcells⟩ := hA (by omega)
    refine idx T_ok rfl rfl rfl rfl rfl i rfl (by omega) ?_
    refine go T_ok 100 rfl ?_
    rw [show off + i * 1 = off + i by omega]
    refine ld T_ok rfl rfl rfl rfl (hcells i _ (boolVs_get hlt)) ?_
    refine go T_ok 100 rfl ?_
    refine app1 T_ok rfl rfl rfl rfl rfl rfl (cs := [.bool _]) rfl rfl rfl rfl (fun _ => rfl) (fun _ => rfl) (fun _ => rfl) hown (by unfold maxLen; omega) (by omega) q.size ?_
    intro g A' c' w3 hown' q3 hs3 _
    refine go T_ok 100 rfl ?_
    have ei : w64 ((i : Int) + 1) = ((i + 1 : Nat) : Int) := w64_id (by omega) (by omega)
    rw [ei]
    refine round ⟨(i + 1, A', c'), rfl, ⟨by simp only; omega, q.step q3 (fun k hk e => absurd (own_ge hown e) (by omega)), ?_⟩, by simp only; omega⟩
    have e2 : (xs.take (i + 1)) = xs.take i ++ [xs[i]] := List.take_succ_eq_append_getElem hlt
    simp only [e2, boolVs, List.map_append, List.map_cons, List.map_nil]
    exact hown'
  · refine go T_ok 100 rfl ?_
    have hlt : ¬ ((i : Int) < xs.length) := hlt
    have : i = xs.length := by omega
    subst this
    rw [List.take_length] at hown
    exact ret (ret1 (v := .slice _ _ _) Try.results29 rfl ⟨A, c, rfl, q, hown⟩)
/-- the specification's list of capitals is the program's -/
theorem rCapital_any (xs : List Bool) (D k : Nat) (A : Option Addr) (c B : Nat) (w : World) (hSl : Sl w B 1 A xs.length (boolVs xs)) (hd0 : 2 ≤ D) (hd1 : D ≤ 1000) (hk : k ≤ D) (hn : xs.length ≤ 4000) :
    Ret Try.prog 35 [.slice A xs.length c, .int .i64 D, .int .i64 k] w fun v w' => ∃ A' c', v = .slice A' (xs.length + 1) c' ∧ Chg No w w' ∧ w'.ownsRow w.heap.size 3 1 (.slice A' (xs.length + 1) c') (xs.length + 1) (capV D k xs (xs.length + 1)) := by
  refine enter Try.func35 rfl Try.ntmps35 rfl ?_
  refine go T_ok 100 rfl ?_
  refine row T_ok rfl rfl rfl rfl rfl rfl (cs := [.int .i64 1048576]) rfl ?_
  intro r w1 hr hs1 q1 Br hl
  refine go T_ok 100 rfl ?_
  have hown0 : w1.ownsRow w.heap.size 3 1 (.slice (some ⟨r, 0, none⟩) 1 1) 1 (capV D k xs 1) := own_base (Br.own rfl (by decide)) (by omega)
  refine loop [0, 1, 2, 7, 8, 9] (fun x : Nat × Option Addr × Nat => [.slice A xs.length c, .int .i64 D, .int .i64 k, .slice x.2.1 (x.1 + 1) x.2.2, .int .i64 (cst D k (xs.take x.1)).h, .int .i64 (x.1 : Int)])
    (fun x w' => x.1 ≤ xs.length ∧ Chg No w w' ∧ w'.ownsRow w.heap.size 3 1 (.slice x.2.1 (x.1 + 1) x.2.2) (x.1 + 1) (capV D k xs (x.1 + 1))) (fun x => xs.length - x.1) (0, some ⟨r, 0, none⟩, 1) (fun _ => rfl) rfl
    ⟨by simp, q1, hown0⟩ ?_
  rintro ⟨i, A1, c1⟩ τ w2 ⟨hi, q, hown⟩
  simp only at hi hown
  dsimp only
  refine go T_ok 100 rfl ?_
  refine condD rfl (fun hlt => ?_) (fun hlt => ?_)
  · have hlt : i < xs.length := by omega
    obtain ⟨k1, k2, k3, k4, k5⟩ := cst_ok (D := (D : Int)) (k := (k : Int)) (by omega) (by omega) (by omega) (xs.take i)
    have k5 : (cst D k (xs.take i)).n = i := by rw [k5, List.length_take]; omega
    refine go T_ok 100 rfl ?_
    obtain ⟨_, _, hA1⟩ := own_sl hown
    obtain ⟨r1, off1, rfl, _, hcells1⟩ := hA1 (by omega)
    obtain ⟨_, _, hA⟩ := hSl.no q
    obtain ⟨b, off, rfl, hb, hcells⟩ := hA (by omega)
    refine idx T_ok rfl rfl rfl rfl rfl i rfl (by omega) ?_
    refine go T_ok 100 rfl ?_
    rw [show off1 + i * 1 = off1 + i by omega]
    have hget : (capV D k xs (i + 1))[i]? = some (.int .i64 (cst D k (xs.take i)).c) := by simp [capV]
    refine ld T_ok rfl rfl rfl rfl (hcells1 i _ hget) ?_
    refine go T_ok 100 rfl ?_
    refine call rfl rfl rfl (ok _ (by decide) rfl) (rBet_any _ i _ D k w2 k1 k2 (by omega) (by omega) k3 (by omega) (by omega) (by omega) (by omega) (by omega)) ?_
    rintro v w3 ⟨rfl, rfl⟩
    refine go T_ok 100 rfl ?_
    refine idx T_ok rfl rfl rfl rfl rfl i rfl (by omega) ?_
    refine go T_ok 100 rfl ?_
    rw [show off + i * 1 = off + i by omega]
    refine ld T_ok rfl rfl rfl rfl (hcells i _ (boolVs_get hlt)) ?_
    refine go T_ok 100 rfl ?_
    have ei : w64 ((i : Int) + 1) = ((i + 1 : Nat) : Int) := w64_id (by omega) (by omega)
    have eh : w64 ((cst D k (xs.take i)).h + 1) = (cst D k (xs.take i)).h + 1 := w64_id (by omega) (by omega)
    have es := cst_snoc (D : Int) k xs i hlt
    have e2 := capV_succ (D : Int) k xs (i + 1)
    have hsz := q.size
    refine cond rfl (fun hb => ?_) (fun hb => ?_)
    · have hh : (cst D k (xs.take (i + 1))).h = (cst D k (xs.take i)).h + 1 := by rw [es, hb]; rfl
      have hc : (cst D k (xs.take (i + 1))).c = hitC (cst D k (xs.take i)).c i (cst D k (xs.take i)).h D k := by rw [es, hb, ← k5]; rfl
      refine go T_ok 100 rfl ?_
      refine app1 T_ok rfl rfl rfl rfl rfl rfl (cs := [.int .i64 _]) rfl rfl rfl rfl (fun _ => rfl) (fun _ => rfl) (fun _ => rfl) hown (by unfold maxLen; omega) (by omega) hsz ?_
      intro g5 A2 c2 w9 hown9 q9 hs9 _
      refine go T_ok 100 rfl ?_
      rw [ei, eh, ← hh]
      refine round ⟨(i + 1, A2, c2), rfl, ⟨by simp only; omega, q.step q9 (fun k' hk' e => absurd (own_ge hown e) (by omega)), ?_⟩, by simp only; omega⟩
      simp only [e2, hc]
      exact hown9
    · have hh : (cst D k (xs.take (i + 1))).h = (cst D k (xs.take i)).h := by
        rw [es, hb]
        show (cst D k (xs.take i)).h + 0 = _
        omega
      have hc : (cst D k (xs.take (i + 1))).c = missC (cst D k (xs.take i)).c i (cst D k (xs.take i)).h D k := by rw [es, hb, ← k5]; rfl
      refine go T_ok 100 rfl ?_
      refine app1 T_ok rfl rfl rfl rfl rfl rfl (cs := [.int .i64 _]) rfl rfl rfl rfl (fun _ => rfl) (fun _ => rfl) (fun _ => rfl) hown (by unfold maxLen; omega) (by omega) hsz ?_
      intro g5 A2 c2 w9 hown9 q9 hs9 _
      refine go T_ok 100 rfl ?_
      rw [ei, ← hh]
      refine round ⟨(i + 1, A2, c2), rfl, ⟨by simp only; omega, q.step q9 (fun k' hk' e => absurd (own_ge hown e) (by omega)), ?_⟩, by simp only; omega⟩
      simp only [e2, hc]
      exact hown9
  · refine go T_ok 100 rfl ?_
    have hlt : ¬ ((i : Int) < xs.length) := hlt
    have : i = xs.length := by omega
    subst this
    exact ret (ret1 (v := .slice _ _ _) Try.results35 rfl ⟨A1, c1, rfl, q, hown⟩)
end Go.Proofs.Ytocolpbakaibnaa
