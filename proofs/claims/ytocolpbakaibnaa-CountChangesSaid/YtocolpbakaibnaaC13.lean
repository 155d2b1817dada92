/- The contract of outcomes: an iterator over all outcomes of some slots. -/
import Derived.Test.YtocolpbakaibnaaR9
import Derived.Test.YtocolpbakaibnaaEx
namespace Go.Proofs.Ytocolpbakaibnaa
open Go.Ev Go.Proofs Go.Cnt
attribute [local irreducible] At AtH

/-- all outcomes of some slots, in the order of their numbers -/
def outsN (n m : Nat) : List (List Bool) := (List.range m).map (outN n)
theorem outsN_succ (n m : Nat) : outsN n (m + 1) = outsN n m ++ [outN n m] := by simp [outsN, List.range_succ]
/-- an outcome that is handed on: the block of its slice, its slots -/
def encO (x : Nat × List Bool) : List Value := [.slice (some ⟨x.1, 0, none⟩) x.2.length x.2.length]
def outH (x : Nat × List Bool) (w : World) : Prop := x.2.length ≤ 12 ∧ Sl w w.heap.size 1 (some ⟨x.1, 0, none⟩) x.2.length (boolVs x.2)
theorem outH_loop (x : Nat × List Bool) (A B : World) (l : Nat) (h : outH x A) (hl : ∃ r, A.heap[l]? = some (.loop r)) (q : Chg (fun k => k = l) A B) : outH x B :=
  ⟨h.1, (Sl.loop h.2 hl q).more q.size (Nat.le_refl _)⟩
theorem outcomes_any (n : Nat) (w : World) : Ret Try.prog 60 [.int .i64 n] w fun v w' => ∃ g, v = .func (.func 81) #[] #[.pointer (some ⟨g, 0, none⟩)] ∧ Chg No w w' ∧ w.heap.size ≤ g ∧ Bk w' g 3 [.int .i64 n] := by
  refine enter Try.func60 rfl Try.ntmps60 rfl ?_
  refine go T_ok 100 rfl ?_
  refine bx rfl rfl rfl (cs := [.int .i64 n]) rfl ?_
  intro g1 w1 hg1 hs1 q1 B1
  refine go T_ok 100 rfl ?_
  exact ret (ret1 (v := .func _ _ _) Try.results60 rfl ⟨g1, rfl, q1, by omega, B1⟩)
theorem row_sl {w : World} {g n : Nat} {t : TypeId} {f : Nat → Value} {bs : List Bool} (h : w.rowIs g t n f) (hb : bs.length = n) (hf : ∀ j (hj : j < bs.length), f j = .bool bs[j]) (hn : n ≤ 12) : outH (g, bs) w := by
  refine ⟨by show bs.length ≤ 12; omega, by simp [boolVs], Nat.le_refl _, fun _ => ⟨g, 0, rfl, h.lt, fun j v hv => ?_⟩⟩
  have hj : j < bs.length := by
    have := (List.getElem?_eq_some_iff.1 hv).1
    simpa [boolVs] using this
  rw [boolVs_get hj] at hv
  have := h.cell (i := j) (by omega)
  rw [Nat.zero_add, this, hf j hj]
  exact hv
theorem outcomes_seq (n g1 : Nat) (w : World) (hn : n ≤ 12) (H : Bk w g1 3 [.int .i64 n]) : Seq Try.prog 81 [.pointer (some ⟨g1, 0, none⟩)] encO outH (fun k => k = g1) (fun xs => xs.map (·.2) = outsN n (2 ^ n)) w := by
  intro l J W hW hJ hY h0
  have hp : 2 ^ n ≤ 2 ^ 12 := Nat.pow_le_pow_right (by omega) hn
  have hp' : ((2 : Int) ^ n) = ((2 ^ n : Nat) : Int) := by simp
  obtain ⟨N, hN⟩ : ∃ N, 2 ^ n = N := ⟨_, rfl⟩
  rw [hN] at hp hp' ⊢
  refine enter Try.func81 rfl Try.ntmps81 rfl ?_
  refine go T_ok 100 rfl ?_
  have H1 := H.no hW
  refine ld T_ok rfl rfl rfl rfl (H1.get (i := 0) rfl) ?_
  refine go T_ok 100 rfl ?_
  refine shl rfl rfl rfl rfl n rfl (by omega) ?_
  have ep : w64 (1 * 2 ^ n) = (N : Int) := by rw [Int.one_mul, hp']; exact w64_id (by omega) (by omega)
  rw [ep]
  refine go T_ok 100 rfl ?_
  refine loop [0, 1, 7, 8] (fun i : Nat => [.func (.yield l) #[] #[], .pointer (some ⟨g1, 0, none⟩), .int .i64 (N : Int), .int .i64 (i : Int)])
    (fun i w' => i ≤ N ∧ (∃ xs : List (Nat × List Bool), J xs w' ∧ xs.map (·.2) = outsN n i) ∧ W.heap.size ≤ w'.heap.size ∧ Bk w' g1 3 [.int .i64 n]) (fun i => N - i) 0 (fun _ => rfl) rfl ⟨by omega, ⟨[], h0, rfl⟩, Nat.le_refl _, H1⟩ ?_
  rintro i τ w' ⟨hi, ⟨xs, hJx, hxs⟩, hsz, H2⟩
  refine go T_ok 100 rfl ?_
  refine condD rfl (fun hlt => ?_) (fun hlt => ?_)
  · have hlt : i < N := by omega
    refine go T_ok 100 rfl ?_
    refine ld T_ok rfl rfl rfl rfl (H2.get (i := 0) rfl) ?_
    refine go T_ok 100 rfl ?_
    refine mk1 T_ok rfl rfl rfl rfl rfl n rfl (z := .bool false) (by kernel_rfl) rfl (by unfold maxLen; omega) (by omega) ?_
    intro g w2 hg hs2 q2 R2
    refine go T_ok 100 rfl ?_
    have hne : g1 ≠ g := by have := H2.lt; omega
    refine loop [0, 1, 7, 8, 3, 4, 13, 14, 15] (fun j : Nat => [.func (.yield l) #[] #[], .pointer (some ⟨g1, 0, none⟩), .int .i64 (N : Int), .int .i64 (i : Int), .int .i64 (i : Int), .slice (some ⟨g, 0, none⟩) n n, .slice (some ⟨g, 0, none⟩) n n, .int .i64 (n : Int), .int .i64 (j : Int)])
      (fun j w3 => j ≤ n ∧ Chg (fun k => k = g) w2 w3 ∧ w3.rowIs g 4 n (fun x => .bool (decide (x < j) && i.testBit x))) (fun j => n - j) 0 (fun _ => rfl) rfl ⟨by omega, Chg.refl _ _, by simpa using R2⟩ ?_
    rintro j τ w3 ⟨hj, q3, R3⟩
    refine go T_ok 100 rfl ?_
    refine condD rfl (fun hlt2 => ?_) (fun hlt2 => ?_)
    · have hlt2 : j < n := by omega
      refine go T_ok 100 rfl ?_
      refine shr rfl rfl rfl rfl j rfl (by omega) ?_
      refine go T_ok 100 rfl ?_
      rw [bit_lem (by omega)]
      refine idx T_ok rfl rfl rfl rfl rfl j rfl (by omega) ?_
      refine go T_ok 100 rfl ?_
      rw [show 0 + j * 1 = j by omega]
      refine stR T_ok rfl rfl rfl rfl (v := .bool _) rfl rfl R3 hlt2 ?_
      intro w4 q4 R4 hs4
      refine go T_ok 100 rfl ?_
      have ei : w64 ((j : Int) + 1) = ((j + 1 : Nat) : Int) := w64_id (by omega) (by omega)
      rw [ei]
      refine round ⟨j + 1, rfl, ⟨by omega, q3.trans q4, ?_⟩, by omega⟩
      have ef : (fun x => if x = j then Value.bool (i.testBit j) else Value.bool (decide (x < j) && i.testBit x)) = fun x => .bool (decide (x < j + 1) && i.testBit x) := by
        funext x
        by_cases e : x = j
        · subst e; simp
        · have : (x < j) = (x < j + 1) := by apply propext; omega
          simp [e, this]
      rw [← ef]
      exact R4
    · have : j = n := by omega
      subst this
      refine go T_ok 100 rfl ?_
      have q23 : Chg No w' w3 := q2.step q3 (fun k hk e => by omega)
      have Hx : outH (g, outN j i) w3 := row_sl R3 (outN_len _ _) (fun x hx => by
        have hx : x < j := by simpa [outN_len] using hx
        simp [outN, hx]) hn
      have hs3 := q3.size
      have hY2 := hY xs (g, outN j i) w3 (hJ _ _ _ hJx (q23.mono fun _ _ h => h.elim)) Hx (by have := q23.size; omega)
      have e0 : encO (g, outN j i) = [.slice (some ⟨g, 0, none⟩) j j] := by simp [encO, outN_len]
      rw [e0] at hY2
      refine yieldC rfl rfl rfl hY2 ?_
      rintro w5 ⟨hJ5, q5⟩
      refine go T_ok 100 rfl ?_
      refine condF rfl rfl ?_
      refine go T_ok 100 rfl ?_
      have ei : w64 ((i : Int) + 1) = ((i + 1 : Nat) : Int) := w64_id (by omega) (by omega)
      rw [ei]
      refine round ⟨i + 1, rfl, ⟨by omega, ⟨_, hJ5, ?_⟩, by have := q23.size; have := q5.size; omega, (H2.no q23).keep q5 (fun h => h.2 rfl)⟩, by omega⟩
      simp [hxs, outsN_succ]
  · have : i = N := by omega
    subst this
    refine go T_ok 100 rfl ?_
    exact fin (ret0 Try.results81 ⟨xs, hxs, hJx⟩)
end Go.Proofs.Ytocolpbakaibnaa
