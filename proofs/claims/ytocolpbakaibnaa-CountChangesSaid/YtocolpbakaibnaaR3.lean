/- The contracts of the specification's Excluded, Times, last and begins. -/
import Derived.Test.YtocolpbakaibnaaR2
namespace Go.Proofs.Ytocolpbakaibnaa
open Go.Ev Go.Proofs Go.Cnt
attribute [local irreducible] At AtH

def optM (o : Option Nat) : Int := match o with | some n => n | none => -1
/-- after how many slots a rate is excluded: the first number of slots after which its bet has the level -/
def exN (D lv k : Int) (xs : List Bool) : Option Nat := firstN (fun i => decide (lv * 1048576 ≤ (cst D k (xs.take i)).c)) 0 (xs.length + 1)
theorem rExcluded_any (xs : List Bool) (D k : Nat) (lv : Int) (A : Option Addr) (c B : Nat) (w : World) (hSl : Sl w B 1 A xs.length (boolVs xs)) (hd0 : 2 ≤ D) (hd1 : D ≤ 1000) (hk : k ≤ D) (hn : xs.length ≤ 4000) (hl0 : 0 ≤ lv) (hl1 : lv ≤ 8000000000000) :
    Ret Try.prog 36 [.slice A xs.length c, .int .i64 D, .int .i64 lv, .int .i64 k] w fun v w' => v = .int .i64 (optM (exN D lv k xs)) ∧ Chg No w w' := by
  refine enter Try.func36 rfl Try.ntmps36 rfl ?_
  refine go T_ok 100 rfl ?_
  refine call rfl rfl rfl (ok _ (by decide) rfl) (rCapital_any xs D k A c B w hSl hd0 hd1 hk hn) ?_
  rintro v w1 ⟨A', c', rfl, q1, hown⟩
  refine go T_ok 100 rfl ?_
  have hsl := own_sl hown
  refine loop [2, 9, 10] (fun i : Nat => [.int .i64 lv, .slice A' (xs.length + 1) c', .int .i64 (i : Int)])
    (fun i w' => w1 = w' ∧ i ≤ xs.length + 1 ∧ exN D lv k xs = firstN (fun i => decide (lv * 1048576 ≤ (cst D k (xs.take i)).c)) i (xs.length + 1 - i)) (fun i => xs.length + 1 - i) 0 (fun _ => rfl) rfl ⟨rfl, by omega, rfl⟩ ?_
  rintro i τ w2 ⟨rfl, hi, hex⟩
  refine go T_ok 100 rfl ?_
  refine condD rfl (fun hlt => ?_) (fun hlt => ?_)
  · have hlt : i < xs.length + 1 := by omega
    refine go T_ok 100 rfl ?_
    obtain ⟨_, _, hA1⟩ := hsl
    obtain ⟨r1, off1, rfl, _, hcells1⟩ := hA1 (by omega)
    refine idx T_ok rfl rfl rfl rfl rfl i rfl (by omega) ?_
    refine go T_ok 100 rfl ?_
    rw [show off1 + i * 1 = off1 + i by omega]
    have hget : (capV D k xs (xs.length + 1))[i]? = some (.int .i64 (cst D k (xs.take i)).c) := by simp [capV, hlt]
    refine ld T_ok rfl rfl rfl rfl (hcells1 i _ hget) ?_
    refine go T_ok 100 rfl ?_
    have el : w64 (lv * 1048576) = lv * 1048576 := w64_id (by omega) (by omega)
    have ei : w64 ((i : Int) + 1) = ((i + 1 : Nat) : Int) := w64_id (by omega) (by omega)
    rw [el]
    rw [show xs.length + 1 - i = (xs.length + 1 - (i + 1)) + 1 by omega, firstN] at hex
    refine condD rfl (fun hc => ?_) (fun hc => ?_)
    · refine go T_ok 100 rfl ?_
      refine ret (ret1 (v := .int .i64 _) Try.results36 rfl ⟨?_, q1⟩)
      rw [hex, decide_eq_true hc, if_pos rfl]
      rfl
    · refine go T_ok 100 rfl ?_
      rw [ei]
      refine round ⟨i + 1, rfl, ⟨rfl, by omega, ?_⟩, by omega⟩
      rw [hex, decide_eq_false hc, if_neg (by simp)]
  · refine go T_ok 100 rfl ?_
    refine ret (ret1 (v := .int .i64 _) Try.results36 rfl ⟨?_, q1⟩)
    rw [hex, show xs.length + 1 - i = 0 by omega]
    rfl
/-- the times of the first m rates -/
def timV (D lv : Int) (xs : List Bool) (m : Nat) : List Value := (List.range m).map fun (k : Nat) => .int .i64 (optM (exN D lv (k : Int) xs))
theorem timV_succ (D lv : Int) (xs : List Bool) (m : Nat) : timV D lv xs (m + 1) = timV D lv xs m ++ [.int .i64 (optM (exN D lv (m : Int) xs))] := by simp [timV, List.range_succ]
theorem timV_get {D lv : Int} {xs : List Bool} {m k : Nat} (h : k < m) : (timV D lv xs m)[k]? = some (.int .i64 (optM (exN D lv (k : Int) xs))) := by simp [timV, h]
theorem Times_any (xs : List Bool) (D : Nat) (lv : Int) (A : Option Addr) (c B : Nat) (w : World) (hSl : Sl w B 1 A xs.length (boolVs xs)) (hd0 : 2 ≤ D) (hd1 : D ≤ 1000) (hn : xs.length ≤ 4000) (hl0 : 0 ≤ lv) (hl1 : lv ≤ 8000000000000) :
    Ret Try.prog 68 [.slice A xs.length c, .int .i64 D, .int .i64 lv] w fun v w' => ∃ A' c', v = .slice A' (D + 1) c' ∧ Chg No w w' ∧ w'.ownsRow w.heap.size 3 1 (.slice A' (D + 1) c') (D + 1) (timV D lv xs (D + 1)) := by
  refine enter Try.func68 rfl Try.ntmps68 rfl ?_
  refine go T_ok 100 rfl ?_
  refine loop [0, 1, 2, 7, 8] (fun x : Nat × Option Addr × Nat => [.slice A xs.length c, .int .i64 D, .int .i64 lv, .slice x.2.1 x.1 x.2.2, .int .i64 (x.1 : Int)])
    (fun x w' => x.1 ≤ D + 1 ∧ Chg No w w' ∧ w'.ownsRow w.heap.size 3 1 (.slice x.2.1 x.1 x.2.2) x.1 (timV D lv xs x.1)) (fun x => D + 1 - x.1) (0, none, 0) (fun _ => rfl) rfl ⟨by simp, Chg.refl _ _, own_nil⟩ ?_
  rintro ⟨k, A1, c1⟩ τ w2 ⟨hi, q, hown⟩
  simp only at hi hown
  dsimp only
  refine go T_ok 100 rfl ?_
  refine condD rfl (fun hlt => ?_) (fun hlt => ?_)
  · have hlt : k ≤ D := by omega
    refine go T_ok 100 rfl ?_
    refine call rfl rfl rfl (ok _ (by decide) rfl) (rExcluded_any xs D k lv A c B w2 (hSl.no q) hd0 hd1 hlt hn hl0 hl1) ?_
    rintro v w3 ⟨rfl, q3⟩
    refine go T_ok 100 rfl ?_
    have q03 := q.trans q3
    refine app1 T_ok rfl rfl rfl rfl rfl rfl (cs := [.int .i64 _]) rfl rfl rfl rfl (fun _ => rfl) (fun _ => rfl) (fun _ => rfl) (own_no hown q3) (by unfold maxLen; omega) (by omega) q03.size ?_
    intro g5 A2 c2 w9 hown9 q9 hs9 _
    refine go T_ok 100 rfl ?_
    have ei : w64 ((k : Int) + 1) = ((k + 1 : Nat) : Int) := w64_id (by omega) (by omega)
    rw [ei]
    refine round ⟨(k + 1, A2, c2), rfl, ⟨by simp only; omega, q03.step q9 (fun k' hk' e => absurd (own_ge hown e) (by omega)), ?_⟩, by simp only; omega⟩
    simp only [timV_succ]
    exact hown9
  · refine go T_ok 100 rfl ?_
    have : k = D + 1 := by omega
    subst this
    exact ret (ret1 (v := .slice _ _ _) Try.results68 rfl ⟨A1, c1, rfl, q, hown⟩)
/-- after how many slots the last of m rates from k on is excluded; -1 if one is not -/
def lastL (E : Nat → Option Nat) (k : Nat) (n : Int) : Nat → Int
  | 0 => n
  | m + 1 => match E k with
    | some t => lastL E (k + 1) (max n t) m
    | none => -1
theorem last_any (D : Nat) (lv : Int) (xs : List Bool) (A : Option Addr) (c B : Nat) (w : World) (low m : Nat) (h : Sl w B 1 A (D + 1) (timV D lv xs (D + 1))) (hm : low + m ≤ D + 1) (hd1 : D ≤ 1000) :
    Ret Try.prog 74 [.slice A (D + 1) c, .int .i64 low, .int .i64 ((low : Int) + m - 1)] w fun v w' => v = .int .i64 (lastL (fun (k : Nat) => exN D lv (k : Int) xs) low 0 m) ∧ w = w' := by
  refine enter Try.func74 rfl Try.ntmps74 rfl ?_
  refine go T_ok 100 rfl ?_
  refine loop [0, 2, 7, 8] (fun x : Nat × Int => [.slice A (D + 1) c, .int .i64 ((low : Int) + m - 1), .int .i64 x.2, .int .i64 ((x.1 : Nat) : Int)])
    (fun x w' => w = w' ∧ low ≤ x.1 ∧ x.1 ≤ low + m ∧ lastL (fun (k : Nat) => exN D lv (k : Int) xs) low 0 m = lastL (fun (k : Nat) => exN D lv (k : Int) xs) x.1 x.2 (low + m - x.1)) (fun x => low + m - x.1) (low, 0) (fun _ => rfl) rfl ⟨rfl, Nat.le_refl _, by simp, by simp⟩ ?_
  rintro ⟨k, n⟩ τ w' ⟨rfl, h1, h2, h3⟩
  simp only at h1 h2 h3
  dsimp only
  refine go T_ok 100 rfl ?_
  refine condD rfl (fun hlt => ?_) (fun hlt => ?_)
  · refine go T_ok 100 rfl ?_
    obtain ⟨_, _, hA1⟩ := h
    obtain ⟨r1, off1, rfl, _, hcells1⟩ := hA1 (by omega)
    have hget := hcells1 k _ (timV_get (D := (D : Int)) (lv := lv) (xs := xs) (by omega : k < D + 1))
    refine idx T_ok rfl rfl rfl rfl rfl k rfl (by omega) ?_
    refine go T_ok 100 rfl ?_
    rw [show off1 + k * 1 = off1 + k by omega]
    refine ld T_ok rfl rfl rfl rfl hget ?_
    refine go T_ok 100 rfl ?_
    have ek : w64 ((k : Int) + 1) = ((k + 1 : Nat) : Int) := w64_id (by omega) (by omega)
    rw [show low + m - k = (low + m - (k + 1)) + 1 by omega, lastL] at h3
    cases he : exN (D : Int) lv (k : Int) xs with
    | none =>
      simp only [he] at h3
      refine condT rfl rfl ?_
      refine go T_ok 100 rfl ?_
      exact ret (ret1 (v := .int .i64 _) Try.results74 rfl ⟨by rw [h3], rfl⟩)
    | some t =>
      simp only [he] at h3
      refine condF rfl (decide_eq_false (by simp only [optM]; omega)) ?_
      refine go T_ok 100 rfl ?_
      refine idx T_ok rfl rfl rfl rfl rfl k rfl (by omega) ?_
      refine go T_ok 100 rfl ?_
      rw [show off1 + k * 1 = off1 + k by omega]
      rw [he] at hget
      refine ld T_ok rfl rfl rfl rfl hget ?_
      refine go T_ok 100 rfl ?_
      rw [ek]
      exact round ⟨(k + 1, max n (t : Int)), rfl, ⟨rfl, by simp only; omega, by simp only; omega, h3⟩, by simp only; omega⟩
  · refine go T_ok 100 rfl ?_
    have : low + m - k = 0 := by omega
    rw [this, lastL] at h3
    exact ret (ret1 (v := .int .i64 _) Try.results74 rfl ⟨by rw [h3], rfl⟩)
/-- after how many slots a watch begins -/
def begN : Nat → Nat
  | 0 => 0
  | j + 1 => 2 ^ j
theorem begins_any (j : Nat) (w : World) (hj : j ≤ 60) : Ret Try.prog 73 [.int .i64 j] w fun v w' => v = .int .i64 (begN j) ∧ w = w' := by
  refine enter Try.func73 rfl Try.ntmps73 rfl ?_
  refine go T_ok 100 rfl ?_
  cases j with
  | zero =>
    refine condT rfl rfl ?_
    refine go T_ok 100 rfl ?_
    exact ret (ret1 (v := .int .i64 _) Try.results73 rfl ⟨rfl, rfl⟩)
  | succ j =>
    refine condF rfl (beq_eq_false_iff_ne.2 (by omega)) ?_
    refine go T_ok 100 rfl ?_
    refine loop [0, 3, 4] (fun i : Nat => [.int .i64 ((j + 1 : Nat) : Int), .int .i64 ((2 ^ i : Nat) : Int), .int .i64 ((i + 1 : Nat) : Int)])
      (fun i w' => w = w' ∧ i ≤ j) (fun i => j - i) 0 (fun _ => rfl) rfl ⟨rfl, by omega⟩ ?_
    rintro i τ w' ⟨rfl, hi⟩
    refine go T_ok 100 rfl ?_
    refine condD rfl (fun hlt => ?_) (fun hlt => ?_)
    · refine go T_ok 100 rfl ?_
      have hp : 2 ^ (i + 1) ≤ 2 ^ 60 := Nat.pow_le_pow_right (by omega) (by omega)
      have e1 : w64 (2 * ((2 ^ i : Nat) : Int)) = ((2 ^ (i + 1) : Nat) : Int) := by
        rw [Nat.pow_succ] at hp ⊢
        exact (w64_id (by omega) (by omega)).trans (by omega)
      have e2 : w64 (((i + 1 : Nat) : Int) + 1) = ((i + 1 + 1 : Nat) : Int) := w64_id (by omega) (by omega)
      rw [e1, e2]
      exact round ⟨i + 1, rfl, ⟨rfl, by omega⟩, by omega⟩
    · refine go T_ok 100 rfl ?_
      have : i = j := by omega
      subst this
      exact ret (ret1 (v := .int .i64 _) Try.results73 rfl ⟨rfl, rfl⟩)
end Go.Proofs.Ytocolpbakaibnaa
