/- The contracts of the law's helpers and of the specification's small functions. -/
import Derived.Test.YtocolpbakaibnaaC12
namespace Go.Proofs.Ytocolpbakaibnaa
open Go.Ev Go.Proofs Go.Cnt
attribute [local irreducible] At AtH

theorem level_any (x m : Int) (w : World) : Ret Try.prog 19 [.int .i64 x, .int .i64 m] w fun v w' => v = .bool (inB x 2 m) ∧ w = w' := by
  refine enter Try.func19 rfl Try.ntmps19 rfl ?_
  refine go T_ok 100 rfl ?_
  refine guardD rfl rfl rfl (fun h => ?_) (fun h => ?_)
  all_goals refine go T_ok 100 rfl ?_
  all_goals refine ret (ret1 (v := .bool _) Try.results19 rfl ?_)
  all_goals simp [inB, h]
/-- the error of parts and slots -/
def wrongE (n : Nat) (D : Int) : Int := if inB D 2 1000 = false then 2 else if 4000 < (n : Int) then 3 else 0
theorem wrong_any (A : Option Addr) (n c : Nat) (D : Int) (w : World) : Ret Try.prog 33 [.slice A n c, .int .i64 D] w fun v w' => v = .int .i64 (wrongE n D) ∧ w = w' := by
  refine enter Try.func33 rfl Try.ntmps33 rfl ?_
  refine go T_ok 100 rfl ?_
  refine call rfl rfl rfl (ok _ (by decide) rfl) (Parts_any _ _) ?_
  rintro v w ⟨rfl, rfl⟩
  refine go T_ok 100 rfl ?_
  refine cond rfl (fun q1 => ?_) (fun q1 => ?_)
  · have q1 : inB D 2 1000 = false := by simpa using q1
    refine go T_ok 100 rfl ?_
    exact ret (ret1 (v := .int .i64 _) Try.results33 rfl ⟨by rw [wrongE, if_pos q1], rfl⟩)
  · have q1 : ¬ inB D 2 1000 = false := by simpa using q1
    refine go T_ok 100 rfl ?_
    refine condD rfl (fun q2 => ?_) (fun q2 => ?_)
    · refine go T_ok 100 rfl ?_
      exact ret (ret1 (v := .int .i64 _) Try.results33 rfl ⟨by rw [wrongE, if_neg q1, if_pos q2], rfl⟩)
    · refine go T_ok 100 rfl ?_
      exact ret (ret1 (v := .int .i64 _) Try.results33 rfl ⟨by rw [wrongE, if_neg q1, if_neg q2], rfl⟩)
/-- is a rate in one of some runs -/
def hasL (l : List (Nat × Nat)) (x : Int) : Bool := l.any fun s => decide ((s.1 : Int) ≤ x) && decide (x ≤ (s.2 : Int))
theorem has_any (l : List (Nat × Nat)) (x : Int) (A : Option Addr) (c B : Nat) (w : World) (h : Sl w B 2 A l.length (spL l)) (hl : l.length ≤ 4000) :
    Ret Try.prog 22 [.slice A l.length c, .int .i64 x] w fun v w' => v = .bool (hasL l x) ∧ w = w' := by
  refine enter Try.func22 rfl Try.ntmps22 rfl ?_
  refine go T_ok 100 rfl ?_
  refine loop [0, 1, 5] (fun i : Nat => [.slice A l.length c, .int .i64 x, .int .i64 (i : Int)])
    (fun i w' => w = w' ∧ i ≤ l.length ∧ hasL l x = hasL (l.drop i) x) (fun i => l.length - i) 0 (fun _ => rfl) rfl ⟨rfl, by omega, by simp⟩ ?_
  rintro i τ w' ⟨rfl, hi, hd⟩
  refine go T_ok 100 rfl ?_
  refine condD rfl (fun hlt => ?_) (fun hlt => ?_)
  · have hlt : i < l.length := by omega
    refine go T_ok 100 rfl ?_
    obtain ⟨_, _, hA⟩ := h
    obtain ⟨b, off, rfl, hb, hcells⟩ := hA (by omega)
    have hg := spL_get (List.getElem?_eq_getElem hlt)
    have L1 := hcells (2 * i) _ hg.1
    have L2 := hcells (2 * i + 1) _ hg.2
    have e1 : off + i * 2 = off + 2 * i := by omega
    have hd : hasL l x = ((decide ((l[i].1 : Int) ≤ x) && decide (x ≤ (l[i].2 : Int))) || hasL (l.drop (i + 1)) x) := by
      rw [hd, List.drop_eq_getElem_cons hlt]
      rfl
    have ei : w64 ((i : Int) + 1) = ((i + 1 : Nat) : Int) := w64_id (by omega) (by omega)
    refine idx T_ok rfl rfl rfl rfl rfl i rfl (by omega) ?_
    refine go T_ok 100 rfl ?_
    rw [e1]
    refine ld T_ok rfl rfl rfl rfl L1 ?_
    refine go T_ok 100 rfl ?_
    refine guardD rfl rfl rfl (fun h1 => ?_) (fun h1 => ?_)
    · refine go T_ok 100 rfl ?_
      refine idx T_ok rfl rfl rfl rfl rfl i rfl (by omega) ?_
      refine go T_ok 100 rfl ?_
      rw [e1]
      refine ld T_ok rfl rfl rfl rfl L2 ?_
      refine go T_ok 100 rfl ?_
      refine condD rfl (fun h2 => ?_) (fun h2 => ?_)
      · refine go T_ok 100 rfl ?_
        refine ret (ret1 (v := .bool _) Try.results22 rfl ⟨?_, rfl⟩)
        rw [hd, decide_eq_true h1, decide_eq_true h2]
        rfl
      · refine go T_ok 100 rfl ?_
        rw [ei]
        refine round ⟨i + 1, rfl, ⟨rfl, by omega, ?_⟩, by omega⟩
        rw [hd, decide_eq_false h2, Bool.and_false, Bool.false_or]
    · refine go T_ok 100 rfl ?_
      rw [ei]
      refine round ⟨i + 1, rfl, ⟨rfl, by omega, ?_⟩, by omega⟩
      rw [hd, decide_eq_false h1, Bool.false_and, Bool.false_or]
  · refine go T_ok 100 rfl ?_
    refine ret (ret1 (v := .bool _) Try.results22 rfl ⟨?_, rfl⟩)
    rw [hd, List.drop_eq_nil_of_le (by omega)]
    rfl

/-- the weight of an outcome, as the machine reckons it -/
def wtw (D k : Int) (xs : List Bool) : Int := xs.foldl (fun n x => w64 (n * (if x then k else w64 (D - k)))) 1
theorem wtw_snoc (D k : Int) (xs : List Bool) (i : Nat) (h : i < xs.length) : wtw D k (xs.take (i + 1)) = w64 (wtw D k (xs.take i) * (if xs[i] then k else w64 (D - k))) := by
  unfold wtw
  rw [List.take_succ_eq_append_getElem h, List.foldl_append]
  rfl
theorem rWeight_any (xs : List Bool) (D k : Int) (A : Option Addr) (c B : Nat) (w : World) (h : Sl w B 1 A xs.length (boolVs xs)) (hl : xs.length ≤ 100000) :
    Ret Try.prog 23 [.slice A xs.length c, .int .i64 D, .int .i64 k] w fun v w' => v = .int .i64 (wtw D k xs) ∧ w = w' := by
  refine enter Try.func23 rfl Try.ntmps23 rfl ?_
  refine go T_ok 100 rfl ?_
  refine loop [0, 1, 2, 7, 8] (fun i : Nat => [.slice A xs.length c, .int .i64 D, .int .i64 k, .int .i64 (wtw D k (xs.take i)), .int .i64 (i : Int)])
    (fun i w' => w = w' ∧ i ≤ xs.length) (fun i => xs.length - i) 0 (fun _ => rfl) rfl ⟨rfl, by omega⟩ ?_
  rintro i τ w' ⟨rfl, hi⟩
  refine go T_ok 100 rfl ?_
  refine condD rfl (fun hlt => ?_) (fun hlt => ?_)
  · have hlt : i < xs.length := by omega
    refine go T_ok 100 rfl ?_
    obtain ⟨_, _, hA⟩ := h
    obtain ⟨b, off, rfl, hb, hcells⟩ := hA (by omega)
    refine idx T_ok rfl rfl rfl rfl rfl i rfl (by omega) ?_
    refine go T_ok 100 rfl ?_
    rw [show off + i * 1 = off + i by omega]
    refine ld T_ok rfl rfl rfl rfl (hcells i _ (boolVs_get hlt)) ?_
    refine go T_ok 100 rfl ?_
    have ei : w64 ((i : Int) + 1) = ((i + 1 : Nat) : Int) := w64_id (by omega) (by omega)
    have es := wtw_snoc D k xs i hlt
    refine cond rfl (fun hb => ?_) (fun hb => ?_)
    · rw [hb, if_pos rfl] at es
      refine go T_ok 100 rfl ?_
      rw [ei, ← es]
      exact round ⟨i + 1, rfl, ⟨rfl, by omega⟩, by omega⟩
    · rw [hb, if_neg (by simp)] at es
      refine go T_ok 100 rfl ?_
      rw [ei, ← es]
      exact round ⟨i + 1, rfl, ⟨rfl, by omega⟩, by omega⟩
  · refine go T_ok 100 rfl ?_
    refine ret (ret1 (v := .int .i64 _) Try.results23 rfl ⟨?_, rfl⟩)
    rw [List.take_of_length_le (by omega)]
theorem weight_any (xs : List Bool) (D k : Int) (A : Option Addr) (c B : Nat) (w : World) (h : Sl w B 1 A xs.length (boolVs xs)) (hl : xs.length ≤ 100000) :
    Ret Try.prog 61 [.slice A xs.length c, .int .i64 D, .int .i64 k] w fun v w' => v = .int .i64 (wtw D k xs) ∧ w = w' := by
  refine enter Try.func61 rfl Try.ntmps61 rfl ?_
  refine go T_ok 100 rfl ?_
  refine loop [1, 2, 7, 10, 11, 12] (fun i : Nat => [.int .i64 D, .int .i64 k, .int .i64 (wtw D k (xs.take i)), .slice A xs.length c, .int .i64 (xs.length : Int), .int .i64 (i : Int)])
    (fun i w' => w = w' ∧ i ≤ xs.length) (fun i => xs.length - i) 0 (fun _ => rfl) rfl ⟨rfl, by omega⟩ ?_
  rintro i τ w' ⟨rfl, hi⟩
  refine go T_ok 100 rfl ?_
  refine condD rfl (fun hlt => ?_) (fun hlt => ?_)
  · have hlt : i < xs.length := by omega
    refine go T_ok 100 rfl ?_
    obtain ⟨_, _, hA⟩ := h
    obtain ⟨b, off, rfl, hb, hcells⟩ := hA (by omega)
    refine idx T_ok rfl rfl rfl rfl rfl i rfl (by omega) ?_
    refine go T_ok 100 rfl ?_
    rw [show off + i * 1 = off + i by omega]
    refine ld T_ok rfl rfl rfl rfl (hcells i _ (boolVs_get hlt)) ?_
    refine go T_ok 100 rfl ?_
    have ei : w64 ((i : Int) + 1) = ((i + 1 : Nat) : Int) := w64_id (by omega) (by omega)
    have es := wtw_snoc D k xs i hlt
    refine cond rfl (fun hb => ?_) (fun hb => ?_)
    · rw [hb, if_pos rfl] at es
      refine go T_ok 100 rfl ?_
      rw [ei, ← es]
      exact round ⟨i + 1, rfl, ⟨rfl, by omega⟩, by omega⟩
    · rw [hb, if_neg (by simp)] at es
      refine go T_ok 100 rfl ?_
      rw [ei, ← es]
      exact round ⟨i + 1, rfl, ⟨rfl, by omega⟩, by omega⟩
  · refine go T_ok 100 rfl ?_
    refine ret (ret1 (v := .int .i64 _) Try.results61 rfl ⟨?_, rfl⟩)
    rw [List.take_of_length_le (by omega)]
/-- how many hits -/
def hitsL (xs : List Bool) : Nat := xs.countP id
theorem Hits_any (xs : List Bool) (A : Option Addr) (c B : Nat) (w : World) (h : Sl w B 1 A xs.length (boolVs xs)) (hl : xs.length ≤ 100000) :
    Ret Try.prog 62 [.slice A xs.length c] w fun v w' => v = .int .i64 (hitsL xs) ∧ w = w' := by
  refine enter Try.func62 rfl Try.ntmps62 rfl ?_
  refine go T_ok 100 rfl ?_
  refine loop [0, 3, 4] (fun i : Nat => [.slice A xs.length c, .int .i64 (hitsL (xs.take i)), .int .i64 (i : Int)])
    (fun i w' => w = w' ∧ i ≤ xs.length) (fun i => xs.length - i) 0 (fun _ => rfl) rfl ⟨rfl, by omega⟩ ?_
  rintro i τ w' ⟨rfl, hi⟩
  refine go T_ok 100 rfl ?_
  refine condD rfl (fun hlt => ?_) (fun hlt => ?_)
  · have hlt : i < xs.length := by omega
    refine go T_ok 100 rfl ?_
    obtain ⟨_, _, hA⟩ := h
    obtain ⟨b, off, rfl, hb, hcells⟩ := hA (by omega)
    refine idx T_ok rfl rfl rfl rfl rfl i rfl (by omega) ?_
    refine go T_ok 100 rfl ?_
    rw [show off + i * 1 = off + i by omega]
    refine ld T_ok rfl rfl rfl rfl (hcells i _ (boolVs_get hlt)) ?_
    refine go T_ok 100 rfl ?_
    have ei : w64 ((i : Int) + 1) = ((i + 1 : Nat) : Int) := w64_id (by omega) (by omega)
    have hle : hitsL (xs.take i) ≤ i := by
      have h1 : hitsL (xs.take i) ≤ (xs.take i).length := List.countP_le_length
      rw [List.length_take] at h1
      omega
    have es : hitsL (xs.take (i + 1)) = hitsL (xs.take i) + (if xs[i] then 1 else 0) := by
      unfold hitsL
      rw [List.take_succ_eq_append_getElem hlt, List.countP_append]
      congr 1
      cases xs[i] <;> rfl
    have eh : w64 ((hitsL (xs.take i) : Int) + 1) = ((hitsL (xs.take i) + 1 : Nat) : Int) := w64_id (by omega) (by omega)
    refine cond rfl (fun hb => ?_) (fun hb => ?_)
    · rw [hb, if_pos rfl] at es
      refine go T_ok 100 rfl ?_
      rw [ei, eh, ← es]
      exact round ⟨i + 1, rfl, ⟨rfl, by omega⟩, by omega⟩
    · have es : hitsL (xs.take (i + 1)) = hitsL (xs.take i) := by rw [es, hb]; rfl
      refine go T_ok 100 rfl ?_
      rw [ei, ← es]
      exact round ⟨i + 1, rfl, ⟨rfl, by omega⟩, by omega⟩
  · refine go T_ok 100 rfl ?_
    refine ret (ret1 (v := .int .i64 _) Try.results62 rfl ⟨?_, rfl⟩)
    rw [List.take_of_length_le (by omega)]
end Go.Proofs.Ytocolpbakaibnaa
