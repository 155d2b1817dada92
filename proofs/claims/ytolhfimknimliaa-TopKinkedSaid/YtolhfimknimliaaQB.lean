/- From another seat: module C5. -/
import Derived.Test.YtolhfimknimliaaQA
import Derived.Laws.StructEq
namespace Go.Proofs.Ytolhfimknimliaa.Q
open Go.Ev Go.Proofs Go.Cnt
attribute [local irreducible] At AtH

/-- is a rate kept -/
def kp (S : Nat → BS) (j : Nat) : Bool := !(S j).out
/-- spans, flat -/
def spL (l : List (Nat × Nat)) : List Value := l.flatMap fun s => [.int .i64 (s.1 : Int), .int .i64 (s.2 : Int)]
theorem spL_add (l : List (Nat × Nat)) (a b : Nat) : spL (l ++ [(a, b)]) = spL l ++ [.int .i64 (a : Int), .int .i64 (b : Int)] := by simp [spL]
/-- the least and the greatest of some runs -/
def hullL (l : List (Nat × Nat)) : Nat × Nat := ((l.headD (0, 0)).1, (l.getLastD (0, 0)).2)
theorem spL_len (l : List (Nat × Nat)) : (spL l).length = l.length * 2 := by
  induction l with
  | nil => rfl
  | cons a l ih => simp only [spL, List.flatMap_cons, List.length_append, List.length_cons, List.length_nil] at ih ⊢; omega
theorem spL_get {l : List (Nat × Nat)} : ∀ {i : Nat} {s : Nat × Nat}, l[i]? = some s → (spL l)[2 * i]? = some (.int .i64 s.1) ∧ (spL l)[2 * i + 1]? = some (.int .i64 s.2) := by
  induction l with
  | nil => intro i s h; simp at h
  | cons a l ih =>
    intro i s h
    cases i with
    | zero => simp at h; subst h; exact ⟨rfl, rfl⟩
    | succ i =>
      obtain ⟨h1, h2⟩ := ih (i := i) (s := s) (by simpa using h)
      exact ⟨h1, h2⟩
/-- after how many slots the last of m rates from k on is excluded, where all are -/
def allFrom (S : Nat → BS) (k : Nat) (n : Int) : Nat → Int × Bool
  | 0 => (n, true)
  | m + 1 => if (S k).out then allFrom S (k + 1) (max n (S k).at_) m else (0, false)
theorem all_any (b g D : Nat) (lv : Int) (S : Nat → BS) (w : World) (H : Bets w b g D lv S) (hD1 : D ≤ 1000) (low m : Nat) (hi : low + m ≤ D + 1) :
    Ret Try.prog 82 [.pointer (some ⟨b, 0, none⟩), .int .i64 low, .int .i64 ((low : Int) + m - 1)] w fun v w' => v = .tuple #[.int .i64 (allFrom S low 0 m).1, .bool (allFrom S low 0 m).2] ∧ w = w' := by
  obtain ⟨f, cap, Rb, a0, a1, a2, a3, a4, a5⟩ := H.par
  refine enter Try.func82 rfl Try.ntmps82 rfl ?_
  refine go T_ok 100 rfl ?_
  refine loop [0, 2, 8, 9] (fun x : Nat × Int => [.pointer (some ⟨b, 0, none⟩), .int .i64 ((low : Int) + m - 1), .int .i64 x.2, .int .i64 ((x.1 : Nat) : Int)])
    (fun x w' => w = w' ∧ low ≤ x.1 ∧ x.1 ≤ low + m ∧ allFrom S low 0 m = allFrom S x.1 x.2 (low + m - x.1)) (fun x => low + m - x.1) (low, 0) (fun _ => rfl) rfl ⟨rfl, Nat.le_refl _, by simp, by simp⟩ ?_
  rintro ⟨k, n⟩ τ w' ⟨rfl, h1, h2, h3⟩
  simp only at h1 h2 h3
  refine go T_ok 100 rfl ?_
  refine condD rfl (fun hlt => ?_) (fun hlt => ?_)
  · have hlt : (k : Int) ≤ (low : Int) + m - 1 := hlt
    refine go T_ok 100 rfl ?_
    refine idxA T_ok rfl rfl rfl rfl rfl k rfl (by omega) ?_
    refine go T_ok 100 rfl ?_
    have e3 : 0 + 3 + k * 1 = 3 + k := by omega
    rw [e3]
    refine ld T_ok rfl rfl rfl rfl ((Rb.cell (i := 3 + k) (by omega)).trans (congrArg some (a4 k (by omega)))) ?_
    refine go T_ok 100 rfl ?_
    obtain ⟨r, hr⟩ : ∃ r, low + m - k = r + 1 := ⟨low + m - k - 1, by omega⟩
    rw [hr, allFrom] at h3
    cases ho : (S k).out with
    | false =>
      refine condT rfl rfl ?_
      refine go T_ok 100 rfl ?_
      rw [ho] at h3
      exact ret (ret2 (v := .int .i64 _) (x := .bool _) Try.results82 rfl rfl ⟨by rw [h3]; rfl, rfl⟩)
    | true =>
      refine condF rfl rfl ?_
      refine go T_ok 100 rfl ?_
      refine idxA T_ok rfl rfl rfl rfl rfl k rfl (by omega) ?_
      refine go T_ok 100 rfl ?_
      have e5 : 0 + 1005 + k * 1 = 1005 + k := by omega
      rw [e5]
      refine ld T_ok rfl rfl rfl rfl ((Rb.cell (i := 1005 + k) (by omega)).trans (congrArg some (a5 k (by omega) ho))) ?_
      refine go T_ok 100 rfl ?_
      have ek : w64 ((k : Int) + 1) = ((k + 1 : Nat) : Int) := w64_id (by omega) (by omega)
      rw [ek]
      refine round ⟨(k + 1, max n (S k).at_), rfl, ⟨rfl, by simp only; omega, by simp only; omega, ?_⟩, by simp only; omega⟩
      rw [ho, if_pos rfl] at h3
      rw [h3, show low + m - (k + 1) = r by omega]
  · refine go T_ok 100 rfl ?_
    have hlt : ¬ ((k : Int) ≤ (low : Int) + m - 1) := hlt
    have : low + m - k = 0 := by omega
    rw [this, allFrom] at h3
    exact ret (ret2 (v := .int .i64 _) (x := .bool _) Try.results82 rfl rfl ⟨by rw [h3], rfl⟩)

/-- the verdict for two rates, and after how many slots -/
def decS (S : Nat → BS) (D low high : Nat) : Int × Int :=
  if (allFrom S high 0 (D + 1 - high)).2 && (!(allFrom S 0 0 (low + 1)).2 || decide ((allFrom S high 0 (D + 1 - high)).1 ≤ (allFrom S 0 0 (low + 1)).1)) then (2, (allFrom S high 0 (D + 1 - high)).1)
  else if (allFrom S 0 0 (low + 1)).2 then (3, (allFrom S 0 0 (low + 1)).1) else (1, 0)
theorem decide_any (b g D : Nat) (lv : Int) (S : Nat → BS) (w : World) (H : Bets w b g D lv S) (hD1 : D ≤ 1000) (low high : Nat) (hl : low < high) (hh : high ≤ D) :
    Ret Try.prog 45 [.pointer (some ⟨b, 0, none⟩), .int .i64 low, .int .i64 high] w fun v w' => v = .tuple #[.int .i64 (decS S D low high).1, .int .i64 (decS S D low high).2] ∧ w = w' := by
  obtain ⟨f, cap, Rb, a0, _⟩ := H.par
  refine enter Try.func45 rfl Try.ntmps45 rfl ?_
  refine go T_ok 100 rfl ?_
  refine ld T_ok rfl rfl rfl rfl ((Rb.cell (i := 0) (by omega)).trans (congrArg some a0)) ?_
  refine go T_ok 100 rfl ?_
  have h1 := all_any b g D lv S w H hD1 high (D + 1 - high) (by omega)
  rw [show ((high : Int) + ((D + 1 - high : Nat) : Int) - 1) = (D : Int) by omega] at h1
  have h2 := all_any b g D lv S w H hD1 0 (low + 1) (by omega)
  rw [show (((0 : Nat) : Int) + ((low + 1 : Nat) : Int) - 1) = (low : Int) by omega, show ((0 : Nat) : Int) = 0 from rfl] at h2
  unfold decS
  generalize allFrom S high 0 (D + 1 - high) = u at h1 ⊢
  obtain ⟨under, below⟩ := u
  generalize allFrom S 0 0 (low + 1) = u at h2 ⊢
  obtain ⟨over, above⟩ := u
  simp only at h1 h2 ⊢
  cases below with
  | false =>
    refine call rfl rfl rfl (ok _ (by decide) rfl) h1 ?_
    rintro v w1 ⟨rfl, rfl⟩
    refine go T_ok 100 rfl ?_
    refine call rfl rfl rfl (ok _ (by decide) rfl) h2 ?_
    rintro v w1 ⟨rfl, rfl⟩
    refine go T_ok 100 rfl ?_
    refine guard (j := 1) (want := true) (t := 30) (b := false) rfl rfl rfl (fun h => by cases h) (fun _ => ?_)
    refine go T_ok 100 rfl ?_
    cases above with
    | true =>
      refine condT rfl rfl ?_
      refine go T_ok 100 rfl ?_
      exact ret (ret2 (v := .int .i64 _) (x := .int .i64 _) Try.results45 rfl rfl ⟨rfl, rfl⟩)
    | false =>
      refine condF rfl rfl ?_
      refine go T_ok 100 rfl ?_
      exact ret (ret2 (v := .int .i64 _) (x := .int .i64 _) Try.results45 rfl rfl ⟨rfl, rfl⟩)
  | true =>
    cases above with
    | false =>
      refine call rfl rfl rfl (ok _ (by decide) rfl) h1 ?_
      rintro v w1 ⟨rfl, rfl⟩
      refine go T_ok 100 rfl ?_
      refine call rfl rfl rfl (ok _ (by decide) rfl) h2 ?_
      rintro v w1 ⟨rfl, rfl⟩
      refine go T_ok 100 rfl ?_
      refine guard (j := 1) (want := true) (t := 30) (b := true) rfl rfl rfl (fun _ => ?_) (fun h => by cases h)
      refine go T_ok 100 rfl ?_
      refine guardN (b := false) rfl rfl rfl (fun _ => ?_) (fun h => by cases h)
      refine go T_ok 100 rfl ?_
      exact ret (ret2 (v := .int .i64 _) (x := .int .i64 _) Try.results45 rfl rfl ⟨rfl, rfl⟩)
    | true =>
      refine call rfl rfl rfl (ok _ (by decide) rfl) h1 ?_
      rintro v w1 ⟨rfl, rfl⟩
      refine go T_ok 100 rfl ?_
      refine call rfl rfl rfl (ok _ (by decide) rfl) h2 ?_
      rintro v w1 ⟨rfl, rfl⟩
      refine go T_ok 100 rfl ?_
      refine guard (j := 1) (want := true) (t := 30) (b := true) rfl rfl rfl (fun _ => ?_) (fun h => by cases h)
      refine go T_ok 100 rfl ?_
      refine guardN (b := true) rfl rfl rfl (fun h => by cases h) (fun _ => ?_)
      refine go T_ok 100 rfl ?_
      refine condD rfl (fun hle => ?_) (fun hle => ?_)
      · refine go T_ok 100 rfl ?_
        refine ret (ret2 (v := .int .i64 _) (x := .int .i64 _) Try.results45 rfl rfl ⟨?_, rfl⟩)
        rw [if_pos (by simp [hle])]
      · refine go T_ok 100 rfl ?_
        refine condT rfl rfl ?_
        refine go T_ok 100 rfl ?_
        refine ret (ret2 (v := .int .i64 _) (x := .int .i64 _) Try.results45 rfl rfl ⟨?_, rfl⟩)
        rw [if_neg (by simpa using hle)]
        rfl
end Go.Proofs.Ytolhfimknimliaa.Q
namespace Go.Proofs.Ytolhfimknimliaa.Q
open Go.Ev Go.Proofs Go.Cnt
attribute [local irreducible] At AtH

theorem listedE_zero {n : Nat} {D : Int} {b : Bool} (h : listedE n D b = 0) : ∃ d : Nat, D = d ∧ 2 ≤ d ∧ d ≤ 1000 ∧ n ≤ 4000 ∧ b = true := by
  unfold listedE at h
  split at h
  · omega
  · rename_i h1
    rw [Bool.not_eq_false, inB_iff] at h1
    split at h
    · omega
    · split at h
      · rename_i hb
        exact ⟨D.toNat, by omega, by omega, by omega, by omega, hb⟩
      · omega
/-- the states of all rates after some slots -/
def sts (D : Nat) (lv : Int) (xs : List Bool) : Nat → BS := fun j => bst D lv j xs
/-- the runs of kept rates -/
def keptL (D : Nat) (lv : Int) (xs : List Bool) : List (Nat × Nat) := spansTo (kp (sts D lv xs)) (D + 1)
theorem keptL_len (D : Nat) (lv : Int) (xs : List Bool) : (keptL D lv xs).length ≤ D + 1 := spansTo_len _ _
theorem kept_cnt {D : Nat} {S : Nat → BS} : ((cnt (fun j => !(S j).out) (D + 1) : Int) == 0) = (spansTo (kp S) (D + 1)).isEmpty := by
  rw [Bool.eq_iff_iff]
  simp only [beq_iff_eq, List.isEmpty_iff]
  constructor
  · intro h
    have h : cnt (fun j => !(S j).out) (D + 1) = 0 := by omega
    rw [cnt_zero] at h
    cases hl : spansTo (kp S) (D + 1) with
    | nil => rfl
    | cons s l =>
      have hs : s ∈ spansTo (kp S) (D + 1) := by rw [hl]; exact List.mem_cons_self
      obtain ⟨h1, h2, h3⟩ := spansTo_run hs
      have h4 := h3 s.1 (Nat.le_refl _) h1
      have h5 := h s.1 (by omega)
      simp only [kp] at h4
      rw [h5] at h4
      cases h4
  · intro h
    have : cnt (fun j => !(S j).out) (D + 1) = 0 := by
      rw [cnt_zero]
      intro j hj
      cases hp : (!(S j).out) with
      | false => rfl
      | true =>
        obtain ⟨s, hs, _⟩ := spansTo_has (p := kp S) hj hp
        rw [h] at hs
        cases hs
    omega
end Go.Proofs.Ytolhfimknimliaa.Q
namespace Go.Proofs.Ytolhfimknimliaa.Q
open Go.Ev Go.Proofs Go.Cnt
attribute [local irreducible] At AtH

theorem inB_nat {x D : Int} (h : inB x 0 D = true) : ∃ k : Nat, x = k ∧ (k : Int) ≤ D := by
  rw [inB_iff] at h
  exact ⟨x.toNat, by omega, by omega⟩
/-- what Excluded answers -/
def exclE (n : Nat) (D lv x : Int) : Int := listedE n D (inB lv 2 900000 && inB x 0 D)
/-- what Decide answers -/
def decE (n : Nat) (D lv lo hi : Int) : Int := listedE n D (decB lv lo hi D)
theorem Decide_any (xs : List Bool) (D lv lo hi : Int) (A : Option Addr) (c B : Nat) (w : World) (hSl : Sl w B 1 A xs.length (boolVs xs)) (hb : -9223372036854775808 < hi ∧ hi ≤ 9223372036854775807) :
    Ret Try.prog 12 [.slice A xs.length c, .int .i64 D, .int .i64 lv, .int .i64 lo, .int .i64 hi] w fun v w' => Chg No w w' ∧
      v = .tuple #[.int .i64 (if decE xs.length D lv lo hi = 0 then (decS (sts D.toNat lv xs) D.toNat lo.toNat hi.toNat).1 else 0), .int .i64 (if decE xs.length D lv lo hi = 0 then (decS (sts D.toNat lv xs) D.toNat lo.toNat hi.toNat).2 else 0), .int .i64 (decE xs.length D lv lo hi)] := by
  refine enter Try.func12 rfl Try.ntmps12 rfl ?_
  refine go T_ok 100 rfl ?_
  refine bx rfl rfl rfl (cs := [.int .i64 D]) rfl ?_
  intro g1 w1 hg1 hs1 q1 B1
  refine go T_ok 100 rfl ?_
  refine bx rfl rfl rfl (cs := [.int .i64 lv]) rfl ?_
  intro g2 w2 hg2 hs2 q2 B2
  refine go T_ok 100 rfl ?_
  refine bx rfl rfl rfl (cs := [.int .i64 lo]) rfl ?_
  intro g3 w3 hg3 hs3 q3 B3
  refine go T_ok 100 rfl ?_
  refine bx rfl rfl rfl (cs := [.int .i64 hi]) rfl ?_
  intro g4 w4 hg4 hs4 q4 B4
  have B1 := ((B1.no q2).no q3).no q4
  have B2 := (B2.no q3).no q4
  have B3 := B3.no q4
  have q := ((q1.trans q2).trans q3).trans q4
  refine go T_ok 100 rfl ?_
  refine ld T_ok rfl rfl rfl rfl (B1.get rfl) ?_
  refine go T_ok 100 rfl ?_
  refine call rfl rfl rfl (ok _ (by decide) rfl) (listed_any A xs.length c D 40 [.pointer (some ⟨g2, 0, none⟩), .pointer (some ⟨g3, 0, none⟩), .pointer (some ⟨g4, 0, none⟩), .pointer (some ⟨g1, 0, none⟩)] (ok _ (by decide) rfl) _ w4 (lev57 lv lo hi D g2 g3 g4 g1 w4 B2 B3 B4 B1 hb)) ?_
  rintro v w5 ⟨rfl, rfl⟩
  refine go T_ok 100 rfl ?_
  refine cond rfl (fun h => ?_) (fun h => ?_)
  · have h : decE xs.length D lv lo hi ≠ 0 := by simpa [decE] using h
    refine go T_ok 100 rfl ?_
    refine ret (ret3 (v := .int .i64 _) (x := .int .i64 _) (y := .int .i64 _) Try.results12 rfl rfl rfl ⟨q, ?_⟩)
    rw [if_neg h, if_neg h]
    rfl
  · have h : decE xs.length D lv lo hi = 0 := by simpa [decE] using h
    rw [if_pos h, if_pos h]
    obtain ⟨d, rfl, hd0, hd1, hn, hlv⟩ := listedE_zero h
    simp only [decB, Bool.and_eq_true, decide_eq_true_eq] at hlv
    obtain ⟨hlv, hlo, hhi⟩ := hlv
    rw [inB_iff] at hlv
    obtain ⟨lo, rfl, hlo⟩ := inB_nat hlo
    obtain ⟨hi, rfl⟩ : ∃ k : Nat, hi = k := ⟨hi.toNat, by omega⟩
    refine go T_ok 100 rfl ?_
    have hB := hSl.2.1
    have hs := q.size
    refine draw mixed (fun w' => Chg No w4 w') ([0,1,3,5,6].map (fun i => (i, true)) ++ [(2, false)] ++ [(4, false)] ++ [(7, false)] ++ [8,9,10,11,12].map (fun i => (i, true))) rfl (by kernel_rfl) (Chg.drew _) ?_
    refine goH T_ok 100 rfl ?_
    refine quietH rfl (fun w' hS => r_load T_ok rfl rfl rfl ((B1.no hS).get rfl)) ?_
    refine goH T_ok 100 rfl ?_
    refine quietH rfl (fun w' hS => r_load T_ok rfl rfl rfl ((B2.no hS).get rfl)) ?_
    refine goH T_ok 100 rfl ?_
    refine quietH rfl (fun w' hS => r_load T_ok rfl rfl rfl ((B3.no hS).get rfl)) ?_
    refine goH T_ok 100 rfl ?_
    refine quietH rfl (fun w' hS => r_load T_ok rfl rfl rfl ((B4.no hS).get rfl)) ?_
    refine goH T_ok 100 rfl ?_
    refine callE rfl rfl rfl (ok _ (by decide) rfl) (begin_any d lv w4.drew hd0 hd1) ?_
    rintro v w5 ⟨b, g, rfl, hb', hg, q5, H⟩
    have hdr : w4.drew.heap.size = w4.heap.size := rfl
    have q45 : Chg No w4 w5 := (Chg.drew w4).trans q5
    refine ⟨q45, ?_⟩
    refine goH T_ok 100 rfl ?_
    refine callE rfl rfl rfl (ok _ (by decide) rfl) (run_any xs d lv b g B c A w5 ((hSl.no q).no q45) (by omega) (by omega) H hn hd0 hd1 (by omega) (by omega)) ?_
    rintro v w6 ⟨rfl, q6, H6⟩
    have q46 : Chg No w4 w6 := q45.step q6 (fun k hk h => by rcases h with h | h <;> omega)
    refine ⟨q46, ?_⟩
    refine goH T_ok 100 rfl ?_
    refine callE rfl rfl rfl (ok _ (by decide) rfl) (decide_any b g d lv (sts d lv xs) w6 H6 hd1 lo hi (by omega) (by omega)) ?_
    rintro v w7 ⟨rfl, rfl⟩
    refine ⟨q46, ?_⟩
    refine goH T_ok 100 rfl ?_
    refine endH ?_
    refine go T_ok 100 rfl ?_
    refine ret (ret3 (v := .int .i64 _) (x := .int .i64 _) (y := .int .i64 _) Try.results12 rfl rfl rfl ⟨q.trans q46, ?_⟩)
    rw [h]
    rfl
end Go.Proofs.Ytolhfimknimliaa.Q
namespace Go.Proofs.Ytolhfimknimliaa.Q
open Go.Ev Go.Proofs Go.Cnt
attribute [local irreducible] At AtH

theorem hull_bd {p : Nat → Bool} {n : Nat} : (hullL (spansTo p n)).1 ≤ n ∧ (hullL (spansTo p n)).2 ≤ n := by
  have h : ∀ s ∈ spansTo p n, s.1 ≤ n ∧ s.2 ≤ n := fun s hs => by
    have := spansTo_run hs
    omega
  generalize spansTo p n = l at h ⊢
  constructor
  · cases l with
    | nil => simp [hullL]
    | cons a l => exact (h a (by simp)).1
  · simp only [hullL, List.getLastD_eq_getLast?]
    cases hl : l.getLast? with
    | none => simp
    | some a => exact (h a (List.mem_of_getLast? hl)).2
/-- are the kept rates close together, or none -/
def nearB (S : Nat → BS) (D : Nat) (wd : Int) : Bool := (spansTo (kp S) (D + 1)).isEmpty || decide (((hullL (spansTo (kp S) (D + 1))).2 : Int) - (hullL (spansTo (kp S) (D + 1))).1 ≤ wd)
/-- the first number from n on, of m, with a property -/
def firstN (p : Nat → Bool) (n : Nat) : Nat → Option Nat
  | 0 => none
  | m + 1 => if p n then some n else firstN p (n + 1) m
/-- after how many slots Stop stops -/
def stopN (D : Nat) (lv wd : Int) (xs : List Bool) : Option Nat := firstN (fun n => nearB (sts D lv (xs.take n)) D wd) 0 (xs.length + 1)
def optI (o : Option Nat) : Int := match o with | some n => n | none => 0
def optE (o : Option Nat) : Int := match o with | some _ => 0 | none => 5
end Go.Proofs.Ytolhfimknimliaa.Q
namespace Go.Proofs.Ytolhfimknimliaa.Q
open Go.Ev Go.Proofs Go.Cnt
attribute [local irreducible] At AtH

/-- the bet against one rate, after some slots, never stopped -/
def cst (D k : Int) (xs : List Bool) : BS := xs.foldl (bnext D k) BS.new
theorem cst_snoc (D k : Int) (xs : List Bool) (i : Nat) (h : i < xs.length) : cst D k (xs.take (i + 1)) = bnext D k (cst D k (xs.take i)) xs[i] := by
  unfold cst
  rw [List.take_succ_eq_append_getElem h, List.foldl_append]
  rfl
theorem cst_ok {D k : Int} (hD : 0 ≤ D) (hk0 : 0 ≤ k) (hk1 : k ≤ D) (xs : List Bool) : 0 ≤ (cst D k xs).c ∧ (cst D k xs).c ≤ 1000000000000 ∧ 0 ≤ (cst D k xs).h ∧ (cst D k xs).h ≤ (cst D k xs).n ∧ (cst D k xs).n = xs.length := by
  have h : ∀ (xs : List Bool) (s : BS), 0 ≤ s.c → s.c ≤ 1000000000000 → 0 ≤ s.h → s.h ≤ s.n →
      0 ≤ (xs.foldl (bnext D k) s).c ∧ (xs.foldl (bnext D k) s).c ≤ 1000000000000 ∧ 0 ≤ (xs.foldl (bnext D k) s).h ∧ (xs.foldl (bnext D k) s).h ≤ (xs.foldl (bnext D k) s).n ∧ (xs.foldl (bnext D k) s).n = s.n + xs.length := by
    intro xs
    induction xs with
    | nil => intro s h1 h2 h3 h4; simp [h1, h2, h3, h4]
    | cons x xs ih =>
      intro s h1 h2 h3 h4
      have hb := nextC_bd (D := D) (k := k) x h1 h2 (by omega) h3 h4 hD hk0 hk1
      have hi : 0 ≤ b2i x ∧ b2i x ≤ 1 := by cases x <;> simp [b2i]
      obtain ⟨i1, i2, i3, i4, i5⟩ := ih (bnext D k s x) hb.1 hb.2 (by show 0 ≤ s.h + b2i x; omega) (by show s.h + b2i x ≤ s.n + 1; omega)
      refine ⟨i1, i2, i3, i4, ?_⟩
      rw [List.foldl_cons, i5]
      show s.n + 1 + _ = _
      simp only [List.length_cons]
      omega
  have := h xs BS.new (by decide) (by decide) (by decide) (by decide)
  simpa [cst, BS.new] using this
/-- the capitals after the first m numbers of slots -/
def capV (D k : Int) (xs : List Bool) (m : Nat) : List Value := (List.range m).map fun i => .int .i64 (cst D k (xs.take i)).c
theorem capV_succ (D k : Int) (xs : List Bool) (m : Nat) : capV D k xs (m + 1) = capV D k xs m ++ [.int .i64 (cst D k (xs.take m)).c] := by simp [capV, List.range_succ]
def capE (n : Nat) (D x : Int) : Int := listedE n D (inB x 0 D)
/-- the verdict on two lists of kept runs -/
def cmpL (l m : List (Nat × Nat)) : Int :=
  if l.isEmpty || m.isEmpty then 1 else if (hullL l).2 < (hullL m).1 then 2 else if (hullL m).2 < (hullL l).1 then 3 else 1
/-- the error of Compare -/
def cmpE (n m : Nat) (D lv : Int) : Int := if n ≤ 4000 ∧ listedE m D true ≠ 0 then listedE m D true else listedE n D (inB lv 2 450000)
end Go.Proofs.Ytolhfimknimliaa.Q
namespace Go.Proofs.Ytolhfimknimliaa.Q
open Go.Ev Go.Proofs Go.Cnt
attribute [local irreducible] At AtH

theorem cmpE_zero {n m : Nat} {D lv : Int} (h : cmpE n m D lv = 0) : ∃ d : Nat, D = d ∧ 2 ≤ d ∧ d ≤ 1000 ∧ n ≤ 4000 ∧ m ≤ 4000 ∧ 2 ≤ lv ∧ lv ≤ 450000 := by
  unfold cmpE at h
  split at h
  · rename_i h1
    exact absurd h h1.2
  · rename_i h1
    obtain ⟨d, rfl, h2, h3, h4, h5⟩ := listedE_zero h
    rw [inB_iff] at h5
    have h6 : listedE m d true = 0 := by
      cases Decidable.em (listedE m (d : Int) true = 0) with
      | inl h => exact h
      | inr h => exact absurd ⟨h4, h⟩ h1
    obtain ⟨_, _, _, _, h7, _⟩ := listedE_zero h6
    exact ⟨d, rfl, h2, h3, h4, h7, h5.1, h5.2⟩
end Go.Proofs.Ytolhfimknimliaa.Q
namespace Go.Proofs.Ytolhfimknimliaa.Q
open Go.Ev Go.Proofs Go.Cnt
attribute [local irreducible] At AtH

/-- does a watch begin at a slot -/
def newB (i : Nat) : Bool := Nat.beq i 0 || Nat.beq (Nat.land i (i - 1)) 0
/-- the slots at which the watches begin that begin before a slot -/
def wl : Nat → List Nat
  | 0 => []
  | i + 1 => wl i ++ (if newB i then [i] else [])
def nW : Nat → Nat
  | 0 => 0
  | i + 1 => nW i + (if newB i then 1 else 0)
theorem wl_len : ∀ i, (wl i).length = nW i := by
  intro i
  induction i with
  | zero => rfl
  | succ i ih => simp only [wl, nW, List.length_append, ih]; split <;> rfl
theorem nW_mono {i j : Nat} (h : i ≤ j) : nW i ≤ nW j := by
  induction h with
  | refl => exact Nat.le_refl _
  | step _ ih => exact Nat.le_trans ih (by simp only [nW]; omega)
def cntB (lo : Nat) : Nat → Nat
  | 0 => if newB lo then 1 else 0
  | k + 1 => cntB lo k + cntB (lo + 2 ^ k) k
theorem nW_cntB : ∀ (k lo : Nat), nW (lo + 2 ^ k) = nW lo + cntB lo k := by
  intro k
  induction k with
  | zero => intro lo; rfl
  | succ k ih =>
    intro lo
    rw [show lo + 2 ^ (k + 1) = (lo + 2 ^ k) + 2 ^ k by rw [Nat.pow_succ]; omega, ih, ih, cntB]
    omega
theorem cntB_12 : Nat.ble (cntB 0 12) 13 = true := by kernel_rfl
theorem wl_le {i : Nat} (h : i ≤ 4000) : (wl i).length ≤ 13 := by
  rw [wl_len]
  have h1 := nW_cntB 12 0
  have h2 := Nat.le_of_ble_eq_true cntB_12
  have h3 := nW_mono (i := i) (j := 0 + 2 ^ 12) (by omega)
  have h4 : nW 0 = 0 := rfl
  omega
theorem wl_mem {i s : Nat} (h : s ∈ wl i) : s < i := by
  induction i with
  | zero => simp [wl] at h
  | succ i ih =>
    simp only [wl, List.mem_append] at h
    rcases h with h | h
    · have := ih h; omega
    · split at h <;> simp at h; omega
theorem and_lem {i : Nat} (h0 : 1 ≤ i) (h1 : i ≤ 4000) : (bitw .and (i : Int) (w64 ((i : Int) - 1)) == 0) = Nat.beq (Nat.land i (i - 1)) 0 := by
  have e1 : w64 ((i : Int) - 1) = ((i - 1 : Nat) : Int) := (w64_id (by omega) (by omega)).trans (by omega)
  rw [e1]
  unfold bitw
  have e2 : ((BitVec.ofInt 64 (i : Int)) &&& (BitVec.ofInt 64 ((i - 1 : Nat) : Int))).toNat = Nat.land i (i - 1) := by
    rw [BitVec.toNat_and, BitVec.ofInt_natCast, BitVec.ofInt_natCast, BitVec.toNat_ofNat, BitVec.toNat_ofNat, Nat.mod_eq_of_lt (by omega), Nat.mod_eq_of_lt (by omega)]
    rfl
  simp only
  rw [e2]
  have hle : Nat.land i (i - 1) ≤ i := Nat.and_le_left
  rw [w64_id (by omega) (by omega)]
  rw [Bool.eq_iff_iff, beq_iff_eq, Nat.beq_eq]
  omega
/-- the level of a watch -/
def wlv (lv : Int) (j : Nat) : Int := lv * 2 ^ (j + 1)
/-- the slots that watch j has seen, after i slots -/
def seen (xs : List Bool) (m i j : Nat) : List Bool := (xs.take i).drop ((wl m).getD j 0)
/-- has watch j no rate left after slot i -/
def dead (D : Nat) (lv : Int) (xs : List Bool) (i j : Nat) : Bool := (keptL D (wlv lv j) (seen xs (i + 1) (i + 1) j)).isEmpty
/-- the change announced at slot i or one of m later ones: after how many slots, by which watch -/
def chgN (D : Nat) (lv : Int) (xs : List Bool) (i : Nat) : Nat → Option (Nat × Nat)
  | 0 => none
  | m + 1 => match firstN (dead D lv xs i) 0 (wl (i + 1)).length with
    | some j => some (i + 1, j)
    | none => chgN D lv xs (i + 1) m
def ptrs (bg : List (Nat × Nat)) : List Value := bg.map fun p => .pointer (some ⟨p.1, 0, none⟩)
/-- the watches in memory, those below j one slot ahead -/
structure Wat (w : World) (lo : Nat) (D : Nat) (lv : Int) (xs : List Bool) (m i j : Nat) (bg : List (Nat × Nat)) : Prop where
  len : bg.length = (wl m).length
  bets : ∀ (k : Nat) (p : Nat × Nat), bg[k]? = some p → Bets w p.1 p.2 D (wlv lv k) (sts D (wlv lv k) (seen xs m (if k < j then i + 1 else i) k))
  low : ∀ (k : Nat) (p : Nat × Nat), bg[k]? = some p → lo ≤ p.1 ∧ lo ≤ p.2
  dis : ∀ (k k' : Nat) (p p' : Nat × Nat), bg[k]? = some p → bg[k']? = some p' → k ≠ k' → p.1 ≠ p'.1 ∧ p.1 ≠ p'.2 ∧ p.2 ≠ p'.1 ∧ p.2 ≠ p'.2
theorem Wat.keep {M : Nat → Prop} {w w' : World} {lo D m i j : Nat} {lv : Int} {xs : List Bool} {bg : List (Nat × Nat)} (h : Wat w lo D lv xs m i j bg) (c : Chg M w w') (hM : ∀ (k : Nat) (p : Nat × Nat), bg[k]? = some p → ¬ M p.1 ∧ ¬ M p.2) : Wat w' lo D lv xs m i j bg :=
  ⟨h.len, fun k p hp => (h.bets k p hp).keep c (hM k p hp).1 (hM k p hp).2, h.low, h.dis⟩
theorem Wat.next {w : World} {lo D m i : Nat} {lv : Int} {xs : List Bool} {bg : List (Nat × Nat)} (h : Wat w lo D lv xs m i bg.length bg) : Wat w lo D lv xs m (i + 1) 0 bg := by
  refine ⟨h.len, fun k p hp => ?_, h.low, h.dis⟩
  have := h.bets k p hp
  have hk : k < bg.length := (List.getElem?_eq_some_iff.1 hp).1
  rw [if_pos hk] at this
  rw [if_neg (by omega)]
  exact this
theorem Wat.old {w : World} {lo D i : Nat} {lv : Int} {xs : List Bool} {bg : List (Nat × Nat)} (h : Wat w lo D lv xs i i 0 bg) (hn : newB i = false) : Wat w lo D lv xs (i + 1) i 0 bg := by
  have e : wl (i + 1) = wl i := by simp [wl, hn]
  refine ⟨by rw [e]; exact h.len, fun k p hp => ?_, h.low, h.dis⟩
  have := h.bets k p hp
  simp only [seen, e] at this ⊢
  exact this
theorem Wat.add {w : World} {lo D i : Nat} {lv : Int} {xs : List Bool} {bg : List (Nat × Nat)} (h : Wat w lo D lv xs i i 0 bg) (hn : newB i = true) {b g : Nat} (H : Bets w b g D (wlv lv bg.length) (fun _ => BS.new)) (hb : lo ≤ b) (hg : lo ≤ g)
    (hd : ∀ (k : Nat) (p : Nat × Nat), bg[k]? = some p → p.1 ≠ b ∧ p.1 ≠ g ∧ p.2 ≠ b ∧ p.2 ≠ g) : Wat w lo D lv xs (i + 1) i 0 (bg ++ [(b, g)]) := by
  have e : wl (i + 1) = wl i ++ [i] := by simp [wl, hn]
  have hl := h.len
  refine ⟨by rw [e]; simp [hl], fun k p hp => ?_, fun k p hp => ?_, fun k k' p p' hp hp' hne => ?_⟩
  · rw [List.getElem?_append] at hp
    split at hp
    · rename_i hk
      have := h.bets k p hp
      have e2 : seen xs (i + 1) i k = seen xs i i k := by
        simp only [seen, e, List.getD_eq_getElem?_getD]
        rw [List.getElem?_append_left (by omega)]
      simp only [Nat.not_lt_zero, if_false] at this ⊢
      rw [e2]
      exact this
    · rename_i hk
      cases hj : k - bg.length with
      | zero =>
        rw [hj] at hp
        simp only [List.getElem?_cons_zero, Option.some.injEq] at hp
        subst hp
        have hk2 : k = bg.length := by omega
        subst hk2
        refine H.congr fun j _ => ?_
        have e3 : seen xs (i + 1) i bg.length = [] := by
          simp only [seen, e, List.getD_eq_getElem?_getD]
          rw [hl, List.getElem?_append_right (Nat.le_refl _)]
          simp
        simp only [Nat.not_lt_zero, if_false]
        rw [e3]
        rfl
      | succ n => rw [hj] at hp; simp at hp
  · rw [List.getElem?_append] at hp
    split at hp
    · exact h.low k p hp
    · cases hj : k - bg.length with
      | zero =>
        rw [hj] at hp
        simp only [List.getElem?_cons_zero, Option.some.injEq] at hp
        subst hp
        exact ⟨hb, hg⟩
      | succ n => rw [hj] at hp; simp at hp
  · rw [List.getElem?_append] at hp hp'
    split at hp
    · split at hp'
      · exact h.dis k k' p p' hp hp' hne
      · cases hj : k' - bg.length with
        | zero =>
          rw [hj] at hp'
          simp only [List.getElem?_cons_zero, Option.some.injEq] at hp'
          subst hp'
          exact hd k p hp
        | succ n => rw [hj] at hp'; simp at hp'
    · cases hj : k - bg.length with
      | zero =>
        rw [hj] at hp
        simp only [List.getElem?_cons_zero, Option.some.injEq] at hp
        subst hp
        split at hp'
        · obtain ⟨d1, d2, d3, d4⟩ := hd k' p' hp'
          exact ⟨d1.symm, d3.symm, d2.symm, d4.symm⟩
        · cases hj' : k' - bg.length with
          | zero => omega
          | succ n => rw [hj'] at hp'; simp at hp'
      | succ n => rw [hj] at hp; simp at hp
theorem seen_snoc {xs : List Bool} {m i j : Nat} (hi : i < xs.length) (hm : m ≤ i + 1) (hj : j < (wl m).length) : seen xs m (i + 1) j = seen xs m i j ++ [xs[i]] := by
  unfold seen
  have hs : (wl m).getD j 0 ≤ i := by
    have := wl_mem (List.getElem_mem hj)
    rw [List.getD_eq_getElem?_getD, List.getElem?_eq_getElem hj]
    simp only [Option.getD_some]
    omega
  rw [List.take_succ_eq_append_getElem hi, List.drop_append_of_le_length (by rw [List.length_take]; omega)]
theorem Wat.stepped {w w' : World} {lo D m i j : Nat} {lv : Int} {xs : List Bool} {bg : List (Nat × Nat)} {p : Nat × Nat} (h : Wat w lo D lv xs m i j bg) (hp : bg[j]? = some p) (c : Chg (fun x => x = p.1 ∨ x = p.2) w w') (hi : i < xs.length) (hm : m ≤ i + 1)
    (H : Bets w' p.1 p.2 D (wlv lv j) (fun k => bstep D (wlv lv j) k (sts D (wlv lv j) (seen xs m i j) k) xs[i])) : Wat w' lo D lv xs m i (j + 1) bg := by
  have hjl : j < (wl m).length := by rw [← h.len]; exact (List.getElem?_eq_some_iff.1 hp).1
  refine ⟨h.len, fun k q hq => ?_, h.low, h.dis⟩
  by_cases e : k = j
  · subst e
    rw [hp] at hq
    cases hq
    refine H.congr fun x _ => ?_
    rw [if_pos (by omega), seen_snoc hi hm hjl]
    simp only [sts, bst, brun, List.foldl_append]
    rfl
  · obtain ⟨d1, d2, d3, d4⟩ := h.dis k j q p hq hp e
    have := (h.bets k q hq).keep c (by rintro (h | h) <;> contradiction) (by rintro (h | h) <;> contradiction)
    have e2 : (if k < j + 1 then i + 1 else i) = (if k < j then i + 1 else i) := by
      by_cases h : k < j
      · rw [if_pos h, if_pos (by omega)]
      · rw [if_neg h, if_neg (by omega)]
    rw [e2]
    exact this
end Go.Proofs.Ytolhfimknimliaa.Q
namespace Go.Proofs.Ytolhfimknimliaa.Q
open Go.Ev Go.Proofs Go.Cnt

attribute [local irreducible] At AtH

theorem wlv_bd {lv : Int} {j : Nat} (h0 : 2 ≤ lv) (h1 : lv ≤ 100) (hj : j ≤ 12) : 0 ≤ wlv lv j ∧ wlv lv j ≤ 900000 := by
  have h2 : (2 : Nat) ^ (j + 1) ≤ 2 ^ 13 := Nat.pow_le_pow_right (by omega) (by omega)
  have h3 : ((2 : Int) ^ (j + 1)) = ((2 ^ (j + 1) : Nat) : Int) := by simp
  unfold wlv
  rw [h3]
  generalize 2 ^ (j + 1) = t at h2
  have := mul_bd (a := lv) (b := (t : Int)) (A := 100) (B := 8192) (by omega) (by omega) h1 (by omega)
  omega
theorem ptrs_get {bg : List (Nat × Nat)} {k : Nat} {p : Nat × Nat} (h : bg[k]? = some p) : (ptrs bg)[k]? = some (.pointer (some ⟨p.1, 0, none⟩)) := by simp [ptrs, h]
def chgE (n : Nat) (D lv : Int) : Int := listedE n D (inB lv 2 100)
def chgV (o : Option (Nat × Nat)) : Value := match o with | some (n, j) => .tuple #[.int .i64 n, .int .i64 j, .int .i64 0] | none => .tuple #[.int .i64 0, .int .i64 0, .int .i64 5]
end Go.Proofs.Ytolhfimknimliaa.Q
namespace Go.Proofs.Ytolhfimknimliaa.Q
open Go.Ev Go.Proofs Go.Cnt
attribute [local irreducible] At AtH

/-- the error of parts and slots -/
def wrongE (n : Nat) (D : Int) : Int := if inB D 2 1000 = false then 2 else if 4000 < (n : Int) then 3 else 0
/-- is a rate in one of some runs -/
def hasL (l : List (Nat × Nat)) (x : Int) : Bool := l.any fun s => decide ((s.1 : Int) ≤ x) && decide (x ≤ (s.2 : Int))
/-- the weight of an outcome, as the machine reckons it -/
def wtw (D k : Int) (xs : List Bool) : Int := xs.foldl (fun n x => w64 (n * (if x then k else w64 (D - k)))) 1
theorem wtw_snoc (D k : Int) (xs : List Bool) (i : Nat) (h : i < xs.length) : wtw D k (xs.take (i + 1)) = w64 (wtw D k (xs.take i) * (if xs[i] then k else w64 (D - k))) := by
  unfold wtw
  rw [List.take_succ_eq_append_getElem h, List.foldl_append]
  rfl
theorem rWeight_any (xs : List Bool) (D k : Int) (A : Option Addr) (c B : Nat) (w : World) (h : Sl w B 1 A xs.length (boolVs xs)) (hl : xs.length ≤ 100000) :
    Ret Try.prog 13 [.slice A xs.length c, .int .i64 D, .int .i64 k] w fun v w' => v = .int .i64 (wtw D k xs) ∧ w = w' := by
  refine enter Try.func13 rfl Try.ntmps13 rfl ?_
  refine go T_ok 100 rfl ?_
  refine loop [0, 1, 2, 7, 8] (fun i : Nat => [.slice A xs.length c, .int .i64 D, .int .i64 k, .int .i64 (wtw D k (xs.take i)), .int .i64 (i : Int)])
    (fun i w' => w = w' ∧ i ≤ xs.length) (fun i => xs.length - i) 0 (fun _ => rfl) rfl ⟨rfl, by omega⟩ ?_
  rintro i τ w' ⟨rfl, hi⟩
  refine go T_ok 100 rfl ?_
  refine condD rfl (fun hlt => ?_) (fun hlt => ?_)
  · have hlt : i < xs.length := by omega
    refine go T_ok 100 rfl ?_
    obtain ⟨_, _, hA⟩ := h
    obtain ⟨b, off, rfl, hb, hcells⟩ := hA (by omega)
    refine idx T_ok rfl rfl rfl rfl rfl i rfl (by omega) ?_
    refine go T_ok 100 rfl ?_
    rw [show off + i * 1 = off + i by omega]
    refine ld T_ok rfl rfl rfl rfl (hcells i _ (boolVs_get hlt)) ?_
    refine go T_ok 100 rfl ?_
    have ei : w64 ((i : Int) + 1) = ((i + 1 : Nat) : Int) := w64_id (by omega) (by omega)
    have es := wtw_snoc D k xs i hlt
    refine cond rfl (fun hb => ?_) (fun hb => ?_)
    · rw [hb, if_pos rfl] at es
      refine go T_ok 100 rfl ?_
      rw [ei, ← es]
      exact round ⟨i + 1, rfl, ⟨rfl, by omega⟩, by omega⟩
    · rw [hb, if_neg (by simp)] at es
      refine go T_ok 100 rfl ?_
      rw [ei, ← es]
      exact round ⟨i + 1, rfl, ⟨rfl, by omega⟩, by omega⟩
  · refine go T_ok 100 rfl ?_
    refine ret (ret1 (v := .int .i64 _) Try.results13 rfl ⟨?_, rfl⟩)
    rw [List.take_of_length_le (by omega)]
theorem weight_any (xs : List Bool) (D k : Int) (A : Option Addr) (c B : Nat) (w : World) (h : Sl w B 1 A xs.length (boolVs xs)) (hl : xs.length ≤ 100000) :
    Ret Try.prog 73 [.slice A xs.length c, .int .i64 D, .int .i64 k] w fun v w' => v = .int .i64 (wtw D k xs) ∧ w = w' := by
  refine enter Try.func73 rfl Try.ntmps73 rfl ?_
  refine go T_ok 100 rfl ?_
  refine loop [1, 2, 7, 10, 11, 12] (fun i : Nat => [.int .i64 D, .int .i64 k, .int .i64 (wtw D k (xs.take i)), .slice A xs.length c, .int .i64 (xs.length : Int), .int .i64 (i : Int)])
    (fun i w' => w = w' ∧ i ≤ xs.length) (fun i => xs.length - i) 0 (fun _ => rfl) rfl ⟨rfl, by omega⟩ ?_
  rintro i τ w' ⟨rfl, hi⟩
  refine go T_ok 100 rfl ?_
  refine condD rfl (fun hlt => ?_) (fun hlt => ?_)
  · have hlt : i < xs.length := by omega
    refine go T_ok 100 rfl ?_
    obtain ⟨_, _, hA⟩ := h
    obtain ⟨b, off, rfl, hb, hcells⟩ := hA (by omega)
    refine idx T_ok rfl rfl rfl rfl rfl i rfl (by omega) ?_
    refine go T_ok 100 rfl ?_
    rw [show off + i * 1 = off + i by omega]
    refine ld T_ok rfl rfl rfl rfl (hcells i _ (boolVs_get hlt)) ?_
    refine go T_ok 100 rfl ?_
    have ei : w64 ((i : Int) + 1) = ((i + 1 : Nat) : Int) := w64_id (by omega) (by omega)
    have es := wtw_snoc D k xs i hlt
    refine cond rfl (fun hb => ?_) (fun hb => ?_)
    · rw [hb, if_pos rfl] at es
      refine go T_ok 100 rfl ?_
      rw [ei, ← es]
      exact round ⟨i + 1, rfl, ⟨rfl, by omega⟩, by omega⟩
    · rw [hb, if_neg (by simp)] at es
      refine go T_ok 100 rfl ?_
      rw [ei, ← es]
      exact round ⟨i + 1, rfl, ⟨rfl, by omega⟩, by omega⟩
  · refine go T_ok 100 rfl ?_
    refine ret (ret1 (v := .int .i64 _) Try.results73 rfl ⟨?_, rfl⟩)
    rw [List.take_of_length_le (by omega)]
/-- how many hits -/
def hitsL (xs : List Bool) : Nat := xs.countP id
end Go.Proofs.Ytolhfimknimliaa.Q
namespace Go.Proofs.Ytolhfimknimliaa.Q
open Go.Ev Go.Proofs Go.Cnt
attribute [local irreducible] At AtH

theorem own_size {w : World} {B : Nat} {e : TypeId} {sz n c : Nat} {A : Option Addr} {xs : List Value} (h : w.ownsRow B e sz (.slice A n c) n xs) (hn : 0 < n) : B ≤ w.heap.size := by
  obtain ⟨g, m, f, rfl, h1, h2, _⟩ := own_row h hn
  have := h2.lt
  omega
/-- the slots of the bits of a number -/
def outN (n b : Nat) : List Bool := (List.range n).map fun j => b.testBit j
theorem outN_succ (n b : Nat) : outN (n + 1) b = outN n b ++ [b.testBit n] := by simp [outN, List.range_succ]
theorem outN_len (n b : Nat) : (outN n b).length = n := by simp [outN]
theorem bit_lem {b j : Nat} (hb : b ≤ 4000000000) : (bitw .and ((b : Int).fdiv (2 ^ j)) 1 == 1) = b.testBit j := by
  have e1 : (b : Int).fdiv (2 ^ j) = ((b / 2 ^ j : Nat) : Int) := by
    have : ((2 : Int) ^ j) = ((2 ^ j : Nat) : Int) := by simp
    rw [this, Int.fdiv_eq_ediv_of_nonneg _ (Int.natCast_nonneg _)]
    rfl
  rw [e1]
  have hle : b / 2 ^ j ≤ b := Nat.div_le_self _ _
  unfold bitw
  have e2 : ((BitVec.ofInt 64 ((b / 2 ^ j : Nat) : Int)) &&& (BitVec.ofInt 64 1)).toNat = b / 2 ^ j % 2 := by
    have h1 : (BitVec.ofInt 64 1) = BitVec.ofNat 64 1 := rfl
    rw [h1, BitVec.toNat_and, BitVec.ofInt_natCast, BitVec.toNat_ofNat, BitVec.toNat_ofNat, Nat.mod_eq_of_lt (by omega), Nat.mod_eq_of_lt (by omega), Nat.and_one_is_mod]
  simp only
  rw [e2, w64_id (by omega) (by omega), Nat.testBit_eq_decide_div_mod_eq]
  rw [Bool.eq_iff_iff, beq_iff_eq, decide_eq_true_eq]
  omega
theorem Outcome_any (n b : Nat) (w : World) (hn : n ≤ 12) (hb : b ≤ 4000000000) :
    Ret Try.prog 11 [.int .i64 n, .int .i64 b] w fun v w' => ∃ A c, v = .slice A n c ∧ Chg No w w' ∧ w'.ownsRow w.heap.size 4 1 (.slice A n c) n (boolVs (outN n b)) := by
  refine enter Try.func11 rfl Try.ntmps11 rfl ?_
  refine go T_ok 100 rfl ?_
  refine loop [0, 1, 5, 6] (fun x : Nat × Option Addr × Nat => [.int .i64 n, .int .i64 b, .slice x.2.1 x.1 x.2.2, .int .i64 (x.1 : Int)])
    (fun x w' => x.1 ≤ n ∧ Chg No w w' ∧ w'.ownsRow w.heap.size 4 1 (.slice x.2.1 x.1 x.2.2) x.1 (boolVs (outN x.1 b))) (fun x => n - x.1) (0, none, 0) (fun _ => rfl) rfl ⟨by simp, Chg.refl _ _, own_nil⟩ ?_
  rintro ⟨i, A, c⟩ τ w' ⟨hi, q, hown⟩
  simp only at hi hown
  dsimp only
  refine go T_ok 100 rfl ?_
  refine condD rfl (fun hlt => ?_) (fun hlt => ?_)
  · have hlt : i < n := by omega
    refine go T_ok 100 rfl ?_
    refine shr rfl rfl rfl rfl i rfl (by omega) ?_
    refine go T_ok 100 rfl ?_
    rw [bit_lem hb]
    refine app1 T_ok rfl rfl rfl rfl rfl rfl (cs := [.bool _]) rfl rfl rfl rfl (fun _ => rfl) (fun _ => rfl) (fun _ => rfl) hown (by unfold maxLen; omega) (by omega) q.size ?_
    intro g A' c' w3 hown' q3 hs3 _
    refine go T_ok 100 rfl ?_
    have ei : w64 ((i : Int) + 1) = ((i + 1 : Nat) : Int) := w64_id (by omega) (by omega)
    rw [ei]
    refine round ⟨(i + 1, A', c'), rfl, ⟨by simp only; omega, q.step q3 (fun k hk e => absurd (own_ge hown e) (by omega)), ?_⟩, by simp only; omega⟩
    simp only [outN_succ, boolVs, List.map_append, List.map_cons, List.map_nil]
    exact hown'
  · refine go T_ok 100 rfl ?_
    have : i = n := by omega
    subst this
    exact ret (ret1 (v := .slice _ _ _) Try.results11 rfl ⟨A, c, rfl, q, hown⟩)
end Go.Proofs.Ytolhfimknimliaa.Q
namespace Go.Proofs.Ytolhfimknimliaa.Q
open Go.Ev Go.Proofs Go.Cnt
attribute [local irreducible] At AtH

def optM (o : Option Nat) : Int := match o with | some n => n | none => -1
/-- after how many slots a rate is excluded: the first number of slots after which its bet has the level -/
def exN (D lv k : Int) (xs : List Bool) : Option Nat := firstN (fun i => decide (lv * 1048576 ≤ (cst D k (xs.take i)).c)) 0 (xs.length + 1)
/-- the times of the first m rates -/
def timV (D lv : Int) (xs : List Bool) (m : Nat) : List Value := (List.range m).map fun (k : Nat) => .int .i64 (optM (exN D lv (k : Int) xs))
theorem timV_succ (D lv : Int) (xs : List Bool) (m : Nat) : timV D lv xs (m + 1) = timV D lv xs m ++ [.int .i64 (optM (exN D lv (m : Int) xs))] := by simp [timV, List.range_succ]
theorem timV_get {D lv : Int} {xs : List Bool} {m k : Nat} (h : k < m) : (timV D lv xs m)[k]? = some (.int .i64 (optM (exN D lv (k : Int) xs))) := by simp [timV, h]
/-- after how many slots the last of m rates from k on is excluded; -1 if one is not -/
def lastL (E : Nat → Option Nat) (k : Nat) (n : Int) : Nat → Int
  | 0 => n
  | m + 1 => match E k with
    | some t => lastL E (k + 1) (max n t) m
    | none => -1
/-- after how many slots a watch begins -/
def begN : Nat → Nat
  | 0 => 0
  | j + 1 => 2 ^ j
end Go.Proofs.Ytolhfimknimliaa.Q
namespace Go.Proofs.Ytolhfimknimliaa.Q
open Go.Ev Go.Proofs Go.Cnt

attribute [local irreducible] At AtH
end Go.Proofs.Ytolhfimknimliaa.Q
namespace Go.Proofs.Ytolhfimknimliaa.Q
open Go.Ev Go.Proofs Go.Cnt

/-- a store of one cell into an owned row -/
theorem own_set {w : World} {B : Nat} {e : TypeId} {sz n c g i : Nat} {xs : List Value} (h : w.ownsRow B e sz (.slice (some ⟨g, 0, none⟩) n c) n xs) (hi : i < n * sz) (v : Value) :
    (w.setCell ⟨g, i, none⟩ v).ownsRow B e sz (.slice (some ⟨g, 0, none⟩) n c) n (xs.set i v) := by
  refine ⟨by rw [List.length_set]; exact h.1, ?_⟩
  rcases h.2 with ⟨h1, _⟩ | ⟨g', cap, cur, hv, hb, hg, hnc, h5, hcs, htake⟩
  · cases h1
  · injection hv with hA hn hc
    injection hA with hA
    injection hA with hA
    subst hA
    have hsz := Nat.mul_le_mul_right sz hnc
    refine .inr ⟨g, cap, cur.set i v (by omega), by rw [hc], hb, ?_, hnc, h5, by simp [hcs], ?_⟩
    · have := Bk.set (w := w) (g := g) (t := e) (cs := cur.toList) (by unfold Bk; rw [Array.toArray_toList]; exact hg) i v
      unfold Bk at this
      rw [this]
      congr 2
    · simp only [Array.toList_set, List.take_set, htake]
theorem mem_lt {l : List (Nat × Nat)} {i : Nat} (h : i < l.length) : ∃ s, l[i]? = some s := ⟨l[i], List.getElem?_eq_getElem h⟩
theorem ptr_inj {l m : List (Nat × Nat)} : spL l = spL m → l = m := by
  intro h
  have hlen : l.length = m.length := by
    have h1 := spL_len l
    have h2 := spL_len m
    rw [h] at h1
    omega
  apply List.ext_getElem? 
  intro i
  by_cases hi : i < l.length
  · obtain ⟨s, hs⟩ := mem_lt hi
    obtain ⟨t, ht⟩ := mem_lt (hlen ▸ hi)
    have h1 := spL_get hs
    have h2 := spL_get ht
    rw [h] at h1
    have e1 := h1.1.symm.trans h2.1
    have e2 := h1.2.symm.trans h2.2
    simp only [Option.some.injEq, Value.int.injEq, true_and] at e1 e2
    rw [hs, ht]
    congr 1
    exact Prod.ext (by omega) (by omega)
  · rw [List.getElem?_eq_none (by omega), List.getElem?_eq_none (by omega)]
attribute [local irreducible] At AtH
end Go.Proofs.Ytolhfimknimliaa.Q
namespace Go.Proofs.Ytolhfimknimliaa.Q
open Go.Ev Go.Proofs Go.Cnt
attribute [local irreducible] At AtH

/-- the kept rates, by the specification -/
def rkp (D : Nat) (lv : Int) (xs : List Bool) (k : Nat) : Bool := (exN D lv (k : Int) xs).isNone
def rkeptL (D : Nat) (lv : Int) (xs : List Bool) : List (Nat × Nat) := spansTo (rkp D lv xs) (D + 1)
theorem spL_append (l m : List (Nat × Nat)) : spL (l ++ m) = spL l ++ spL m := by simp [spL]
theorem spL_last {l : List (Nat × Nat)} {a b k : Nat} (h : l.getLast? = some (a, b)) : spL (l.dropLast ++ [(a, k)]) = (spL l).set (2 * (l.length - 1) + 1) (.int .i64 (k : Int)) := by
  obtain ⟨m, rfl⟩ : ∃ m, l = m ++ [(a, b)] := by
    have hne : l ≠ [] := by intro e; rw [e] at h; cases h
    refine ⟨l.dropLast, ?_⟩
    have h2 := List.dropLast_concat_getLast hne
    rw [List.getLast?_eq_some_getLast hne] at h
    rw [Option.some.inj h] at h2
    exact h2.symm
  rw [List.dropLast_concat, spL_append, spL_append, List.set_append_right _ _ (by rw [spL_len, List.length_append]; simp; omega)]
  have : 2 * ((m ++ [(a, b)]).length - 1) + 1 - (spL m).length = 1 := by rw [spL_len, List.length_append]; simp; omega
  rw [this]
  rfl
end Go.Proofs.Ytolhfimknimliaa.Q
namespace Go.Proofs.Ytolhfimknimliaa.Q
open Go.Ev Go.Proofs Go.Cnt
attribute [local irreducible] At AtH

end Go.Proofs.Ytolhfimknimliaa.Q
namespace Go.Proofs.Ytolhfimknimliaa.Q
open Go.Ev Go.Proofs Go.Cnt
attribute [local irreducible] At AtH

/-- the weight of all outcomes of m more slots -/
def allN (D out : Int) : Nat → Option Int
  | 0 => some out
  | m + 1 => if out > 1152921504606846976 / D then none else allN D (out * D) m
theorem allN_bd {D out : Int} (hD : 2 ≤ D) (h0 : 1 ≤ out) (h1 : out ≤ 1152921504606846976) (h : ¬ out > 1152921504606846976 / D) : 1 ≤ out * D ∧ out * D ≤ 1152921504606846976 := by
  have h2 : out ≤ 1152921504606846976 / D := by omega
  have h3 : out * D ≤ (1152921504606846976 / D) * D := Int.mul_le_mul_of_nonneg_right h2 (by omega)
  have h4 : (1152921504606846976 / D) * D ≤ 1152921504606846976 := Int.ediv_mul_le _ (by omega)
  have h5 : 1 * 1 ≤ out * D := Int.mul_le_mul h0 (by omega) (by omega) (by omega)
  omega
end Go.Proofs.Ytolhfimknimliaa.Q
namespace Go.Proofs.Ytolhfimknimliaa.Q
open Go.Ev Go.Proofs Go.Cnt
attribute [local irreducible] At AtH

/-- the weight of all outcomes, or the error -/
def wholeP (s D : Int) : Int × Int := if inB D 2 1000 = false ∨ s < 0 then (0, 2) else if 12 < s then (0, 3) else match allN D 1 s.toNat with | some n => (n, 0) | none => (0, 3)
theorem whole_any (s D : Int) (w : World) : Ret Try.prog 71 [.int .i64 s, .int .i64 D] w fun v w' => v = .tuple #[.int .i64 (wholeP s D).1, .int .i64 (wholeP s D).2] ∧ w = w' := by
  refine enter Try.func71 rfl Try.ntmps71 rfl ?_
  refine go T_ok 100 rfl ?_
  refine call rfl rfl rfl (ok _ (by decide) rfl) (within_any _ _ _ _) ?_
  rintro v w ⟨rfl, rfl⟩
  refine go T_ok 100 rfl ?_
  refine guardN rfl rfl rfl (fun q1 => ?_) (fun q1 => ?_)
  · refine go T_ok 100 rfl ?_
    refine ret (ret2 (v := .int .i64 _) (x := .int .i64 _) Try.results71 rfl rfl ⟨?_, rfl⟩)
    rw [wholeP, if_pos (.inl q1)]
  · refine go T_ok 100 rfl ?_
    refine condD rfl (fun q2 => ?_) (fun q2 => ?_)
    · refine go T_ok 100 rfl ?_
      refine ret (ret2 (v := .int .i64 _) (x := .int .i64 _) Try.results71 rfl rfl ⟨?_, rfl⟩)
      rw [wholeP, if_pos (.inr q2)]
    · refine go T_ok 100 rfl ?_
      have hn : ¬ (inB D 2 1000 = false ∨ s < 0) := by
        rintro (h | h)
        · rw [q1] at h; cases h
        · exact q2 h
      refine condD rfl (fun q3 => ?_) (fun q3 => ?_)
      · refine go T_ok 100 rfl ?_
        refine ret (ret2 (v := .int .i64 _) (x := .int .i64 _) Try.results71 rfl rfl ⟨?_, rfl⟩)
        rw [wholeP, if_neg hn, if_pos q3]
      · rw [inB_iff] at q1
        obtain ⟨s, rfl⟩ : ∃ k : Nat, s = k := ⟨s.toNat, by omega⟩
        refine go T_ok 100 rfl ?_
        refine loop [1, 6, 16, 17] (fun x : Nat × Int => [.int .i64 D, .int .i64 x.2, .int .i64 s, .int .i64 (x.1 : Int)])
          (fun x w' => w = w' ∧ x.1 ≤ s ∧ 1 ≤ x.2 ∧ x.2 ≤ 1152921504606846976 ∧ allN D 1 s = allN D x.2 (s - x.1)) (fun x => s - x.1) (0, 1) (fun _ => rfl) rfl ⟨rfl, by simp, by simp, by simp, by simp⟩ ?_
        rintro ⟨i, out⟩ τ w' ⟨rfl, hi, h1, h2, h3⟩
        simp only at hi h1 h2 h3
        dsimp only
        refine go T_ok 100 rfl ?_
        refine condD rfl (fun hlt => ?_) (fun hlt => ?_)
        · have hlt : i < s := by omega
          rw [show s - i = (s - (i + 1)) + 1 by omega, allN] at h3
          refine go T_ok 100 rfl ?_
          refine quoN rfl rfl rfl rfl (by omega) (by omega) (by omega) ?_
          refine go T_ok 100 rfl ?_
          refine condD rfl (fun h5 => ?_) (fun h5 => ?_)
          · refine go T_ok 100 rfl ?_
            refine ret (ret2 (v := .int .i64 _) (x := .int .i64 _) Try.results71 rfl rfl ⟨?_, rfl⟩)
            rw [if_pos h5] at h3
            rw [wholeP, if_neg hn, if_neg q3, Int.toNat_natCast, h3]
          · have hb := allN_bd q1.1 h1 h2 h5
            rw [if_neg h5] at h3
            have e1 : w64 (out * D) = out * D := w64_id (by omega) (by omega)
            have ei : w64 ((i : Int) + 1) = ((i + 1 : Nat) : Int) := w64_id (by omega) (by omega)
            refine go T_ok 100 rfl ?_
            rw [e1, ei]
            exact round ⟨(i + 1, out * D), rfl, ⟨rfl, by simp only; omega, hb.1, hb.2, h3⟩, by simp only; omega⟩
        · refine go T_ok 100 rfl ?_
          refine ret (ret2 (v := .int .i64 _) (x := .int .i64 _) Try.results71 rfl rfl ⟨?_, rfl⟩)
          rw [show s - i = 0 by omega] at h3
          rw [wholeP, if_neg hn, if_neg q3, Int.toNat_natCast, h3]
          rfl
end Go.Proofs.Ytolhfimknimliaa.Q
