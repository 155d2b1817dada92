/- From another seat: module C13. -/
import Derived.Test.YtolhfimknimliaaEx
import Derived.Test.YtolhfimknimliaaQEx
import Derived.Test.YtolhfimknimliaaQB
namespace Go.Proofs.Ytolhfimknimliaa.Q
open Go.Ev Go.Proofs Go.Cnt
attribute [local irreducible] At AtH

/-- all outcomes of some slots, in the order of their numbers -/
def outsN (n m : Nat) : List (List Bool) := (List.range m).map (outN n)
theorem outsN_succ (n m : Nat) : outsN n (m + 1) = outsN n m ++ [outN n m] := by simp [outsN, List.range_succ]
/-- an outcome that is handed on: the block of its slice, its slots -/
def encO (x : Nat × List Bool) : List Value := [.slice (some ⟨x.1, 0, none⟩) x.2.length x.2.length]
def outH (x : Nat × List Bool) (w : World) : Prop := x.2.length ≤ 12 ∧ Sl w w.heap.size 1 (some ⟨x.1, 0, none⟩) x.2.length (boolVs x.2)
theorem outH_loop (x : Nat × List Bool) (A B : World) (l : Nat) (h : outH x A) (hl : ∃ r, A.heap[l]? = some (.loop r)) (q : Chg (fun k => k = l) A B) : outH x B :=
  ⟨h.1, (Sl.loop h.2 hl q).more q.size (Nat.le_refl _)⟩
theorem outcomes_any (n : Nat) (w : World) : Ret Try.prog 72 [.int .i64 n] w fun v w' => ∃ g, v = .func (.func 98) #[] #[.pointer (some ⟨g, 0, none⟩)] ∧ Chg No w w' ∧ w.heap.size ≤ g ∧ Bk w' g 3 [.int .i64 n] := by
  refine enter Try.func72 rfl Try.ntmps72 rfl ?_
  refine go T_ok 100 rfl ?_
  refine bx rfl rfl rfl (cs := [.int .i64 n]) rfl ?_
  intro g1 w1 hg1 hs1 q1 B1
  refine go T_ok 100 rfl ?_
  exact ret (ret1 (v := .func _ _ _) Try.results72 rfl ⟨g1, rfl, q1, by omega, B1⟩)
theorem row_sl {w : World} {g n : Nat} {t : TypeId} {f : Nat → Value} {bs : List Bool} (h : w.rowIs g t n f) (hb : bs.length = n) (hf : ∀ j (hj : j < bs.length), f j = .bool bs[j]) (hn : n ≤ 12) : outH (g, bs) w := by
  refine ⟨by show bs.length ≤ 12; omega, by simp [boolVs], Nat.le_refl _, fun _ => ⟨g, 0, rfl, h.lt, fun j v hv => ?_⟩⟩
  have hj : j < bs.length := by
    have := (List.getElem?_eq_some_iff.1 hv).1
    simpa [boolVs] using this
  rw [boolVs_get hj] at hv
  have := h.cell (i := j) (by omega)
  rw [Nat.zero_add, this, hf j hj]
  exact hv
theorem outcomes_seq (n g1 : Nat) (w : World) (hn : n ≤ 12) (H : Bk w g1 3 [.int .i64 n]) : O.Seq Try.prog 98 [.pointer (some ⟨g1, 0, none⟩)] encO outH (fun k => k = g1) (fun xs => xs.map (·.2) = outsN n (2 ^ n)) w := by
  intro l J W hW hJ hY h0
  have hp : 2 ^ n ≤ 2 ^ 12 := Nat.pow_le_pow_right (by omega) hn
  have hp' : ((2 : Int) ^ n) = ((2 ^ n : Nat) : Int) := by simp
  obtain ⟨N, hN⟩ : ∃ N, 2 ^ n = N := ⟨_, rfl⟩
  rw [hN] at hp hp' ⊢
  refine enter Try.func98 rfl Try.ntmps98 rfl ?_
  refine go T_ok 100 rfl ?_
  have H1 := H.no hW
  refine ld T_ok rfl rfl rfl rfl (H1.get (i := 0) rfl) ?_
  refine go T_ok 100 rfl ?_
  refine shl rfl rfl rfl rfl n rfl (by omega) ?_
  have ep : w64 (1 * 2 ^ n) = (N : Int) := by rw [Int.one_mul, hp']; exact w64_id (by omega) (by omega)
  rw [ep]
  refine go T_ok 100 rfl ?_
  refine loop [0, 1, 7, 8] (fun i : Nat => [.func (.yield l) #[] #[], .pointer (some ⟨g1, 0, none⟩), .int .i64 (N : Int), .int .i64 (i : Int)])
    (fun i w' => i ≤ N ∧ (∃ xs : List (Nat × List Bool), J xs w' ∧ xs.map (·.2) = outsN n i) ∧ W.heap.size ≤ w'.heap.size ∧ Bk w' g1 3 [.int .i64 n]) (fun i => N - i) 0 (fun _ => rfl) rfl ⟨by omega, ⟨[], h0, rfl⟩, Nat.le_refl _, H1⟩ ?_
  rintro i τ w' ⟨hi, ⟨xs, hJx, hxs⟩, hsz, H2⟩
  refine go T_ok 100 rfl ?_
  refine condD rfl (fun hlt => ?_) (fun hlt => ?_)
  · have hlt : i < N := by omega
    refine go T_ok 100 rfl ?_
    refine ld T_ok rfl rfl rfl rfl (H2.get (i := 0) rfl) ?_
    refine go T_ok 100 rfl ?_
    refine mk1 T_ok rfl rfl rfl rfl rfl n rfl (z := .bool false) (by kernel_rfl) rfl (by unfold maxLen; omega) (by omega) ?_
    intro g w2 hg hs2 q2 R2
    refine go T_ok 100 rfl ?_
    have hne : g1 ≠ g := by have := H2.lt; omega
    refine loop [0, 1, 7, 8, 3, 4, 13, 14, 15] (fun j : Nat => [.func (.yield l) #[] #[], .pointer (some ⟨g1, 0, none⟩), .int .i64 (N : Int), .int .i64 (i : Int), .int .i64 (i : Int), .slice (some ⟨g, 0, none⟩) n n, .slice (some ⟨g, 0, none⟩) n n, .int .i64 (n : Int), .int .i64 (j : Int)])
      (fun j w3 => j ≤ n ∧ Chg (fun k => k = g) w2 w3 ∧ w3.rowIs g 4 n (fun x => .bool (decide (x < j) && i.testBit x))) (fun j => n - j) 0 (fun _ => rfl) rfl ⟨by omega, Chg.refl _ _, by simpa using R2⟩ ?_
    rintro j τ w3 ⟨hj, q3, R3⟩
    refine go T_ok 100 rfl ?_
    refine condD rfl (fun hlt2 => ?_) (fun hlt2 => ?_)
    · have hlt2 : j < n := by omega
      refine go T_ok 100 rfl ?_
      refine shr rfl rfl rfl rfl j rfl (by omega) ?_
      refine go T_ok 100 rfl ?_
      rw [bit_lem (by omega)]
      refine idx T_ok rfl rfl rfl rfl rfl j rfl (by omega) ?_
      refine go T_ok 100 rfl ?_
      rw [show 0 + j * 1 = j by omega]
      refine stR T_ok rfl rfl rfl rfl (v := .bool _) rfl rfl R3 hlt2 ?_
      intro w4 q4 R4 hs4
      refine go T_ok 100 rfl ?_
      have ei : w64 ((j : Int) + 1) = ((j + 1 : Nat) : Int) := w64_id (by omega) (by omega)
      rw [ei]
      refine round ⟨j + 1, rfl, ⟨by omega, q3.trans q4, ?_⟩, by omega⟩
      have ef : (fun x => if x = j then Value.bool (i.testBit j) else Value.bool (decide (x < j) && i.testBit x)) = fun x => .bool (decide (x < j + 1) && i.testBit x) := by
        funext x
        by_cases e : x = j
        · subst e; simp
        · have : (x < j) = (x < j + 1) := by apply propext; omega
          simp [e, this]
      rw [← ef]
      exact R4
    · have : j = n := by omega
      subst this
      refine go T_ok 100 rfl ?_
      have q23 : Chg No w' w3 := q2.step q3 (fun k hk e => by omega)
      have Hx : outH (g, outN j i) w3 := row_sl R3 (outN_len _ _) (fun x hx => by
        have hx : x < j := by simpa [outN_len] using hx
        simp [outN, hx]) hn
      have hs3 := q3.size
      have hY2 := hY xs (g, outN j i) w3 (hJ _ _ _ hJx (q23.mono fun _ _ h => h.elim)) Hx (by have := q23.size; omega)
      have e0 : encO (g, outN j i) = [.slice (some ⟨g, 0, none⟩) j j] := by simp [encO, outN_len]
      rw [e0] at hY2
      refine O.yieldC rfl rfl rfl hY2 ?_
      rintro w5 ⟨hJ5, q5⟩
      refine go T_ok 100 rfl ?_
      refine condF rfl rfl ?_
      refine go T_ok 100 rfl ?_
      have ei : w64 ((i : Int) + 1) = ((i + 1 : Nat) : Int) := w64_id (by omega) (by omega)
      rw [ei]
      refine round ⟨i + 1, rfl, ⟨by omega, ⟨_, hJ5, ?_⟩, by have := q23.size; have := q5.size; omega, (H2.no q23).keep q5 (fun h => h.2 rfl)⟩, by omega⟩
      simp [hxs, outsN_succ]
  · have : i = N := by omega
    subst this
    refine go T_ok 100 rfl ?_
    exact fin (ret0 Try.results98 ⟨xs, hxs, hJx⟩)
end Go.Proofs.Ytolhfimknimliaa.Q
namespace Go.Proofs.Ytolhfimknimliaa.Q
open Go.Ev Go.Proofs Go.Cnt
attribute [local irreducible] At AtH

theorem wholeP_ok {s D : Int} (h : (wholeP s D).2 = 0) : ∃ n d : Nat, s = n ∧ D = d ∧ n ≤ 12 ∧ 2 ≤ d ∧ d ≤ 1000 := by
  unfold wholeP at h
  split at h
  · cases h
  · rename_i h1
    split at h
    · cases h
    · rename_i h2
      have h3 : inB D 2 1000 = true := by cases e : inB D 2 1000 <;> simp [e] at h1 ⊢
      rw [inB_iff] at h3
      have h4 : ¬ s < 0 := fun e => h1 (.inr e)
      exact ⟨s.toNat, D.toNat, by omega, by omega, by omega, by omega, by omega⟩
/-- the tail, as the machine reckons it -/
def tailF (D k h : Int) (l : List (List Bool)) : Int := l.foldl (fun a x => if h ≤ (hitsL x : Int) then w64 (a + wtw D k x) else a) 0
theorem tailF_snoc (D k h : Int) (l : List (List Bool)) (x : List Bool) : tailF D k h (l ++ [x]) = if h ≤ (hitsL x : Int) then w64 (tailF D k h l + wtw D k x) else tailF D k h l := by simp [tailF]
def tailE (s D k h : Int) : Int := if (wholeP s D).2 ≠ 0 then (wholeP s D).2 else if inB k 0 D && inB h 0 (s + 1) then 0 else 2
theorem Tail_any (s D k h : Int) (w : World) : Ret Try.prog 28 [.int .i64 s, .int .i64 D, .int .i64 k, .int .i64 h] w fun v w' => Chg No w w' ∧
    v = .tuple #[.int .i64 (if tailE s D k h = 0 then tailF D k h (outsN s.toNat (2 ^ s.toNat)) else 0), .int .i64 (tailE s D k h)] := by
  refine enter Try.func28 rfl Try.ntmps28 rfl ?_
  refine go T_ok 100 rfl ?_
  refine bx rfl rfl rfl (cs := [.int .i64 D]) rfl ?_
  intro g1 w1 hg1 hs1 q1 B1
  refine go T_ok 100 rfl ?_
  refine bx rfl rfl rfl (cs := [.int .i64 k]) rfl ?_
  intro g2 w2 hg2 hs2 q2 B2
  refine go T_ok 100 rfl ?_
  refine bx rfl rfl rfl (cs := [.int .i64 h]) rfl ?_
  intro g3 w3 hg3 hs3 q3 B3
  refine go T_ok 100 rfl ?_
  have B1 := (B1.no q2).no q3
  have B2 := B2.no q3
  have q03 := (q1.trans q2).trans q3
  refine ld T_ok rfl rfl rfl rfl (B1.get (i := 0) rfl) ?_
  refine go T_ok 100 rfl ?_
  refine call rfl rfl rfl (ok _ (by decide) rfl) (whole_any s D w3) ?_
  rintro v w4 ⟨rfl, rfl⟩
  refine go T_ok 100 rfl ?_
  refine cond rfl (fun he => ?_) (fun he => ?_)
  · have he : (wholeP s D).2 ≠ 0 := by simpa using he
    have e1 : tailE s D k h = (wholeP s D).2 := by rw [tailE, if_pos he]
    rw [e1, if_neg he]
    refine go T_ok 100 rfl ?_
    exact ret (ret2 (v := .int .i64 _) (x := .int .i64 _) Try.results28 rfl rfl ⟨q03, rfl⟩)
  · have he : (wholeP s D).2 = 0 := by simpa using he
    have e1 : tailE s D k h = if inB k 0 D && inB h 0 (s + 1) then 0 else 2 := by rw [tailE, if_neg (by simpa using he)]
    obtain ⟨n, d, rfl, rfl, hn, hd0, hd1⟩ := wholeP_ok he
    rw [e1]
    have es : w64 ((n : Int) + 1) = (n : Int) + 1 := w64_id (by omega) (by omega)
    refine go T_ok 100 rfl ?_
    refine ld T_ok rfl rfl rfl rfl (B2.get (i := 0) rfl) ?_
    refine go T_ok 100 rfl ?_
    refine ld T_ok rfl rfl rfl rfl (B1.get (i := 0) rfl) ?_
    refine go T_ok 100 rfl ?_
    refine call rfl rfl rfl (ok _ (by decide) rfl) (within_any _ _ _ _) ?_
    rintro v w4 ⟨rfl, rfl⟩
    refine go T_ok 100 rfl ?_
    refine guardN rfl rfl rfl (fun hk => ?_) (fun hk => ?_)
    · rw [hk, Bool.false_and, if_neg (by simp), if_neg (by simp)]
      refine go T_ok 100 rfl ?_
      exact ret (ret2 (v := .int .i64 _) (x := .int .i64 _) Try.results28 rfl rfl ⟨q03, rfl⟩)
    · rw [hk, Bool.true_and]
      refine go T_ok 100 rfl ?_
      refine ld T_ok rfl rfl rfl rfl (B3.get (i := 0) rfl) ?_
      refine go T_ok 100 rfl ?_
      rw [es]
      refine call rfl rfl rfl (ok _ (by decide) rfl) (within_any _ _ _ _) ?_
      rintro v w4 ⟨rfl, rfl⟩
      refine go T_ok 100 rfl ?_
      refine cond rfl (fun hh => ?_) (fun hh => ?_)
      · have hh : inB h 0 ((n : Int) + 1) = false := by simpa using hh
        rw [hh, if_neg (by simp), if_neg (by simp)]
        refine go T_ok 100 rfl ?_
        exact ret (ret2 (v := .int .i64 _) (x := .int .i64 _) Try.results28 rfl rfl ⟨q03, rfl⟩)
      · have hh : inB h 0 ((n : Int) + 1) = true := by simpa using hh
        rw [hh, if_pos rfl, if_pos rfl, Int.toNat_natCast]
        refine go T_ok 100 rfl ?_
        refine nw rfl rfl (z := .int .i64 0) (by kernel_rfl) (cs := [.int .i64 0]) rfl ?_
        intro g4 w5 hg4 hs5 q5 B4
        refine go T_ok 100 rfl ?_
        refine st T_ok rfl rfl rfl rfl (v := .int .i64 0) rfl rfl B4 rfl ?_
        intro w6 q6 B4 hs6
        refine go T_ok 100 rfl ?_
        refine call rfl rfl rfl (ok _ (by decide) rfl) (outcomes_any n w6) ?_
        rintro v w7 ⟨g5, rfl, q7, hg5, B5⟩
        refine go T_ok 100 rfl ?_
        have B1 := ((B1.no q5).keep q6 (by omega)).no q7
        have B2 := ((B2.no q5).keep q6 (by omega)).no q7
        have B3 := ((B3.no q5).keep q6 (by omega)).no q7
        have B4 := B4.no q7
        have q07 : Chg No w w7 := ((q03.trans q5).step q6 (fun k hk e => by omega)).trans q7
        have l4 := B4.lt
        have l5 := B5.lt
        refine O.rangeFunc rfl rfl (ok _ (by decide) rfl) (outcomes_seq n g5 w7 hn B5) (fun k hk => by rw [hk]; exact l5) (fun _ => rfl) outH_loop
          (fun (xs : List (Nat × List Bool)) W => Bk W g4 3 [.int .i64 (tailF d k h (xs.map Prod.snd))] ∧ Chg (fun x => x = g4) w7 W) (fun s A B hI q => ⟨hI.1.keep q (by omega), hI.2.step q (fun k hk e => by omega)⟩) ⟨B4, Chg.refl _ _⟩ (fun x => [(13, .slice (some ⟨x.1, 0, none⟩) x.2.length x.2.length)]) ?ca ?bd ?dn
        case ca =>
          intro l x W
          refine go T_ok 100 rfl ?_
          exact round ⟨rfl, rfl⟩
        case bd =>
          rintro l xs ⟨g, bs⟩ W ⟨I1, I2⟩ ⟨hb12, hH⟩ hsz
          have hb12 : bs.length ≤ 12 := hb12
          have hH : Sl W W.heap.size 1 (some ⟨g, 0, none⟩) bs.length (boolVs bs) := hH
          have J1 := B1.keep I2 (by omega)
          have J2 := B2.keep I2 (by omega)
          have J3 := B3.keep I2 (by omega)
          refine keepS (l' := [(5, .pointer (some ⟨g1, 0, none⟩)), (6, .pointer (some ⟨g2, 0, none⟩)), (7, .pointer (some ⟨g3, 0, none⟩)), (12, .pointer (some ⟨g4, 0, none⟩)), (13, .slice (some ⟨g, 0, none⟩) bs.length bs.length)]) ⟨rfl, rfl, rfl, rfl, rfl, trivial⟩ (fun τ => ?_)
          refine go T_ok 100 rfl ?_
          refine loop [5, 6, 7, 12, 13, 14, 40, 41, 42] (fun i : Nat => [.pointer (some ⟨g1, 0, none⟩), .pointer (some ⟨g2, 0, none⟩), .pointer (some ⟨g3, 0, none⟩), .pointer (some ⟨g4, 0, none⟩), .slice (some ⟨g, 0, none⟩) bs.length bs.length, .int .i64 (hitsL (bs.take i)), .slice (some ⟨g, 0, none⟩) bs.length bs.length, .int .i64 (bs.length : Int), .int .i64 (i : Int)])
            (fun i w' => W = w' ∧ i ≤ bs.length) (fun i => bs.length - i) 0 (fun _ => rfl) rfl ⟨rfl, by omega⟩ ?_
          rintro i τ w' ⟨rfl, hi⟩
          refine go T_ok 100 rfl ?_
          refine condD rfl (fun hlt => ?_) (fun hlt => ?_)
          · have hlt : i < bs.length := by omega
            refine go T_ok 100 rfl ?_
            obtain ⟨_, _, hA⟩ := hH
            obtain ⟨b, off, hAb, hb, hcells⟩ := hA (by omega)
            cases hAb
            refine idx T_ok rfl rfl rfl rfl rfl i rfl (by omega) ?_
            refine go T_ok 100 rfl ?_
            rw [show 0 + i * 1 = 0 + i by omega]
            refine ld T_ok rfl rfl rfl rfl (hcells i _ (boolVs_get hlt)) ?_
            refine go T_ok 100 rfl ?_
            have ei : w64 ((i : Int) + 1) = ((i + 1 : Nat) : Int) := w64_id (by omega) (by omega)
            have hle : hitsL (bs.take i) ≤ i := by
              have h1 : hitsL (bs.take i) ≤ (bs.take i).length := List.countP_le_length
              rw [List.length_take] at h1
              omega
            have es : hitsL (bs.take (i + 1)) = hitsL (bs.take i) + (if bs[i] then 1 else 0) := by
              unfold hitsL
              rw [List.take_succ_eq_append_getElem hlt, List.countP_append]
              congr 1
              cases bs[i] <;> rfl
            have eh : w64 ((hitsL (bs.take i) : Int) + 1) = ((hitsL (bs.take i) + 1 : Nat) : Int) := w64_id (by omega) (by omega)
            refine cond rfl (fun hb => ?_) (fun hb => ?_)
            · rw [hb, if_pos rfl] at es
              refine go T_ok 100 rfl ?_
              rw [ei, eh, ← es]
              exact round ⟨i + 1, rfl, ⟨rfl, by omega⟩, by omega⟩
            · have es : hitsL (bs.take (i + 1)) = hitsL (bs.take i) := by rw [es, hb]; rfl
              refine go T_ok 100 rfl ?_
              rw [ei, ← es]
              exact round ⟨i + 1, rfl, ⟨rfl, by omega⟩, by omega⟩
          · have : i = bs.length := by omega
            subst this
            rw [List.take_length]
            have et : tailF d k h ((xs ++ [(g, bs)]).map Prod.snd) = if h ≤ (hitsL bs : Int) then w64 (tailF d k h (xs.map Prod.snd) + wtw d k bs) else tailF d k h (xs.map Prod.snd) := by
              rw [List.map_append]
              exact tailF_snoc d k h _ bs
            refine go T_ok 100 rfl ?_
            refine ld T_ok rfl rfl rfl rfl (J3.get (i := 0) rfl) ?_
            refine go T_ok 100 rfl ?_
            refine condD rfl (fun hc => ?_) (fun hc => ?_)
            · rw [if_pos hc] at et
              refine go T_ok 100 rfl ?_
              refine draw mixed (fun w' => w' = W.drew) ([0,1,2,3].map (fun i => (i, true)) ++ [(4, false)] ++ [5].map (fun i => (i, true)) ++ [(6, false)]) rfl (by kernel_rfl) rfl ?_
              have qd := Chg.drew W
              refine goH T_ok 100 rfl ?_
              refine quietH rfl (fun w' hS => r_load T_ok rfl rfl rfl (by rw [hS]; exact (I1.no qd).get (i := 0) rfl)) ?_
              refine goH T_ok 100 rfl ?_
              refine quietH rfl (fun w' hS => r_load T_ok rfl rfl rfl (by rw [hS]; exact (J1.no qd).get (i := 0) rfl)) ?_
              refine goH T_ok 100 rfl ?_
              refine quietH rfl (fun w' hS => r_load T_ok rfl rfl rfl (by rw [hS]; exact (J2.no qd).get (i := 0) rfl)) ?_
              refine goH T_ok 100 rfl ?_
              refine callE rfl rfl rfl (ok _ (by decide) rfl) (weight_any bs d k (some ⟨g, 0, none⟩) bs.length _ _ (hH.no qd) (by omega)) ?_
              rintro v w' ⟨rfl, rfl⟩
              refine ⟨rfl, ?_⟩
              refine goH T_ok 100 rfl ?_
              refine storeL T_ok rfl rfl rfl rfl (v := .int .i64 _) rfl rfl (I1.no qd) rfl (by kernel_rfl) ?_
              intro w8 q8 B8 hs8
              refine endH ?_
              refine go T_ok 100 rfl ?_
              refine round ⟨⟨?_, I2.trans ((qd.mono fun _ _ h => h.elim).trans q8)⟩, (qd.mono fun _ _ h => h.elim).trans (q8.mono fun x _ hx => ⟨by omega, by omega⟩)⟩
              rw [et]
              exact B8
            · rw [if_neg hc] at et
              refine go T_ok 100 rfl ?_
              refine round ⟨⟨?_, I2⟩, Chg.refl _ _⟩
              rw [et]
              exact I1
        case dn =>
          rintro xs W hS ⟨I1, I2⟩ hsz hD
          refine go T_ok 100 rfl ?_
          refine ld T_ok rfl rfl rfl rfl (I1.get (i := 0) rfl) ?_
          refine go T_ok 100 rfl ?_
          refine retM rfl hD (ret2 (v := .int .i64 _) (x := .int .i64 _) Try.results28 rfl rfl ⟨?_, ?_⟩)
          · exact (q07.step I2 (fun k hk e => by have := ((q03.trans q5).size); omega)).step (Chg.putObj _ _ _) (fun k hk e => by have := q07.size; omega)
          · rw [hS]
end Go.Proofs.Ytolhfimknimliaa.Q
namespace Go.Proofs.Ytolhfimknimliaa.Q
open Go.Ev Go.Proofs Go.Cnt
attribute [local irreducible] At AtH

def T2 : Tab := (192, .arr 4 1 false) :: (191, .one) :: T
theorem T2_ok : tabOk Try.prog T2 = true := by kernel_rfl
/-- the weight of the outcomes with a verdict, as the machine reckons it -/
def powS (d : Nat) (lv k : Int) (lo hi : Nat) (v : Int) (l : List (List Bool)) : Int :=
  l.foldl (fun a x => if 0 < wtw d k x ∧ (decS (sts d lv x) d lo hi).1 = v then w64 (a + wtw d k x) else a) 0
theorem powS_snoc (d : Nat) (lv k : Int) (lo hi : Nat) (v : Int) (l : List (List Bool)) (x : List Bool) :
    powS d lv k lo hi v (l ++ [x]) = if 0 < wtw d k x ∧ (decS (sts d lv x) d lo hi).1 = v then w64 (powS d lv k lo hi v l + wtw d k x) else powS d lv k lo hi v l := by
  rw [powS, List.foldl_append]
  rfl
theorem decS_cases (S : Nat → BS) (d lo hi : Nat) : (decS S d lo hi).1 = 1 ∨ (decS S d lo hi).1 = 2 ∨ (decS S d lo hi).1 = 3 := by
  unfold decS
  split
  · exact .inr (.inl rfl)
  · split
    · exact .inr (.inr rfl)
    · exact .inl rfl
def powE (s D lv k lo hi : Int) : Int := if (wholeP s D).2 ≠ 0 then (wholeP s D).2 else if inB lv 2 900000 && (inB k 0 D && (inB lo 0 (hi - 1) && decide (hi ≤ D))) then 0 else 2
def powL (s D lv k lo hi : Int) : List Value :=
  [.int .i64 (powS D.toNat lv k lo.toNat hi.toNat 2 (outsN s.toNat (2 ^ s.toNat))), .int .i64 (powS D.toNat lv k lo.toNat hi.toNat 3 (outsN s.toNat (2 ^ s.toNat))), .int .i64 (powS D.toNat lv k lo.toNat hi.toNat 1 (outsN s.toNat (2 ^ s.toNat))), .int .i64 (wholeP s D).1]
set_option maxRecDepth 20000 in
theorem Power_any (s D lv k lo hi : Int) (w : World) (hb : -9223372036854775808 < hi ∧ hi ≤ 9223372036854775807) : Ret Try.prog 118 [.int .i64 s, .int .i64 D, .int .i64 lv, .int .i64 k, .int .i64 lo, .int .i64 hi] w fun v w' => Chg No w w' ∧
    v = .tuple #[.agg (if powE s D lv k lo hi = 0 then powL s D lv k lo hi else [.int .i64 0, .int .i64 0, .int .i64 0, .int .i64 0]).toArray, .int .i64 (powE s D lv k lo hi)] := by
  refine enter Try.func118 rfl Try.ntmps118 rfl ?_
  refine go T2_ok 100 rfl ?_
  refine bx rfl rfl rfl (cs := [.int .i64 D]) rfl ?_
  intro g1 w1 hg1 hs1 q1 B1
  refine go T2_ok 100 rfl ?_
  refine bx rfl rfl rfl (cs := [.int .i64 lv]) rfl ?_
  intro g2 w2 hg2 hs2 q2 B2
  refine go T2_ok 100 rfl ?_
  refine bx rfl rfl rfl (cs := [.int .i64 k]) rfl ?_
  intro g3 w3 hg3 hs3 q3 B3
  refine go T2_ok 100 rfl ?_
  refine bx rfl rfl rfl (cs := [.int .i64 lo]) rfl ?_
  intro g4 w4 hg4 hs4 q4 B4
  refine go T2_ok 100 rfl ?_
  refine bx rfl rfl rfl (cs := [.int .i64 hi]) rfl ?_
  intro g5 w5 hg5 hs5 q5 B5
  refine go T2_ok 100 rfl ?_
  refine nw rfl rfl (z := .agg #[.int .i64 0, .int .i64 0, .int .i64 0, .int .i64 0]) (by kernel_rfl) (cs := [.int .i64 0, .int .i64 0, .int .i64 0, .int .i64 0]) rfl ?_
  intro g6 w6 hg6 hs6 q6 B6
  have B1 := ((((B1.no q2).no q3).no q4).no q5).no q6
  have B2 := (((B2.no q3).no q4).no q5).no q6
  have B3 := ((B3.no q4).no q5).no q6
  have B4 := (B4.no q5).no q6
  have B5 := B5.no q6
  have q06 : Chg No w w6 := ((((q1.trans q2).trans q3).trans q4).trans q5).trans q6
  refine go T2_ok 100 rfl ?_
  refine ld T2_ok rfl rfl rfl rfl (B1.get (i := 0) rfl) ?_
  refine go T2_ok 100 rfl ?_
  refine call rfl rfl rfl (ok _ (by decide) rfl) (whole_any s D w6) ?_
  rintro v w7 ⟨rfl, rfl⟩
  refine go T2_ok 100 rfl ?_
  refine cond rfl (fun he => ?_) (fun he => ?_)
  · have he : (wholeP s D).2 ≠ 0 := by simpa using he
    have e1 : powE s D lv k lo hi = (wholeP s D).2 := by rw [powE, if_pos he]
    rw [e1, if_neg he]
    refine go T2_ok 100 rfl ?_
    refine stA (vs := [.int .i64 0, .int .i64 0, .int .i64 0, .int .i64 0]) T2_ok rfl rfl rfl rfl rfl rfl rfl B6 rfl ?_
    intro w8 q8 B8 hs8
    refine go T2_ok 100 rfl ?_
    refine ret (retR2 Try.results118 (resA T2_ok rfl rfl rfl B8.all) (v := .agg _) (x := .int .i64 _) rfl ⟨q06.step q8 (fun k hk e => by omega), rfl⟩)
  · have he : (wholeP s D).2 = 0 := by simpa using he
    have e1 : powE s D lv k lo hi = if inB lv 2 900000 && (inB k 0 D && (inB lo 0 (hi - 1) && decide (hi ≤ D))) then 0 else 2 := by rw [powE, if_neg (by simpa using he)]
    obtain ⟨n, d, rfl, rfl, hn, hd0, hd1⟩ := wholeP_ok he
    rw [e1]
    have eh : w64 (hi - 1) = hi - 1 := w64_id (by omega) (by omega)
    refine go T2_ok 100 rfl ?_
    refine ld T2_ok rfl rfl rfl rfl (B2.get (i := 0) rfl) ?_
    refine go T2_ok 100 rfl ?_
    refine call rfl rfl rfl (ok _ (by decide) rfl) (leveled_any _ _) ?_
    rintro v w7 ⟨rfl, rfl⟩
    refine go T2_ok 100 rfl ?_
    refine guardN rfl rfl rfl (fun hlv => ?_) (fun hlv => ?_)
    · rw [hlv, Bool.false_and]
      rw [if_neg (by simp), if_neg (by simp)]
      refine go T2_ok 100 rfl ?_
      refine stA (vs := [.int .i64 0, .int .i64 0, .int .i64 0, .int .i64 0]) T2_ok rfl rfl rfl rfl rfl rfl rfl B6 rfl ?_
      intro w8 q8 B8 hs8
      refine go T2_ok 100 rfl ?_
      exact ret (retR2 Try.results118 (resA T2_ok rfl rfl rfl B8.all) (v := .agg _) (x := .int .i64 _) rfl ⟨q06.step q8 (fun k hk e => by omega), rfl⟩)
    · rw [hlv, Bool.true_and]
      refine go T2_ok 100 rfl ?_
      refine ld T2_ok rfl rfl rfl rfl (B3.get (i := 0) rfl) ?_
      refine go T2_ok 100 rfl ?_
      refine ld T2_ok rfl rfl rfl rfl (B1.get (i := 0) rfl) ?_
      refine go T2_ok 100 rfl ?_
      refine call rfl rfl rfl (ok _ (by decide) rfl) (within_any _ _ _ _) ?_
      rintro v w7 ⟨rfl, rfl⟩
      refine go T2_ok 100 rfl ?_
      refine guardN rfl rfl rfl (fun hk => ?_) (fun hk => ?_)
      · rw [hk, Bool.false_and]
        rw [if_neg (by simp), if_neg (by simp)]
        refine go T2_ok 100 rfl ?_
        refine stA (vs := [.int .i64 0, .int .i64 0, .int .i64 0, .int .i64 0]) T2_ok rfl rfl rfl rfl rfl rfl rfl B6 rfl ?_
        intro w8 q8 B8 hs8
        refine go T2_ok 100 rfl ?_
        exact ret (retR2 Try.results118 (resA T2_ok rfl rfl rfl B8.all) (v := .agg _) (x := .int .i64 _) rfl ⟨q06.step q8 (fun k hk e => by omega), rfl⟩)
      · rw [hk, Bool.true_and]
        refine go T2_ok 100 rfl ?_
        refine ld T2_ok rfl rfl rfl rfl (B4.get (i := 0) rfl) ?_
        refine go T2_ok 100 rfl ?_
        refine ld T2_ok rfl rfl rfl rfl (B5.get (i := 0) rfl) ?_
        refine go T2_ok 100 rfl ?_
        rw [eh]
        refine call rfl rfl rfl (ok _ (by decide) rfl) (within_any _ _ _ _) ?_
        rintro v w7 ⟨rfl, rfl⟩
        refine go T2_ok 100 rfl ?_
        refine guardN rfl rfl rfl (fun hlo => ?_) (fun hlo => ?_)
        · rw [hlo, Bool.false_and]
          rw [if_neg (by simp), if_neg (by simp)]
          refine go T2_ok 100 rfl ?_
          refine stA (vs := [.int .i64 0, .int .i64 0, .int .i64 0, .int .i64 0]) T2_ok rfl rfl rfl rfl rfl rfl rfl B6 rfl ?_
          intro w8 q8 B8 hs8
          refine go T2_ok 100 rfl ?_
          exact ret (retR2 Try.results118 (resA T2_ok rfl rfl rfl B8.all) (v := .agg _) (x := .int .i64 _) rfl ⟨q06.step q8 (fun k hk e => by omega), rfl⟩)
        · rw [hlo, Bool.true_and]
          refine go T2_ok 100 rfl ?_
          refine ld T2_ok rfl rfl rfl rfl (B5.get (i := 0) rfl) ?_
          refine go T2_ok 100 rfl ?_
          refine ld T2_ok rfl rfl rfl rfl (B1.get (i := 0) rfl) ?_
          refine go T2_ok 100 rfl ?_
          refine condD rfl (fun hhi => ?_) (fun hhi => ?_)
          · have hhi : ¬ hi ≤ (d : Int) := by omega
            rw [decide_eq_false hhi]
            rw [if_neg (by simp), if_neg (by simp)]
            refine go T2_ok 100 rfl ?_
            refine stA (vs := [.int .i64 0, .int .i64 0, .int .i64 0, .int .i64 0]) T2_ok rfl rfl rfl rfl rfl rfl rfl B6 rfl ?_
            intro w8 q8 B8 hs8
            refine go T2_ok 100 rfl ?_
            exact ret (retR2 Try.results118 (resA T2_ok rfl rfl rfl B8.all) (v := .agg _) (x := .int .i64 _) rfl ⟨q06.step q8 (fun k hk e => by omega), rfl⟩)
          · have hhi : hi ≤ (d : Int) := by omega
            rw [decide_eq_true hhi, if_pos rfl, if_pos rfl]
            rw [inB_iff] at hlv hk
            obtain ⟨lo, rfl, hlo⟩ := inB_nat hlo
            obtain ⟨hi, rfl⟩ : ∃ k : Nat, hi = k := ⟨hi.toNat, by omega⟩
            refine go T2_ok 100 rfl ?_
            refine nw rfl rfl (z := .agg #[.int .i64 0, .int .i64 0, .int .i64 0, .int .i64 0]) (by kernel_rfl) (cs := [.int .i64 0, .int .i64 0, .int .i64 0, .int .i64 0]) rfl ?_
            intro go_ w7 hgo hs7 q7 BO
            refine go T2_ok 100 rfl ?_
            refine stA (vs := [.int .i64 0, .int .i64 0, .int .i64 0, .int .i64 _]) T2_ok rfl rfl rfl rfl rfl rfl rfl BO rfl ?_
            intro w8 q8 BO hs8
            refine go T2_ok 100 rfl ?_
            refine bldA T2_ok rfl rfl rfl (z := .agg #[.pointer none, .pointer none, .pointer none, .pointer none]) (by kernel_rfl) (cs := [.pointer none, .pointer (some ⟨go_, 2, none⟩), .pointer (some ⟨go_, 0, none⟩), .pointer (some ⟨go_, 1, none⟩)]) rfl ?_
            refine go T2_ok 100 rfl ?_
            refine nw rfl rfl (z := .agg #[.pointer none, .pointer none, .pointer none, .pointer none]) (by kernel_rfl) (cs := [.pointer none, .pointer none, .pointer none, .pointer none]) rfl ?_
            intro gs w9 hgs hs9 q9 BS
            refine go T2_ok 100 rfl ?_
            refine stArr (vs := [.pointer none, .pointer (some ⟨go_, 2, none⟩), .pointer (some ⟨go_, 0, none⟩), .pointer (some ⟨go_, 1, none⟩)]) T2_ok rfl rfl rfl rfl rfl rfl rfl BS rfl ?_
            intro w10 q10 BS hs10
            refine go T2_ok 100 rfl ?_
            refine call rfl rfl rfl (ok _ (by decide) rfl) (outcomes_any n w10) ?_
            rintro v w11 ⟨g7, rfl, q11, hg7, B7⟩
            refine go T2_ok 100 rfl ?_
            have l1 := B1.lt
            have l2 := B2.lt
            have l3 := B3.lt
            have l4 := B4.lt
            have l5 := B5.lt
            have l6 := B6.lt
            have B1 := ((((B1.no q7).keep q8 (by omega)).no q9).keep q10 (by omega)).no q11
            have B2 := ((((B2.no q7).keep q8 (by omega)).no q9).keep q10 (by omega)).no q11
            have B3 := ((((B3.no q7).keep q8 (by omega)).no q9).keep q10 (by omega)).no q11
            have B4 := ((((B4.no q7).keep q8 (by omega)).no q9).keep q10 (by omega)).no q11
            have B5 := ((((B5.no q7).keep q8 (by omega)).no q9).keep q10 (by omega)).no q11
            have B6 := ((((B6.no q7).keep q8 (by omega)).no q9).keep q10 (by omega)).no q11
            have BO := ((BO.no q9).keep q10 (by omega)).no q11
            have BS := BS.no q11
            have q011 : Chg No w w11 := ((((q06.trans q7).step q8 (fun k hk e => by have := q06.size; omega)).trans q9).step q10 (fun k hk e => by have := q06.size; omega)).trans q11
            have lo_ := BO.lt
            have ls := BS.lt
            have l7 := B7.lt
            have hszw := q06.size
            refine O.rangeFunc rfl rfl (ok _ (by decide) rfl) (outcomes_seq n g7 w11 hn B7) (fun k hk => by rw [hk]; exact l7) (fun _ => rfl) outH_loop
              (fun (xs : List (Nat × List Bool)) W => Bk W go_ 169 [.int .i64 (powS d lv k lo hi 2 (xs.map Prod.snd)), .int .i64 (powS d lv k lo hi 3 (xs.map Prod.snd)), .int .i64 (powS d lv k lo hi 1 (xs.map Prod.snd)), .int .i64 (wholeP n d).1] ∧ Chg (fun x => x = go_) w11 W)
              (fun s A B hI q => ⟨hI.1.keep q (by omega), hI.2.step q (fun k hk e => by omega)⟩) ⟨BO, Chg.refl _ _⟩ (fun x => [(18, .slice (some ⟨x.1, 0, none⟩) x.2.length x.2.length)]) ?ca ?bd ?dn
            case ca =>
              intro l x W
              refine go T2_ok 100 rfl ?_
              exact round ⟨rfl, rfl⟩
            case bd =>
              rintro l xs ⟨g, bs⟩ W ⟨I1, I2⟩ ⟨hb12, hH⟩ hsz
              have hb12 : bs.length ≤ 12 := hb12
              have hH : Sl W W.heap.size 1 (some ⟨g, 0, none⟩) bs.length (boolVs bs) := hH
              have J1 := B1.keep I2 (by omega)
              have J2 := B2.keep I2 (by omega)
              have J3 := B3.keep I2 (by omega)
              have J4 := B4.keep I2 (by omega)
              have J5 := B5.keep I2 (by omega)
              have JS := BS.keep I2 (by omega)
              refine keepS (l' := [(7, .pointer (some ⟨g1, 0, none⟩)), (8, .pointer (some ⟨g2, 0, none⟩)), (9, .pointer (some ⟨g3, 0, none⟩)), (10, .pointer (some ⟨g4, 0, none⟩)), (11, .pointer (some ⟨g5, 0, none⟩)), (16, .pointer (some ⟨go_, 0, none⟩)), (17, .pointer (some ⟨gs, 0, none⟩)), (18, .slice (some ⟨g, 0, none⟩) bs.length bs.length)]) ⟨rfl, rfl, rfl, rfl, rfl, rfl, rfl, rfl, trivial⟩ (fun τ => ?_)
              refine go T2_ok 100 rfl ?_
              refine ld T2_ok rfl rfl rfl rfl (J1.get (i := 0) rfl) ?_
              refine go T2_ok 100 rfl ?_
              refine ld T2_ok rfl rfl rfl rfl (J3.get (i := 0) rfl) ?_
              refine go T2_ok 100 rfl ?_
              refine call rfl rfl rfl (ok _ (by decide) rfl) (weight_any bs d k (some ⟨g, 0, none⟩) bs.length _ _ hH (by omega)) ?_
              rintro v w' ⟨rfl, rfl⟩
              refine go T2_ok 100 rfl ?_
              refine condD rfl (fun hc => ?_) (fun hc => ?_)
              · refine go T2_ok 100 rfl ?_
                refine draw mixed (fun w' => Chg No W w') ([0,1,3,5,6].map (fun i => (i, true)) ++ [(2, false)] ++ [(4, false)] ++ [(7, false)] ++ [8,9,10,11,12].map (fun i => (i, true))) rfl (by kernel_rfl) (Chg.drew _) ?_
                refine goH T2_ok 100 rfl ?_
                refine quietH rfl (fun w' hS => r_load T2_ok rfl rfl rfl ((J1.no hS).get (i := 0) rfl)) ?_
                refine goH T2_ok 100 rfl ?_
                refine quietH rfl (fun w' hS => r_load T2_ok rfl rfl rfl ((J2.no hS).get (i := 0) rfl)) ?_
                refine goH T2_ok 100 rfl ?_
                refine quietH rfl (fun w' hS => r_load T2_ok rfl rfl rfl ((J4.no hS).get (i := 0) rfl)) ?_
                refine goH T2_ok 100 rfl ?_
                refine quietH rfl (fun w' hS => r_load T2_ok rfl rfl rfl ((J5.no hS).get (i := 0) rfl)) ?_
                refine goH T2_ok 100 rfl ?_
                refine callE rfl rfl rfl (ok _ (by decide) rfl) (begin_any d lv W.drew hd0 hd1) ?_
                rintro v w12 ⟨b, gg, rfl, hb', hg', q12, H⟩
                have hdr : W.drew.heap.size = W.heap.size := rfl
                have q112 : Chg No W w12 := (Chg.drew W).trans q12
                refine ⟨q112, ?_⟩
                refine goH T2_ok 100 rfl ?_
                refine callE rfl rfl rfl (ok _ (by decide) rfl) (run_any bs d lv b gg W.heap.size bs.length (some ⟨g, 0, none⟩) w12 (hH.no q112) (by omega) (by omega) H (by omega) hd0 hd1 (by omega) (by omega)) ?_
                rintro v w13 ⟨rfl, q13, H13⟩
                have q2 : Chg No W w13 := q112.step q13 (fun k hk h => by rcases h with h | h <;> omega)
                refine ⟨q2, ?_⟩
                refine goH T2_ok 100 rfl ?_
                refine callE rfl rfl rfl (ok _ (by decide) rfl) (decide_any b gg d lv (sts d lv bs) w13 H13 hd1 lo hi (by omega) (by omega)) ?_
                rintro v w14 ⟨rfl, rfl⟩
                refine ⟨q2, ?_⟩
                refine goH T2_ok 100 rfl ?_
                refine endH ?_
                refine go T2_ok 100 rfl ?_
                rcases decS_cases (sts d lv bs) d lo hi with hv | hv | hv
                · -- the verdict 1
                  have ev1 : ((decS (sts d lv bs) d lo hi).1 : Int) = 1 := hv
                  rw [ev1]
                  refine idxA T2_ok rfl rfl rfl rfl rfl 1 rfl (by decide) ?_
                  refine go T2_ok 100 rfl ?_
                  refine ld T2_ok rfl rfl rfl rfl ((JS.no q2).get (i := 1) rfl) ?_
                  refine go T2_ok 100 rfl ?_
                  refine ld T2_ok rfl rfl rfl rfl ((I1.no q2).get (i := 2) rfl) ?_
                  refine go T2_ok 100 rfl ?_
                  refine st T2_ok rfl rfl rfl rfl (v := .int .i64 _) rfl rfl (I1.no q2) rfl ?_
                  intro w8 q8 B8 hs8
                  refine go T2_ok 100 rfl ?_
                  refine round ⟨⟨?_, I2.trans ((q2.mono fun _ _ h => h.elim).trans q8)⟩, (q2.mono fun _ _ h => h.elim).trans (q8.mono fun x _ hx => ⟨by omega, by omega⟩)⟩
                  have p2 := powS_snoc d lv k lo hi 2 (xs.map Prod.snd) bs
                  have p3 := powS_snoc d lv k lo hi 3 (xs.map Prod.snd) bs
                  have p1 := powS_snoc d lv k lo hi 1 (xs.map Prod.snd) bs
                  simp only [ev1, hc, true_and] at p1 p2 p3
                  have em : (xs ++ [(g, bs)]).map Prod.snd = xs.map Prod.snd ++ [bs] := by simp
                  rw [em, p1, p2, p3]
                  exact B8
                · -- the verdict 2
                  have ev1 : ((decS (sts d lv bs) d lo hi).1 : Int) = 2 := hv
                  rw [ev1]
                  refine idxA T2_ok rfl rfl rfl rfl rfl 2 rfl (by decide) ?_
                  refine go T2_ok 100 rfl ?_
                  refine ld T2_ok rfl rfl rfl rfl ((JS.no q2).get (i := 2) rfl) ?_
                  refine go T2_ok 100 rfl ?_
                  refine ld T2_ok rfl rfl rfl rfl ((I1.no q2).get (i := 0) rfl) ?_
                  refine go T2_ok 100 rfl ?_
                  refine st T2_ok rfl rfl rfl rfl (v := .int .i64 _) rfl rfl (I1.no q2) rfl ?_
                  intro w8 q8 B8 hs8
                  refine go T2_ok 100 rfl ?_
                  refine round ⟨⟨?_, I2.trans ((q2.mono fun _ _ h => h.elim).trans q8)⟩, (q2.mono fun _ _ h => h.elim).trans (q8.mono fun x _ hx => ⟨by omega, by omega⟩)⟩
                  have p2 := powS_snoc d lv k lo hi 2 (xs.map Prod.snd) bs
                  have p3 := powS_snoc d lv k lo hi 3 (xs.map Prod.snd) bs
                  have p1 := powS_snoc d lv k lo hi 1 (xs.map Prod.snd) bs
                  simp only [ev1, hc, true_and] at p1 p2 p3
                  have em : (xs ++ [(g, bs)]).map Prod.snd = xs.map Prod.snd ++ [bs] := by simp
                  rw [em, p1, p2, p3]
                  exact B8
                · -- the verdict 3
                  have ev1 : ((decS (sts d lv bs) d lo hi).1 : Int) = 3 := hv
                  rw [ev1]
                  refine idxA T2_ok rfl rfl rfl rfl rfl 3 rfl (by decide) ?_
                  refine go T2_ok 100 rfl ?_
                  refine ld T2_ok rfl rfl rfl rfl ((JS.no q2).get (i := 3) rfl) ?_
                  refine go T2_ok 100 rfl ?_
                  refine ld T2_ok rfl rfl rfl rfl ((I1.no q2).get (i := 1) rfl) ?_
                  refine go T2_ok 100 rfl ?_
                  refine st T2_ok rfl rfl rfl rfl (v := .int .i64 _) rfl rfl (I1.no q2) rfl ?_
                  intro w8 q8 B8 hs8
                  refine go T2_ok 100 rfl ?_
                  refine round ⟨⟨?_, I2.trans ((q2.mono fun _ _ h => h.elim).trans q8)⟩, (q2.mono fun _ _ h => h.elim).trans (q8.mono fun x _ hx => ⟨by omega, by omega⟩)⟩
                  have p2 := powS_snoc d lv k lo hi 2 (xs.map Prod.snd) bs
                  have p3 := powS_snoc d lv k lo hi 3 (xs.map Prod.snd) bs
                  have p1 := powS_snoc d lv k lo hi 1 (xs.map Prod.snd) bs
                  simp only [ev1, hc, true_and] at p1 p2 p3
                  have em : (xs ++ [(g, bs)]).map Prod.snd = xs.map Prod.snd ++ [bs] := by simp
                  rw [em, p1, p2, p3]
                  exact B8
              · refine go T2_ok 100 rfl ?_
                have p2 := powS_snoc d lv k lo hi 2 (xs.map Prod.snd) bs
                have p3 := powS_snoc d lv k lo hi 3 (xs.map Prod.snd) bs
                have p1 := powS_snoc d lv k lo hi 1 (xs.map Prod.snd) bs
                simp only [hc, false_and, if_false] at p1 p2 p3
                have em : (xs ++ [(g, bs)]).map Prod.snd = xs.map Prod.snd ++ [bs] := by simp
                refine round ⟨⟨?_, I2⟩, Chg.refl _ _⟩
                rw [em, p1, p2, p3]
                exact I1
            case dn =>
              rintro xs W hS ⟨I1, I2⟩ hsz hD
              refine go T2_ok 100 rfl ?_
              refine ldA T2_ok rfl rfl rfl rfl rfl I1.all ?_
              refine go T2_ok 100 rfl ?_
              have B6' := B6.keep I2 (by omega)
              refine stA (vs := [.int .i64 _, .int .i64 _, .int .i64 _, .int .i64 _]) T2_ok rfl rfl rfl rfl rfl rfl rfl B6' rfl ?_
              intro w12 q12 B12 hs12
              refine go T2_ok 100 rfl ?_
              have hD' : w12.heap[w11.heap.size]? = some (.deferred (some [])) := by rw [q12.block _ (by omega) (by omega)]; exact hD
              have qp := Chg.putObj w12 w11.heap.size (.deferred none)
              refine retM rfl hD' (retR2 Try.results118 (resA T2_ok rfl rfl rfl (B12.keep qp (by omega)).all) (v := .agg _) (x := .int .i64 _) rfl ⟨?_, ?_⟩)
              · exact ((q011.step I2 (fun k hk e => by omega)).step q12 (fun k hk e => by omega)).step qp (fun k hk e => by have := q011.size; omega)
              · rw [hS]
                simp only [powL, Int.toNat_natCast]
                rfl
end Go.Proofs.Ytolhfimknimliaa.Q
