/- The contract of Tail. -/
import Derived.Test.YtocolpbakaibnaaC13
namespace Go.Proofs.Ytocolpbakaibnaa
open Go.Ev Go.Proofs Go.Cnt
attribute [local irreducible] At AtH

theorem wholeP_ok {s D : Int} (h : (wholeP s D).2 = 0) : ∃ n d : Nat, s = n ∧ D = d ∧ n ≤ 12 ∧ 2 ≤ d ∧ d ≤ 1000 := by
  unfold wholeP at h
  split at h
  · cases h
  · rename_i h1
    split at h
    · cases h
    · rename_i h2
      have h3 : inB D 2 1000 = true := by cases e : inB D 2 1000 <;> simp [e] at h1 ⊢
      rw [inB_iff] at h3
      have h4 : ¬ s < 0 := fun e => h1 (.inr e)
      exact ⟨s.toNat, D.toNat, by omega, by omega, by omega, by omega, by omega⟩
/-- the tail, as the machine reckons it -/
def tailF (D k h : Int) (l : List (List Bool)) : Int := l.foldl (fun a x => if h ≤ (hitsL x : Int) then w64 (a + wtw D k x) else a) 0
theorem tailF_snoc (D k h : Int) (l : List (List Bool)) (x : List Bool) : tailF D k h (l ++ [x]) = if h ≤ (hitsL x : Int) then w64 (tailF D k h l + wtw D k x) else tailF D k h l := by simp [tailF]
def tailE (s D k h : Int) : Int := if (wholeP s D).2 ≠ 0 then (wholeP s D).2 else if inB k 0 D && inB h 0 (s + 1) then 0 else 2
theorem Tail_any (s D k h : Int) (w : World) : Ret Try.prog 25 [.int .i64 s, .int .i64 D, .int .i64 k, .int .i64 h] w fun v w' => Chg No w w' ∧
    v = .tuple #[.int .i64 (if tailE s D k h = 0 then tailF D k h (outsN s.toNat (2 ^ s.toNat)) else 0), .int .i64 (tailE s D k h)] := by
  refine enter Try.func25 rfl Try.ntmps25 rfl ?_
  refine go T_ok 100 rfl ?_
  refine bx rfl rfl rfl (cs := [.int .i64 D]) rfl ?_
  intro g1 w1 hg1 hs1 q1 B1
  refine go T_ok 100 rfl ?_
  refine bx rfl rfl rfl (cs := [.int .i64 k]) rfl ?_
  intro g2 w2 hg2 hs2 q2 B2
  refine go T_ok 100 rfl ?_
  refine bx rfl rfl rfl (cs := [.int .i64 h]) rfl ?_
  intro g3 w3 hg3 hs3 q3 B3
  refine go T_ok 100 rfl ?_
  have B1 := (B1.no q2).no q3
  have B2 := B2.no q3
  have q03 := (q1.trans q2).trans q3
  refine ld T_ok rfl rfl rfl rfl (B1.get (i := 0) rfl) ?_
  refine go T_ok 100 rfl ?_
  refine call rfl rfl rfl (ok _ (by decide) rfl) (whole_any s D w3) ?_
  rintro v w4 ⟨rfl, rfl⟩
  refine go T_ok 100 rfl ?_
  refine cond rfl (fun he => ?_) (fun he => ?_)
  · have he : (wholeP s D).2 ≠ 0 := by simpa using he
    have e1 : tailE s D k h = (wholeP s D).2 := by rw [tailE, if_pos he]
    rw [e1, if_neg he]
    refine go T_ok 100 rfl ?_
    exact ret (ret2 (v := .int .i64 _) (x := .int .i64 _) Try.results25 rfl rfl ⟨q03, rfl⟩)
  · have he : (wholeP s D).2 = 0 := by simpa using he
    have e1 : tailE s D k h = if inB k 0 D && inB h 0 (s + 1) then 0 else 2 := by rw [tailE, if_neg (by simpa using he)]
    obtain ⟨n, d, rfl, rfl, hn, hd0, hd1⟩ := wholeP_ok he
    rw [e1]
    have es : w64 ((n : Int) + 1) = (n : Int) + 1 := w64_id (by omega) (by omega)
    refine go T_ok 100 rfl ?_
    refine ld T_ok rfl rfl rfl rfl (B2.get (i := 0) rfl) ?_
    refine go T_ok 100 rfl ?_
    refine ld T_ok rfl rfl rfl rfl (B1.get (i := 0) rfl) ?_
    refine go T_ok 100 rfl ?_
    refine call rfl rfl rfl (ok _ (by decide) rfl) (within_any _ _ _ _) ?_
    rintro v w4 ⟨rfl, rfl⟩
    refine go T_ok 100 rfl ?_
    refine guardN rfl rfl rfl (fun hk => ?_) (fun hk => ?_)
    · rw [hk, Bool.false_and, if_neg (by simp), if_neg (by simp)]
      refine go T_ok 100 rfl ?_
      exact ret (ret2 (v := .int .i64 _) (x := .int .i64 _) Try.results25 rfl rfl ⟨q03, rfl⟩)
    · rw [hk, Bool.true_and]
      refine go T_ok 100 rfl ?_
      refine ld T_ok rfl rfl rfl rfl (B3.get (i := 0) rfl) ?_
      refine go T_ok 100 rfl ?_
      rw [es]
      refine call rfl rfl rfl (ok _ (by decide) rfl) (within_any _ _ _ _) ?_
      rintro v w4 ⟨rfl, rfl⟩
      refine go T_ok 100 rfl ?_
      refine cond rfl (fun hh => ?_) (fun hh => ?_)
      · have hh : inB h 0 ((n : Int) + 1) = false := by simpa using hh
        rw [hh, if_neg (by simp), if_neg (by simp)]
        refine go T_ok 100 rfl ?_
        exact ret (ret2 (v := .int .i64 _) (x := .int .i64 _) Try.results25 rfl rfl ⟨q03, rfl⟩)
      · have hh : inB h 0 ((n : Int) + 1) = true := by simpa using hh
        rw [hh, if_pos rfl, if_pos rfl, Int.toNat_natCast]
        refine go T_ok 100 rfl ?_
        refine nw rfl rfl (z := .int .i64 0) (by kernel_rfl) (cs := [.int .i64 0]) rfl ?_
        intro g4 w5 hg4 hs5 q5 B4
        refine go T_ok 100 rfl ?_
        refine st T_ok rfl rfl rfl rfl (v := .int .i64 0) rfl rfl B4 rfl ?_
        intro w6 q6 B4 hs6
        refine go T_ok 100 rfl ?_
        refine call rfl rfl rfl (ok _ (by decide) rfl) (outcomes_any n w6) ?_
        rintro v w7 ⟨g5, rfl, q7, hg5, B5⟩
        refine go T_ok 100 rfl ?_
        have B1 := ((B1.no q5).keep q6 (by omega)).no q7
        have B2 := ((B2.no q5).keep q6 (by omega)).no q7
        have B3 := ((B3.no q5).keep q6 (by omega)).no q7
        have B4 := B4.no q7
        have q07 : Chg No w w7 := ((q03.trans q5).step q6 (fun k hk e => by omega)).trans q7
        have l4 := B4.lt
        have l5 := B5.lt
        refine rangeFunc rfl rfl (ok _ (by decide) rfl) (outcomes_seq n g5 w7 hn B5) (fun k hk => by rw [hk]; exact l5) (fun _ => rfl) outH_loop
          (fun (xs : List (Nat × List Bool)) W => Bk W g4 3 [.int .i64 (tailF d k h (xs.map Prod.snd))] ∧ Chg (fun x => x = g4) w7 W) (fun s A B hI q => ⟨hI.1.keep q (by omega), hI.2.step q (fun k hk e => by omega)⟩) ⟨B4, Chg.refl _ _⟩ (fun x => [(13, .slice (some ⟨x.1, 0, none⟩) x.2.length x.2.length)]) ?ca ?bd ?dn
        case ca =>
          intro l x W
          refine go T_ok 100 rfl ?_
          exact round ⟨rfl, rfl⟩
        case bd =>
          rintro l xs ⟨g, bs⟩ W ⟨I1, I2⟩ ⟨hb12, hH⟩ hsz
          have hb12 : bs.length ≤ 12 := hb12
          have hH : Sl W W.heap.size 1 (some ⟨g, 0, none⟩) bs.length (boolVs bs) := hH
          have J1 := B1.keep I2 (by omega)
          have J2 := B2.keep I2 (by omega)
          have J3 := B3.keep I2 (by omega)
          refine keepS (l' := [(5, .pointer (some ⟨g1, 0, none⟩)), (6, .pointer (some ⟨g2, 0, none⟩)), (7, .pointer (some ⟨g3, 0, none⟩)), (12, .pointer (some ⟨g4, 0, none⟩)), (13, .slice (some ⟨g, 0, none⟩) bs.length bs.length)]) ⟨rfl, rfl, rfl, rfl, rfl, trivial⟩ (fun τ => ?_)
          refine go T_ok 100 rfl ?_
          refine loop [5, 6, 7, 12, 13, 14, 40, 41, 42] (fun i : Nat => [.pointer (some ⟨g1, 0, none⟩), .pointer (some ⟨g2, 0, none⟩), .pointer (some ⟨g3, 0, none⟩), .pointer (some ⟨g4, 0, none⟩), .slice (some ⟨g, 0, none⟩) bs.length bs.length, .int .i64 (hitsL (bs.take i)), .slice (some ⟨g, 0, none⟩) bs.length bs.length, .int .i64 (bs.length : Int), .int .i64 (i : Int)])
            (fun i w' => W = w' ∧ i ≤ bs.length) (fun i => bs.length - i) 0 (fun _ => rfl) rfl ⟨rfl, by omega⟩ ?_
          rintro i τ w' ⟨rfl, hi⟩
          refine go T_ok 100 rfl ?_
          refine condD rfl (fun hlt => ?_) (fun hlt => ?_)
          · have hlt : i < bs.length := by omega
            refine go T_ok 100 rfl ?_
            obtain ⟨_, _, hA⟩ := hH
            obtain ⟨b, off, hAb, hb, hcells⟩ := hA (by omega)
            cases hAb
            refine idx T_ok rfl rfl rfl rfl rfl i rfl (by omega) ?_
            refine go T_ok 100 rfl ?_
            rw [show 0 + i * 1 = 0 + i by omega]
            refine ld T_ok rfl rfl rfl rfl (hcells i _ (boolVs_get hlt)) ?_
            refine go T_ok 100 rfl ?_
            have ei : w64 ((i : Int) + 1) = ((i + 1 : Nat) : Int) := w64_id (by omega) (by omega)
            have hle : hitsL (bs.take i) ≤ i := by
              have h1 : hitsL (bs.take i) ≤ (bs.take i).length := List.countP_le_length
              rw [List.length_take] at h1
              omega
            have es : hitsL (bs.take (i + 1)) = hitsL (bs.take i) + (if bs[i] then 1 else 0) := by
              unfold hitsL
              rw [List.take_succ_eq_append_getElem hlt, List.countP_append]
              congr 1
              cases bs[i] <;> rfl
            have eh : w64 ((hitsL (bs.take i) : Int) + 1) = ((hitsL (bs.take i) + 1 : Nat) : Int) := w64_id (by omega) (by omega)
            refine cond rfl (fun hb => ?_) (fun hb => ?_)
            · rw [hb, if_pos rfl] at es
              refine go T_ok 100 rfl ?_
              rw [ei, eh, ← es]
              exact round ⟨i + 1, rfl, ⟨rfl, by omega⟩, by omega⟩
            · have es : hitsL (bs.take (i + 1)) = hitsL (bs.take i) := by rw [es, hb]; rfl
              refine go T_ok 100 rfl ?_
              rw [ei, ← es]
              exact round ⟨i + 1, rfl, ⟨rfl, by omega⟩, by omega⟩
          · have : i = bs.length := by omega
            subst this
            rw [List.take_length]
            have et : tailF d k h ((xs ++ [(g, bs)]).map Prod.snd) = if h ≤ (hitsL bs : Int) then w64 (tailF d k h (xs.map Prod.snd) + wtw d k bs) else tailF d k h (xs.map Prod.snd) := by
              rw [List.map_append]
              exact tailF_snoc d k h _ bs
            refine go T_ok 100 rfl ?_
            refine ld T_ok rfl rfl rfl rfl (J3.get (i := 0) rfl) ?_
            refine go T_ok 100 rfl ?_
            refine condD rfl (fun hc => ?_) (fun hc => ?_)
            · rw [if_pos hc] at et
              refine go T_ok 100 rfl ?_
              refine draw mixed (fun w' => w' = W.drew) ([0,1,2,3].map (fun i => (i, true)) ++ [(4, false)] ++ [5].map (fun i => (i, true)) ++ [(6, false)]) rfl (by kernel_rfl) rfl ?_
              have qd := Chg.drew W
              refine goH T_ok 100 rfl ?_
              refine quietH rfl (fun w' hS => r_load T_ok rfl rfl rfl (by rw [hS]; exact (I1.no qd).get (i := 0) rfl)) ?_
              refine goH T_ok 100 rfl ?_
              refine quietH rfl (fun w' hS => r_load T_ok rfl rfl rfl (by rw [hS]; exact (J1.no qd).get (i := 0) rfl)) ?_
              refine goH T_ok 100 rfl ?_
              refine quietH rfl (fun w' hS => r_load T_ok rfl rfl rfl (by rw [hS]; exact (J2.no qd).get (i := 0) rfl)) ?_
              refine goH T_ok 100 rfl ?_
              refine callE rfl rfl rfl (ok _ (by decide) rfl) (weight_any bs d k (some ⟨g, 0, none⟩) bs.length _ _ (hH.no qd) (by omega)) ?_
              rintro v w' ⟨rfl, rfl⟩
              refine ⟨rfl, ?_⟩
              refine goH T_ok 100 rfl ?_
              refine storeL T_ok rfl rfl rfl rfl (v := .int .i64 _) rfl rfl (I1.no qd) rfl (by kernel_rfl) ?_
              intro w8 q8 B8 hs8
              refine endH ?_
              refine go T_ok 100 rfl ?_
              refine round ⟨⟨?_, I2.trans ((qd.mono fun _ _ h => h.elim).trans q8)⟩, (qd.mono fun _ _ h => h.elim).trans (q8.mono fun x _ hx => ⟨by omega, by omega⟩)⟩
              rw [et]
              exact B8
            · rw [if_neg hc] at et
              refine go T_ok 100 rfl ?_
              refine round ⟨⟨?_, I2⟩, Chg.refl _ _⟩
              rw [et]
              exact I1
        case dn =>
          rintro xs W hS ⟨I1, I2⟩ hsz hD
          refine go T_ok 100 rfl ?_
          refine ld T_ok rfl rfl rfl rfl (I1.get (i := 0) rfl) ?_
          refine go T_ok 100 rfl ?_
          refine retM rfl hD (ret2 (v := .int .i64 _) (x := .int .i64 _) Try.results25 rfl rfl ⟨?_, ?_⟩)
          · exact (q07.step I2 (fun k hk e => by have := ((q03.trans q5).size); omega)).step (Chg.putObj _ _ _) (fun k hk e => by have := q07.size; omega)
          · rw [hS]
end Go.Proofs.Ytocolpbakaibnaa
