/- The contracts of Stop and Capital. -/
import Derived.Test.YtocolpbakaibnaaC7
namespace Go.Proofs.Ytocolpbakaibnaa
open Go.Ev Go.Proofs Go.Cnt
attribute [local irreducible] At AtH

theorem hull_bd {p : Nat → Bool} {n : Nat} : (hullL (spansTo p n)).1 ≤ n ∧ (hullL (spansTo p n)).2 ≤ n := by
  have h : ∀ s ∈ spansTo p n, s.1 ≤ n ∧ s.2 ≤ n := fun s hs => by
    have := spansTo_run hs
    omega
  generalize spansTo p n = l at h ⊢
  constructor
  · cases l with
    | nil => simp [hullL]
    | cons a l => exact (h a (by simp)).1
  · simp only [hullL, List.getLastD_eq_getLast?]
    cases hl : l.getLast? with
    | none => simp
    | some a => exact (h a (List.mem_of_getLast? hl)).2
/-- are the kept rates close together, or none -/
def nearB (S : Nat → BS) (D : Nat) (wd : Int) : Bool := (spansTo (kp S) (D + 1)).isEmpty || decide (((hullL (spansTo (kp S) (D + 1))).2 : Int) - (hullL (spansTo (kp S) (D + 1))).1 ≤ wd)
theorem near_any (b g D : Nat) (lv wd : Int) (S : Nat → BS) (gb gw : Nat) (w : World) (H : Bets w b g D lv S) (hD1 : D ≤ 1000) (Bb : Bk w gb 86 [.pointer (some ⟨b, 0, none⟩)]) (Bw : Bk w gw 3 [.int .i64 wd]) :
    Ret Try.prog 70 [.pointer (some ⟨gb, 0, none⟩), .pointer (some ⟨gw, 0, none⟩)] w fun v w' => v = .bool (nearB S D wd) ∧ Chg No w w' := by
  have hbd := hull_bd (p := kp S) (n := D + 1)
  have e1 : w64 (((hullL (spansTo (kp S) (D + 1))).2 : Int) - (hullL (spansTo (kp S) (D + 1))).1) = ((hullL (spansTo (kp S) (D + 1))).2 : Int) - (hullL (spansTo (kp S) (D + 1))).1 := w64_id (by omega) (by omega)
  refine enter Try.func70 rfl Try.ntmps70 rfl ?_
  refine go T_ok 100 rfl ?_
  refine ld T_ok rfl rfl rfl rfl (Bb.get rfl) ?_
  refine go T_ok 100 rfl ?_
  obtain ⟨f, cap, Rb, a0, a1, a2, a3, a4, a5⟩ := id H.par
  refine ld T_ok rfl rfl rfl rfl ((Rb.cell (i := 0 + 1004) (by omega)).trans (congrArg some a3)) ?_
  refine go T_ok 100 rfl ?_
  refine cond rfl (fun he => ?_) (fun he => ?_)
  · rw [kept_cnt] at he
    refine go T_ok 100 rfl ?_
    exact ret (ret1 (v := .bool _) Try.results70 rfl ⟨by rw [nearB, he]; rfl, Chg.refl _ _⟩)
  · rw [kept_cnt] at he
    refine go T_ok 100 rfl ?_
    refine ld T_ok rfl rfl rfl rfl (Bb.get rfl) ?_
    refine go T_ok 100 rfl ?_
    refine call rfl rfl rfl (ok _ (by decide) rfl) (hull_any b g D lv S w H hD1 (by intro e; rw [e] at he; cases he)) ?_
    rintro v w2 ⟨rfl, q2⟩
    refine go T_ok 100 rfl ?_
    refine nw rfl rfl (z := .agg #[.int .i64 0, .int .i64 0]) (by kernel_rfl) (cs := [.int .i64 0, .int .i64 0]) rfl ?_
    intro a w3 ha hsa q3 Ba
    refine go T_ok 100 rfl ?_
    refine stA (vs := [.int .i64 _, .int .i64 _]) T_ok rfl rfl rfl rfl rfl rfl rfl Ba rfl ?_
    intro w4 q4 B4 _
    have q24 : Chg No w w4 := (q2.trans q3).step q4 (fun k hk e => absurd e (by have := q2.size; omega))
    refine go T_ok 100 rfl ?_
    refine ld T_ok rfl rfl rfl rfl (B4.get (i := 0 + 1) rfl) ?_
    refine go T_ok 100 rfl ?_
    refine ld T_ok rfl rfl rfl rfl (B4.get (i := 0) rfl) ?_
    refine go T_ok 100 rfl ?_
    refine ld T_ok rfl rfl rfl rfl ((Bw.no q24).get rfl) ?_
    refine go T_ok 100 rfl ?_
    rw [e1]
    exact ret (ret1 (v := .bool _) Try.results70 rfl ⟨by rw [nearB, he, Bool.false_or], q24⟩)

/-- the first number from n on, of m, with a property -/
def firstN (p : Nat → Bool) (n : Nat) : Nat → Option Nat
  | 0 => none
  | m + 1 => if p n then some n else firstN p (n + 1) m
/-- after how many slots Stop stops -/
def stopN (D : Nat) (lv wd : Int) (xs : List Bool) : Option Nat := firstN (fun n => nearB (sts D lv (xs.take n)) D wd) 0 (xs.length + 1)
def optI (o : Option Nat) : Int := match o with | some n => n | none => 0
def optE (o : Option Nat) : Int := match o with | some _ => 0 | none => 5
theorem Stop_any (xs : List Bool) (D lv wd : Int) (A : Option Addr) (c B : Nat) (w : World) (hSl : Sl w B 1 A xs.length (boolVs xs)) :
    Ret Try.prog 41 [.slice A xs.length c, .int .i64 D, .int .i64 lv, .int .i64 wd] w fun v w' => Chg No w w' ∧
      v = .tuple #[.int .i64 (if exclE xs.length D lv wd = 0 then optI (stopN D.toNat lv wd xs) else 0), .int .i64 (if exclE xs.length D lv wd = 0 then optE (stopN D.toNat lv wd xs) else exclE xs.length D lv wd)] := by
  refine enter Try.func41 rfl Try.ntmps41 rfl ?_
  refine go T_ok 100 rfl ?_
  refine bx rfl rfl rfl (cs := [.int .i64 D]) rfl ?_
  intro g1 w1 hg1 hs1 q1 B1
  refine go T_ok 100 rfl ?_
  refine bx rfl rfl rfl (cs := [.int .i64 lv]) rfl ?_
  intro g2 w2 hg2 hs2 q2 B2
  refine go T_ok 100 rfl ?_
  refine bx rfl rfl rfl (cs := [.int .i64 wd]) rfl ?_
  intro g3 w3 hg3 hs3 q3 B3
  have B1 := (B1.no q2).no q3
  have B2 := B2.no q3
  have q := (q1.trans q2).trans q3
  refine go T_ok 100 rfl ?_
  refine ld T_ok rfl rfl rfl rfl (B1.get rfl) ?_
  refine go T_ok 100 rfl ?_
  refine call rfl rfl rfl (ok _ (by decide) rfl) (listed_any A xs.length c D 69 [.pointer (some ⟨g2, 0, none⟩), .pointer (some ⟨g3, 0, none⟩), .pointer (some ⟨g1, 0, none⟩)] (ok _ (by decide) rfl) _ w3 (lev69 lv wd D g2 g3 g1 w3 B2 B3 B1)) ?_
  rintro v w4 ⟨rfl, rfl⟩
  refine go T_ok 100 rfl ?_
  refine cond rfl (fun h => ?_) (fun h => ?_)
  · have h : exclE xs.length D lv wd ≠ 0 := by simpa [exclE] using h
    refine go T_ok 100 rfl ?_
    refine ret (ret2 (v := .int .i64 _) (x := .int .i64 _) Try.results41 rfl rfl ⟨q, ?_⟩)
    rw [if_neg h, if_neg h]
    rfl
  · have h : exclE xs.length D lv wd = 0 := by simpa [exclE] using h
    rw [if_pos h, if_pos h]
    obtain ⟨d, rfl, hd0, hd1, hn, hlv⟩ := listedE_zero h
    simp only [Bool.and_eq_true] at hlv
    obtain ⟨hlv, hx⟩ := hlv
    rw [inB_iff] at hlv
    rw [Int.toNat_natCast]
    refine go T_ok 100 rfl ?_
    refine ld T_ok rfl rfl rfl rfl (B1.get rfl) ?_
    refine go T_ok 100 rfl ?_
    refine ld T_ok rfl rfl rfl rfl (B2.get rfl) ?_
    refine go T_ok 100 rfl ?_
    refine call rfl rfl rfl (ok _ (by decide) rfl) (begin_any d lv w3 hd0 hd1) ?_
    rintro v w4 ⟨b, g, rfl, hb, hg, q4, H⟩
    refine go T_ok 100 rfl ?_
    refine nw rfl rfl (z := .pointer none) (by kernel_rfl) (cs := [.pointer none]) rfl ?_
    intro gb w5 hgb hsb q5 Bb
    refine go T_ok 100 rfl ?_
    refine st (v := .pointer (some ⟨b, 0, none⟩)) T_ok rfl rfl rfl rfl rfl rfl Bb rfl ?_
    intro w6 q6 Bb _
    have hltb := H.ltb
    have hltg := H.ltg
    have q46 : Chg No w4 w6 := q5.step q6 (fun k hk e => absurd e (by omega))
    have H6 := H.no q46
    have q06 : Chg No w w6 := (q.trans q4).trans q46
    have B36 := (B3.no q4).no q46
    have hB := hSl.2.1
    have hs := q.size
    have hs4 := q4.size
    have hg3lt := B3.lt
    refine go T_ok 100 rfl ?_
    refine call rfl rfl rfl (ok _ (by decide) rfl) (near_any b g d lv wd _ gb g3 w6 H6 hd1 Bb B36) ?_
    rintro v w7 ⟨rfl, q7⟩
    refine go T_ok 100 rfl ?_
    have hp0 : nearB (fun _ => BS.new) d wd = nearB (sts d lv (xs.take 0)) d wd := rfl
    rw [hp0]
    refine cond rfl (fun hnear => ?_) (fun hnear => ?_)
    · refine go T_ok 100 rfl ?_
      refine ret (ret2 (v := .int .i64 _) (x := .int .i64 _) Try.results41 rfl rfl ⟨q06.trans q7, ?_⟩)
      rw [stopN, firstN, if_pos hnear]
      rfl
    · refine go T_ok 100 rfl ?_
      have hstop : stopN d lv wd xs = firstN (fun n => nearB (sts d lv (xs.take n)) d wd) (0 + 1) (xs.length - 0) := by
        rw [stopN, firstN, if_neg (by rw [hnear]; simp)]
        rfl
      refine loop [11, 12, 28, 29, 30] (fun i : Nat => [.pointer (some ⟨gb, 0, none⟩), .func (.func 70) #[] #[.pointer (some ⟨gb, 0, none⟩), .pointer (some ⟨g3, 0, none⟩)], .slice A xs.length c, .int .i64 (xs.length : Int), .int .i64 (i : Int)])
        (fun i w' => i ≤ xs.length ∧ Chg No w w' ∧ Bets w' b g d lv (sts d lv (xs.take i)) ∧ Bk w' gb 86 [.pointer (some ⟨b, 0, none⟩)] ∧ Bk w' g3 3 [.int .i64 wd] ∧ stopN d lv wd xs = firstN (fun n => nearB (sts d lv (xs.take n)) d wd) (i + 1) (xs.length - i)) (fun i => xs.length - i) 0 (fun _ => rfl) rfl
        ⟨by omega, q06.trans q7, H6.no q7, Bb.no q7, B36.no q7, hstop⟩ ?_
      rintro i τ w8 ⟨hi, q8, H8, Bb8, B38, hst⟩
      refine go T_ok 100 rfl ?_
      refine condD rfl (fun hlt => ?_) (fun hlt => ?_)
      · have hlt : i < xs.length := by omega
        refine go T_ok 100 rfl ?_
        obtain ⟨_, _, hA⟩ := hSl.no q8
        obtain ⟨bb, off, rfl, hbB, hcells⟩ := hA (by omega)
        refine idx T_ok rfl rfl rfl rfl rfl i rfl (by omega) ?_
        refine go T_ok 100 rfl ?_
        rw [show off + i * 1 = off + i by omega]
        refine ld T_ok rfl rfl rfl rfl (hcells i _ (boolVs_get hlt)) ?_
        refine go T_ok 100 rfl ?_
        refine ld T_ok rfl rfl rfl rfl (Bb8.get rfl) ?_
        refine go T_ok 100 rfl ?_
        have ei : w64 ((i : Int) + 1) = ((i + 1 : Nat) : Int) := w64_id (by omega) (by omega)
        refine call rfl rfl rfl (ok _ (by decide) rfl) (next_any xs[i] d lv _ b g w8 H8 hd0 hd1 (by omega) (by omega) (fun j hj _ => (bst_ok (by omega) (by omega) (by omega) _).mono (by simp; omega))) ?_
        rintro v w9 ⟨rfl, q9, H9⟩
        have H9 : Bets w9 b g d lv (sts d lv (xs.take (i + 1))) := H9.congr fun j _ => by simp only [sts]; rw [bst_snoc _ _ _ _ _ hlt]
        have q09 : Chg No w w9 := q8.step q9 (fun k hk h => by rcases h with h | h <;> omega)
        have Bb9 := Bb8.keep q9 (by omega)
        have B39 := B38.keep q9 (by omega)
        refine go T_ok 100 rfl ?_
        refine call rfl rfl rfl (ok _ (by decide) rfl) (near_any b g d lv wd _ gb g3 w9 H9 hd1 Bb9 B39) ?_
        rintro v w10 ⟨rfl, q10⟩
        refine go T_ok 100 rfl ?_
        rw [show xs.length - i = (xs.length - (i + 1)) + 1 by omega, firstN] at hst
        refine cond rfl (fun hnear => ?_) (fun hnear => ?_)
        · refine go T_ok 100 rfl ?_
          rw [ei]
          refine ret (ret2 (v := .int .i64 _) (x := .int .i64 _) Try.results41 rfl rfl ⟨q09.trans q10, ?_⟩)
          rw [hst, if_pos hnear]
          rfl
        · refine go T_ok 100 rfl ?_
          rw [ei]
          refine round ⟨i + 1, rfl, ⟨by omega, q09.trans q10, H9.no q10, Bb9.no q10, B39.no q10, ?_⟩, by omega⟩
          rw [hst, if_neg (by rw [hnear]; simp)]
      · refine go T_ok 100 rfl ?_
        refine ret (ret2 (v := .int .i64 _) (x := .int .i64 _) Try.results41 rfl rfl ⟨q8, ?_⟩)
        rw [hst, show xs.length - i = 0 by omega]
        rfl
end Go.Proofs.Ytocolpbakaibnaa
