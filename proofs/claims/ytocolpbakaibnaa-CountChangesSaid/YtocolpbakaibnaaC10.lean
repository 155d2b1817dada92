/- The contract of Compare. -/
import Derived.Test.YtocolpbakaibnaaC9
namespace Go.Proofs.Ytocolpbakaibnaa
open Go.Ev Go.Proofs Go.Cnt
attribute [local irreducible] At AtH

theorem cmpE_zero {n m : Nat} {D lv : Int} (h : cmpE n m D lv = 0) : ∃ d : Nat, D = d ∧ 2 ≤ d ∧ d ≤ 1000 ∧ n ≤ 4000 ∧ m ≤ 4000 ∧ 2 ≤ lv ∧ lv ≤ 450000 := by
  unfold cmpE at h
  split at h
  · rename_i h1
    exact absurd h h1.2
  · rename_i h1
    obtain ⟨d, rfl, h2, h3, h4, h5⟩ := listedE_zero h
    rw [inB_iff] at h5
    have h6 : listedE m d true = 0 := by
      cases Decidable.em (listedE m (d : Int) true = 0) with
      | inl h => exact h
      | inr h => exact absurd ⟨h4, h⟩ h1
    obtain ⟨_, _, _, _, h7, _⟩ := listedE_zero h6
    exact ⟨d, rfl, h2, h3, h4, h7, h5.1, h5.2⟩
set_option maxRecDepth 20000 in
theorem Compare_any (xs ys : List Bool) (D lv : Int) (A A2 : Option Addr) (c c2 B B2 : Nat) (w : World) (hSl : Sl w B 1 A xs.length (boolVs xs)) (hSl2 : Sl w B2 1 A2 ys.length (boolVs ys)) :
    Ret Try.prog 44 [.slice A xs.length c, .slice A2 ys.length c2, .int .i64 D, .int .i64 lv] w fun v w' => Chg No w w' ∧
      v = .tuple #[.int .i64 (if cmpE xs.length ys.length D lv = 0 then cmpL (keptL D.toNat (2 * lv) xs) (keptL D.toNat (2 * lv) ys) else 0), .int .i64 (cmpE xs.length ys.length D lv)] := by
  refine enter Try.func44 rfl Try.ntmps44 rfl ?_
  refine go T_ok 100 rfl ?_
  refine bx rfl rfl rfl (cs := [.int .i64 lv]) rfl ?_
  intro g1 w1 hg1 hs1 q1 B1
  refine go T_ok 100 rfl ?_
  refine condD rfl (fun hn => ?_) (fun hn => ?_)
  · have hn : xs.length ≤ 4000 := by omega
    refine go T_ok 100 rfl ?_
    refine call rfl rfl rfl (ok _ (by decide) rfl) (listed_any A2 ys.length c2 D 75 [] (ok _ (by decide) rfl) _ w1 (lev75 w1)) ?_
    rintro v w2 ⟨rfl, rfl⟩
    refine go T_ok 100 rfl ?_
    refine cond rfl (fun h => ?_) (fun h => ?_)
    · have h : listedE ys.length D true ≠ 0 := by simpa using h
      have h2 : cmpE xs.length ys.length D lv = listedE ys.length D true := by rw [cmpE, if_pos ⟨hn, h⟩]
      rw [h2, if_neg h]
      refine go T_ok 100 rfl ?_
      exact ret (ret2 (v := .int .i64 _) (x := .int .i64 _) Try.results44 rfl rfl ⟨q1, rfl⟩)
    · have h : listedE ys.length D true = 0 := by simpa using h
      have h2 : cmpE xs.length ys.length D lv = listedE xs.length D (inB lv 2 450000) := by rw [cmpE, if_neg (fun e => e.2 h)]
      refine go T_ok 100 rfl ?_
      refine call rfl rfl rfl (ok _ (by decide) rfl) (listed_any A xs.length c D 76 [.pointer (some ⟨g1, 0, none⟩)] (ok _ (by decide) rfl) _ w1 (lev76 lv g1 w1 B1)) ?_
      rintro v w2 ⟨rfl, rfl⟩
      refine go T_ok 100 rfl ?_
      refine cond rfl (fun h3 => ?_) (fun h3 => ?_)
      · have h3 : listedE xs.length D (inB lv 2 450000) ≠ 0 := by simpa using h3
        rw [h2, if_neg h3]
        refine go T_ok 100 rfl ?_
        exact ret (ret2 (v := .int .i64 _) (x := .int .i64 _) Try.results44 rfl rfl ⟨q1, rfl⟩)
      · have h3 : listedE xs.length D (inB lv 2 450000) = 0 := by simpa using h3
        rw [h2, if_pos h3, h3]
        obtain ⟨d, rfl, hd0, hd1, _, hm, hl0, hl1⟩ := cmpE_zero (h2.trans h3)
        rw [Int.toNat_natCast]
        refine go T_ok 100 rfl ?_
        have e2 : w64 (2 * lv) = 2 * lv := w64_id (by omega) (by omega)
        have hB := hSl.2.1
        have hB2 := hSl2.2.1
        have hs := q1.size
        have hdr : w1.drew.heap.size = w1.heap.size := rfl
        refine draw mixed (fun w' => Chg No w1 w') ([0,1,2,4,6,7,8,10].map (fun i => (i, true)) ++ [(3, false)] ++ [(5, false)] ++ [(9, false)] ++ [(11, false)] ++ [12,13].map (fun i => (i, true))) rfl (by kernel_rfl) (Chg.drew _) ?_
        refine goH T_ok 100 rfl ?_
        refine quietH rfl (fun w' hS => r_load T_ok rfl rfl rfl ((B1.no hS).get rfl)) ?_
        refine goH T_ok 100 rfl ?_
        refine quietH rfl (fun w' hS => r_load T_ok rfl rfl rfl ((B1.no hS).get rfl)) ?_
        refine goH T_ok 100 rfl ?_
        rw [e2]
        refine callE rfl rfl rfl (ok _ (by decide) rfl) (begin_any d (2 * lv) w1.drew hd0 hd1) ?_
        rintro v w5 ⟨b, g, rfl, hb', hg, q5, H⟩
        have q15 : Chg No w1 w5 := (Chg.drew w1).trans q5
        refine ⟨q15, ?_⟩
        refine goH T_ok 100 rfl ?_
        refine callE rfl rfl rfl (ok _ (by decide) rfl) (run_any xs d (2 * lv) b g B c A w5 ((hSl.no q1).no q15) (by omega) (by omega) H hn hd0 hd1 (by omega) (by omega)) ?_
        rintro v w6 ⟨rfl, q6, H6⟩
        have q16 : Chg No w1 w6 := q15.step q6 (fun k hk h => by rcases h with h | h <;> omega)
        refine ⟨q16, ?_⟩
        refine goH T_ok 100 rfl ?_
        refine callE rfl rfl rfl (ok _ (by decide) rfl) (begin_any d (2 * lv) w6 hd0 hd1) ?_
        rintro v w7 ⟨b2, g2, rfl, hb2, hg2, q7, H7⟩
        have q17 : Chg No w1 w7 := q16.trans q7
        have hs16 := q16.size
        have hltb := H6.ltb
        have hltg := H6.ltg
        refine ⟨q17, ?_⟩
        refine goH T_ok 100 rfl ?_
        refine callE rfl rfl rfl (ok _ (by decide) rfl) (run_any ys d (2 * lv) b2 g2 B2 c2 A2 w7 ((hSl2.no q1).no q17) (by omega) (by omega) H7 hm hd0 hd1 (by omega) (by omega)) ?_
        rintro v w8 ⟨rfl, q8, H8⟩
        have q18 : Chg No w1 w8 := q17.step q8 (fun k hk h => by rcases h with h | h <;> omega)
        have H68 : Bets w8 b g d (2 * lv) (sts d (2 * lv) xs) := (H6.no q7).keep q8 (by omega) (by omega)
        have H8 : Bets w8 b2 g2 d (2 * lv) (sts d (2 * lv) ys) := H8
        refine ⟨q18, ?_⟩
        refine goH T_ok 100 rfl ?_
        refine endH ?_
        refine go T_ok 100 rfl ?_
        obtain ⟨f, cap, Rb, a0, a1, a2, a3, a4, a5⟩ := id H68.par
        obtain ⟨f', cap', Rb', a0', a1', a2', a3', a4', a5'⟩ := id H8.par
        have q08 := q1.trans q18
        refine ld T_ok rfl rfl rfl rfl ((Rb.cell (i := 0 + 1004) (by omega)).trans (congrArg some a3)) ?_
        refine go T_ok 100 rfl ?_
        have k1 := kept_cnt (D := d) (S := sts d (2 * lv) xs)
        have k2 := kept_cnt (D := d) (S := sts d (2 * lv) ys)
        rw [k1]
        cases he : (keptL d (2 * lv) xs).isEmpty with
        | true =>
          have he' : (spansTo (kp (sts d (2 * lv) xs)) (d + 1)).isEmpty = true := he
          rw [he']
          refine guard (b := true) rfl rfl rfl (fun _ => ?_) (fun h => by cases h)
          refine go T_ok 100 rfl ?_
          refine ret (ret2 (v := .int .i64 _) (x := .int .i64 _) Try.results44 rfl rfl ⟨q08, ?_⟩)
          rw [cmpL, he]
          rfl
        | false =>
          have he' : (spansTo (kp (sts d (2 * lv) xs)) (d + 1)).isEmpty = false := he
          rw [he']
          refine guard (b := false) rfl rfl rfl (fun h => by cases h) (fun _ => ?_)
          refine go T_ok 100 rfl ?_
          refine ld T_ok rfl rfl rfl rfl ((Rb'.cell (i := 0 + 1004) (by omega)).trans (congrArg some a3')) ?_
          refine go T_ok 100 rfl ?_
          rw [k2]
          refine cond rfl (fun hf => ?_) (fun hf => ?_)
          · refine go T_ok 100 rfl ?_
            refine ret (ret2 (v := .int .i64 _) (x := .int .i64 _) Try.results44 rfl rfl ⟨q08, ?_⟩)
            have hf : (keptL d (2 * lv) ys).isEmpty = true := hf
            rw [cmpL, he, hf]
            rfl
          · refine go T_ok 100 rfl ?_
            have hf : (keptL d (2 * lv) ys).isEmpty = false := hf
            refine call rfl rfl rfl (ok _ (by decide) rfl) (hull_any b g d (2 * lv) _ w8 H68 hd1 (by intro e; rw [keptL, e] at he; cases he)) ?_
            rintro v w9 ⟨rfl, q9⟩
            refine go T_ok 100 rfl ?_
            refine call rfl rfl rfl (ok _ (by decide) rfl) (hull_any b2 g2 d (2 * lv) _ w9 (H8.no q9) hd1 (by intro e; rw [keptL, e] at hf; cases hf)) ?_
            rintro v w10 ⟨rfl, q10⟩
            refine go T_ok 100 rfl ?_
            refine nw rfl rfl (z := .agg #[.int .i64 0, .int .i64 0]) (by kernel_rfl) (cs := [.int .i64 0, .int .i64 0]) rfl ?_
            intro m1 w11 hm1 hs11 q11 M1
            refine go T_ok 100 rfl ?_
            refine nw rfl rfl (z := .agg #[.int .i64 0, .int .i64 0]) (by kernel_rfl) (cs := [.int .i64 0, .int .i64 0]) rfl ?_
            intro m2 w12 hm2 hs12 q12 M2
            refine go T_ok 100 rfl ?_
            refine stA (vs := [.int .i64 _, .int .i64 _]) T_ok rfl rfl rfl rfl rfl rfl rfl (M1.no q12) rfl ?_
            intro w13 q13 M1 _
            refine go T_ok 100 rfl ?_
            refine stA (vs := [.int .i64 _, .int .i64 _]) T_ok rfl rfl rfl rfl rfl rfl rfl (M2.keep q13 (by omega)) rfl ?_
            intro w14 q14 M2 _
            have M1 := M1.keep q14 (by omega)
            have hs010 := (q08.trans q9).trans q10
            have hss := hs010.size
            have q0 : Chg No w w14 := ((((q08.trans q9).trans q10).trans q11).trans q12).step (q13.mono (N := fun k => k = m1 ∨ k = m2) (fun _ _ h => .inl h) |>.trans (q14.mono (fun _ _ h => .inr h))) (fun k hk h => by rcases h with h | h <;> omega)
            refine go T_ok 100 rfl ?_
            refine ld T_ok rfl rfl rfl rfl (M1.get (i := 0 + 1) rfl) ?_
            refine go T_ok 100 rfl ?_
            refine ld T_ok rfl rfl rfl rfl (M2.get (i := 0) rfl) ?_
            refine go T_ok 100 rfl ?_
            refine condD rfl (fun h1 => ?_) (fun h1 => ?_)
            · refine go T_ok 100 rfl ?_
              refine ret (ret2 (v := .int .i64 _) (x := .int .i64 _) Try.results44 rfl rfl ⟨q0, ?_⟩)
              have h1 : (hullL (keptL d (2 * lv) xs)).2 < (hullL (keptL d (2 * lv) ys)).1 := Int.ofNat_lt.1 h1
              rw [cmpL, he, hf, if_neg (by simp), if_pos h1]
            · have h1 : ¬ (hullL (keptL d (2 * lv) xs)).2 < (hullL (keptL d (2 * lv) ys)).1 := fun e => h1 (Int.ofNat_lt.2 e)
              refine go T_ok 100 rfl ?_
              refine ld T_ok rfl rfl rfl rfl (M1.get (i := 0) rfl) ?_
              refine go T_ok 100 rfl ?_
              refine ld T_ok rfl rfl rfl rfl (M2.get (i := 0 + 1) rfl) ?_
              refine go T_ok 100 rfl ?_
              refine condD rfl (fun h2 => ?_) (fun h2 => ?_)
              · refine go T_ok 100 rfl ?_
                refine ret (ret2 (v := .int .i64 _) (x := .int .i64 _) Try.results44 rfl rfl ⟨q0, ?_⟩)
                have h2 : (hullL (keptL d (2 * lv) ys)).2 < (hullL (keptL d (2 * lv) xs)).1 := Int.ofNat_lt.1 h2
                rw [cmpL, he, hf, if_neg (by simp), if_neg h1, if_pos h2]
              · refine go T_ok 100 rfl ?_
                refine ret (ret2 (v := .int .i64 _) (x := .int .i64 _) Try.results44 rfl rfl ⟨q0, ?_⟩)
                have h2 : ¬ (hullL (keptL d (2 * lv) ys)).2 < (hullL (keptL d (2 * lv) xs)).1 := fun e => h2 (Int.ofNat_lt.2 e)
                rw [cmpL, he, hf, if_neg (by simp), if_neg h1, if_neg h2]
  · have hn : ¬ xs.length ≤ 4000 := by omega
    have h2 : cmpE xs.length ys.length D lv = listedE xs.length D (inB lv 2 450000) := by rw [cmpE, if_neg (fun e => hn e.1)]
    refine go T_ok 100 rfl ?_
    refine call rfl rfl rfl (ok _ (by decide) rfl) (listed_any A xs.length c D 76 [.pointer (some ⟨g1, 0, none⟩)] (ok _ (by decide) rfl) _ w1 (lev76 lv g1 w1 B1)) ?_
    rintro v w2 ⟨rfl, rfl⟩
    refine go T_ok 100 rfl ?_
    refine cond rfl (fun h3 => ?_) (fun h3 => ?_)
    · have h3 : listedE xs.length D (inB lv 2 450000) ≠ 0 := by simpa using h3
      rw [h2, if_neg h3]
      refine go T_ok 100 rfl ?_
      exact ret (ret2 (v := .int .i64 _) (x := .int .i64 _) Try.results44 rfl rfl ⟨q1, rfl⟩)
    · have h3 : listedE xs.length D (inB lv 2 450000) = 0 := by simpa using h3
      obtain ⟨_, _, _, _, h4, _⟩ := listedE_zero h3
      exact absurd h4 hn
end Go.Proofs.Ytocolpbakaibnaa
