/- The contracts of the specification's Compare and All, of whole and of the example. -/
import Derived.Test.YtocolpbakaibnaaR7
namespace Go.Proofs.Ytocolpbakaibnaa
open Go.Ev Go.Proofs Go.Cnt
attribute [local irreducible] At AtH

theorem rCompare_any (xs ys : List Bool) (D : Nat) (lv : Int) (A A2 : Option Addr) (c c2 B B2 : Nat) (w : World) (hSl : Sl w B 1 A xs.length (boolVs xs)) (hSl2 : Sl w B2 1 A2 ys.length (boolVs ys)) (hd0 : 2 ≤ D) (hd1 : D ≤ 1000) (hn : xs.length ≤ 4000) (hm : ys.length ≤ 4000) (hl0 : 0 ≤ lv) (hl1 : lv ≤ 4000000000000) :
    Ret Try.prog 45 [.slice A xs.length c, .slice A2 ys.length c2, .int .i64 D, .int .i64 lv] w fun v w' => v = .int .i64 (cmpL (rkeptL D (2 * lv) xs) (rkeptL D (2 * lv) ys)) ∧ Chg No w w' := by
  have e2 : w64 (2 * lv) = 2 * lv := w64_id (by omega) (by omega)
  refine enter Try.func45 rfl Try.ntmps45 rfl ?_
  refine go T_ok 100 rfl ?_
  rw [e2]
  refine call rfl rfl rfl (ok _ (by decide) rfl) (rSet_any xs D (2 * lv) A c B w hSl hd0 hd1 hn (by omega) (by omega)) ?_
  rintro v w1 ⟨rfl, q1⟩
  refine go T_ok 100 rfl ?_
  refine nw rfl rfl (z := .agg #[.int .i64 0, .int .i64 0]) (by kernel_rfl) (cs := [.int .i64 0, .int .i64 0]) rfl ?_
  intro a w2 hg hg1 q2 Ba
  refine go T_ok 100 rfl ?_
  refine stA (vs := [.int .i64 _, .int .i64 _]) T_ok rfl rfl rfl rfl rfl rfl rfl Ba rfl ?_
  intro w3 q3 Ba hs3
  refine go T_ok 100 rfl ?_
  rw [e2]
  have hsz1 := q1.size
  have q03 : Chg No w w3 := (q1.trans q2).step q3 fun k hk e => absurd e (by omega)
  refine call rfl rfl rfl (ok _ (by decide) rfl) (rSet_any ys D (2 * lv) A2 c2 B2 w3 (hSl2.no q03) hd0 hd1 hm (by omega) (by omega)) ?_
  rintro v w4 ⟨rfl, q4⟩
  refine go T_ok 100 rfl ?_
  refine nw rfl rfl (z := .agg #[.int .i64 0, .int .i64 0]) (by kernel_rfl) (cs := [.int .i64 0, .int .i64 0]) rfl ?_
  intro b w5 hgb hgb1 q5 Bb
  refine go T_ok 100 rfl ?_
  refine stA (vs := [.int .i64 _, .int .i64 _]) T_ok rfl rfl rfl rfl rfl rfl rfl Bb rfl ?_
  intro w6 q6 Bb _
  have hlt := Ba.lt
  have hsz4 := q4.size
  have Ba := ((Ba.no q4).no q5).keep q6 (by omega)
  have hsz03 := q03.size
  have q06 : Chg No w w6 := ((q03.trans q4).trans q5).step q6 fun k hk e => absurd e (by omega)
  refine go T_ok 100 rfl ?_
  unfold cmpL
  generalize rkeptL D (2 * lv) xs = l at Ba ⊢
  generalize rkeptL D (2 * lv) ys = m at Bb ⊢
  cases hl : l.isEmpty with
  | true =>
    refine guard (b := true) rfl rfl rfl (fun _ => ?_) (fun h => by cases h)
    refine go T_ok 100 rfl ?_
    exact ret (ret1 (v := .int .i64 _) Try.results45 rfl ⟨rfl, q06⟩)
  | false =>
    refine guard (b := false) rfl rfl rfl (fun h => by cases h) (fun _ => ?_)
    refine go T_ok 100 rfl ?_
    cases hm : m.isEmpty with
    | true =>
      refine condT rfl rfl ?_
      refine go T_ok 100 rfl ?_
      exact ret (ret1 (v := .int .i64 _) Try.results45 rfl ⟨rfl, q06⟩)
    | false =>
      refine condF rfl rfl ?_
      refine go T_ok 100 rfl ?_
      refine ld T_ok rfl rfl rfl rfl (Ba.get (i := 0 + 1) rfl) ?_
      refine go T_ok 100 rfl ?_
      refine ld T_ok rfl rfl rfl rfl (Bb.get (i := 0) rfl) ?_
      refine go T_ok 100 rfl ?_
      refine condD rfl (fun h1 => ?_) (fun h1 => ?_)
      · refine go T_ok 100 rfl ?_
        refine ret (ret1 (v := .int .i64 _) Try.results45 rfl ⟨?_, q06⟩)
        rw [if_neg (by simp), if_pos (Int.ofNat_lt.1 h1)]
      · have h1 : ¬ (hullL l).2 < (hullL m).1 := fun e => h1 (Int.ofNat_lt.2 e)
        refine go T_ok 100 rfl ?_
        refine ld T_ok rfl rfl rfl rfl (Ba.get (i := 0) rfl) ?_
        refine go T_ok 100 rfl ?_
        refine ld T_ok rfl rfl rfl rfl (Bb.get (i := 0 + 1) rfl) ?_
        refine go T_ok 100 rfl ?_
        refine condD rfl (fun h2 => ?_) (fun h2 => ?_)
        · refine go T_ok 100 rfl ?_
          refine ret (ret1 (v := .int .i64 _) Try.results45 rfl ⟨?_, q06⟩)
          rw [if_neg (by simp), if_neg h1, if_pos (Int.ofNat_lt.1 h2)]
        · have h2 : ¬ (hullL m).2 < (hullL l).1 := fun e => h2 (Int.ofNat_lt.2 e)
          refine go T_ok 100 rfl ?_
          refine ret (ret1 (v := .int .i64 _) Try.results45 rfl ⟨?_, q06⟩)
          rw [if_neg (by simp), if_neg h1, if_neg h2]
theorem example_any (w : World) : Ret Try.prog 50 [] w fun v w' => ∃ g, v = .slice (some ⟨g, 0, none⟩) 4 4 ∧ Chg No w w' ∧ w'.ownsRow w.heap.size 4 1 (.slice (some ⟨g, 0, none⟩) 4 4) 4 (boolVs [true, false, true, true]) := by
  refine enter Try.func50 rfl Try.ntmps50 rfl ?_
  refine go T_ok 100 rfl ?_
  refine row T_ok rfl rfl rfl rfl rfl rfl (cs := [.bool true, .bool false, .bool true, .bool true]) rfl ?_
  intro r w1 hr hs1 q1 Br hl
  refine go T_ok 100 rfl ?_
  exact ret (ret1 (v := .slice _ _ _) Try.results50 rfl ⟨r, rfl, q1, own_base (Br.own rfl (by decide)) (by omega)⟩)
/-- the weight of all outcomes of m more slots -/
def allN (D out : Int) : Nat → Option Int
  | 0 => some out
  | m + 1 => if out > 1152921504606846976 / D then none else allN D (out * D) m
theorem allN_bd {D out : Int} (hD : 2 ≤ D) (h0 : 1 ≤ out) (h1 : out ≤ 1152921504606846976) (h : ¬ out > 1152921504606846976 / D) : 1 ≤ out * D ∧ out * D ≤ 1152921504606846976 := by
  have h2 : out ≤ 1152921504606846976 / D := by omega
  have h3 : out * D ≤ (1152921504606846976 / D) * D := Int.mul_le_mul_of_nonneg_right h2 (by omega)
  have h4 : (1152921504606846976 / D) * D ≤ 1152921504606846976 := Int.ediv_mul_le _ (by omega)
  have h5 : 1 * 1 ≤ out * D := Int.mul_le_mul h0 (by omega) (by omega) (by omega)
  omega
theorem rAll_any (s D : Int) (w : World) (hD : 2 ≤ D) (hs : s ≤ 4000000000) (hs0 : 0 ≤ s) : Ret Try.prog 26 [.int .i64 s, .int .i64 D] w fun v w' =>
    v = (if s ≤ 12 then match allN D 1 s.toNat with | some n => .tuple #[.int .i64 n, .bool true] | none => .tuple #[.int .i64 0, .bool false] else .tuple #[.int .i64 0, .bool false]) ∧ w = w' := by
  obtain ⟨s, rfl⟩ : ∃ k : Nat, s = k := ⟨s.toNat, by omega⟩
  refine enter Try.func26 rfl Try.ntmps26 rfl ?_
  refine go T_ok 100 rfl ?_
  refine loop [0, 1, 6, 7] (fun x : Nat × Int => [.int .i64 s, .int .i64 D, .int .i64 x.2, .int .i64 (x.1 : Int)])
    (fun x w' => w = w' ∧ x.1 ≤ s ∧ x.1 ≤ 12 ∧ 1 ≤ x.2 ∧ x.2 ≤ 1152921504606846976 ∧ allN D 1 s = allN D x.2 (s - x.1)) (fun x => s - x.1) (0, 1) (fun _ => rfl) rfl ⟨rfl, by simp, by simp, by simp, by simp, by simp⟩ ?_
  rintro ⟨i, out⟩ τ w' ⟨rfl, hi, hi2, h1, h2, h3⟩
  simp only at hi hi2 h1 h2 h3
  dsimp only
  refine go T_ok 100 rfl ?_
  refine condD rfl (fun hlt => ?_) (fun hlt => ?_)
  · have hlt : i < s := by omega
    rw [show s - i = (s - (i + 1)) + 1 by omega, allN] at h3
    refine go T_ok 100 rfl ?_
    refine guardD rfl rfl rfl (fun h4 => ?_) (fun h4 => ?_)
    · refine go T_ok 100 rfl ?_
      refine ret (ret2 (v := .int .i64 _) (x := .bool _) Try.results26 rfl rfl ⟨?_, rfl⟩)
      rw [if_neg (by omega)]
    · refine go T_ok 100 rfl ?_
      refine quoN rfl rfl rfl rfl (by omega) (by omega) (by omega) ?_
      refine go T_ok 100 rfl ?_
      refine condD rfl (fun h5 => ?_) (fun h5 => ?_)
      · refine go T_ok 100 rfl ?_
        refine ret (ret2 (v := .int .i64 _) (x := .bool _) Try.results26 rfl rfl ⟨?_, rfl⟩)
        rw [if_pos h5] at h3
        rw [Int.toNat_natCast, h3]
        split <;> rfl
      · have hb := allN_bd hD h1 h2 h5
        rw [if_neg h5] at h3
        have e1 : w64 (out * D) = out * D := w64_id (by omega) (by omega)
        have ei : w64 ((i : Int) + 1) = ((i + 1 : Nat) : Int) := w64_id (by omega) (by omega)
        refine go T_ok 100 rfl ?_
        rw [e1, ei]
        exact round ⟨(i + 1, out * D), rfl, ⟨rfl, by simp only; omega, by simp only; omega, hb.1, hb.2, h3⟩, by simp only; omega⟩
  · refine go T_ok 100 rfl ?_
    refine ret (ret2 (v := .int .i64 _) (x := .bool _) Try.results26 rfl rfl ⟨?_, rfl⟩)
    rw [show s - i = 0 by omega] at h3
    rw [if_pos (by omega), Int.toNat_natCast, h3]
    rfl
end Go.Proofs.Ytocolpbakaibnaa
