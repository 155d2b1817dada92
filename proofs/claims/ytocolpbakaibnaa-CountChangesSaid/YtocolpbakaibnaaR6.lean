/- The contracts of the specification's Kept and Set. -/
import Derived.Test.YtocolpbakaibnaaR5
namespace Go.Proofs.Ytocolpbakaibnaa
open Go.Ev Go.Proofs Go.Cnt
attribute [local irreducible] At AtH

/-- the kept rates, by the specification -/
def rkp (D : Nat) (lv : Int) (xs : List Bool) (k : Nat) : Bool := (exN D lv (k : Int) xs).isNone
def rkeptL (D : Nat) (lv : Int) (xs : List Bool) : List (Nat × Nat) := spansTo (rkp D lv xs) (D + 1)
theorem spL_append (l m : List (Nat × Nat)) : spL (l ++ m) = spL l ++ spL m := by simp [spL]
theorem spL_last {l : List (Nat × Nat)} {a b k : Nat} (h : l.getLast? = some (a, b)) : spL (l.dropLast ++ [(a, k)]) = (spL l).set (2 * (l.length - 1) + 1) (.int .i64 (k : Int)) := by
  obtain ⟨m, rfl⟩ : ∃ m, l = m ++ [(a, b)] := by
    have hne : l ≠ [] := by intro e; rw [e] at h; cases h
    refine ⟨l.dropLast, ?_⟩
    have h2 := List.dropLast_concat_getLast hne
    rw [List.getLast?_eq_some_getLast hne] at h
    rw [Option.some.inj h] at h2
    exact h2.symm
  rw [List.dropLast_concat, spL_append, spL_append, List.set_append_right _ _ (by rw [spL_len, List.length_append]; simp; omega)]
  have : 2 * ((m ++ [(a, b)]).length - 1) + 1 - (spL m).length = 1 := by rw [spL_len, List.length_append]; simp; omega
  rw [this]
  rfl
theorem rKept_any (xs : List Bool) (D : Nat) (lv : Int) (A : Option Addr) (c B : Nat) (w : World) (hSl : Sl w B 1 A xs.length (boolVs xs)) (hd0 : 2 ≤ D) (hd1 : D ≤ 1000) (hn : xs.length ≤ 4000) (hl0 : 0 ≤ lv) (hl1 : lv ≤ 8000000000000) :
    Ret Try.prog 40 [.slice A xs.length c, .int .i64 D, .int .i64 lv] w fun v w' => ∃ A' c', v = .slice A' (rkeptL D lv xs).length c' ∧ Chg No w w' ∧ w'.ownsRow w.heap.size 65 2 (.slice A' (rkeptL D lv xs).length c') (rkeptL D lv xs).length (spL (rkeptL D lv xs)) := by
  refine enter Try.func40 rfl Try.ntmps40 rfl ?_
  refine go T_ok 100 rfl ?_
  refine call rfl rfl rfl (ok _ (by decide) rfl) (Times_any xs D lv A c B w hSl hd0 hd1 hn hl0 hl1) ?_
  rintro v w1 ⟨At1, ct, rfl, q1, hownt⟩
  refine go T_ok 100 rfl ?_
  have hslt := own_sl hownt
  have hs1 := q1.size
  refine loop [1, 7, 8, 9] (fun x : Nat × Option Addr × Nat => [.int .i64 D, .slice x.2.1 (spansTo (rkp D lv xs) x.1).length x.2.2, .slice At1 (D + 1) ct, .int .i64 (x.1 : Int)])
    (fun x w' => x.1 ≤ D + 1 ∧ Chg No w1 w' ∧ w'.ownsRow w1.heap.size 65 2 (.slice x.2.1 (spansTo (rkp D lv xs) x.1).length x.2.2) (spansTo (rkp D lv xs) x.1).length (spL (spansTo (rkp D lv xs) x.1))) (fun x => D + 1 - x.1) (0, none, 0) (fun _ => rfl) rfl ⟨by simp, Chg.refl _ _, own_nil⟩ ?_
  rintro ⟨k, A1, c1⟩ τ w2 ⟨hi, q, hown⟩
  simp only at hi hown
  dsimp only
  have hlen := spansTo_len (rkp D lv xs) k
  refine go T_ok 100 rfl ?_
  refine condD rfl (fun hlt => ?_) (fun hlt => ?_)
  · have hlt : k ≤ D := by omega
    refine go T_ok 100 rfl ?_
    obtain ⟨_, _, hA⟩ := hslt.no q
    obtain ⟨rt, offt, rfl, _, hcellst⟩ := hA (by omega)
    have hget := hcellst k _ (timV_get (D := (D : Int)) (lv := lv) (xs := xs) (by omega : k < D + 1))
    refine idx T_ok rfl rfl rfl rfl rfl k rfl (by omega) ?_
    refine go T_ok 100 rfl ?_
    rw [show offt + k * 1 = offt + k by omega]
    refine ld T_ok rfl rfl rfl rfl hget ?_
    refine go T_ok 100 rfl ?_
    have ek : w64 ((k : Int) + 1) = ((k + 1 : Nat) : Int) := w64_id (by omega) (by omega)
    have ek1 : w64 ((k : Int) - 1) = (k : Int) - 1 := w64_id (by omega) (by omega)
    cases he : exN (D : Int) lv (k : Int) xs with
    | some t =>
      have hk : rkp D lv xs k = false := by simp [rkp, he]
      have es : spansTo (rkp D lv xs) (k + 1) = spansTo (rkp D lv xs) k := by simp [spansTo, hk]
      refine condT rfl (decide_eq_true (by simp only [optM]; omega)) ?_
      refine go T_ok 100 rfl ?_
      rw [ek]
      exact round ⟨(k + 1, A1, c1), by simp only [es]; rfl, ⟨by simp only; omega, q, by simp only [es]; exact hown⟩, by simp only; omega⟩
    | none =>
      have hk : rkp D lv xs k = true := by simp [rkp, he]
      have es : spansTo (rkp D lv xs) (k + 1) = addSp (spansTo (rkp D lv xs) k) k := by simp [spansTo, hk]
      have es2 : spL (spansTo (rkp D lv xs) k ++ [(k, k)]) = spL (spansTo (rkp D lv xs) k) ++ [.int .i64 (k : Int), .int .i64 (k : Int)] := spL_add _ _ _
      refine condF rfl rfl ?_
      refine go T_ok 100 rfl ?_
      refine guardD rfl rfl rfl (fun hg => ?_) (fun hg => ?_)
      · obtain ⟨a, b, hl⟩ : ∃ a b, (spansTo (rkp D lv xs) k).getLast? = some (a, b) := by
          have hne : spansTo (rkp D lv xs) k ≠ [] := by intro e; rw [e] at hg; simp at hg
          exact ⟨_, _, List.getLast?_eq_some_getLast hne⟩
        have hl2 : (spansTo (rkp D lv xs) k)[(spansTo (rkp D lv xs) k).length - 1]? = some (a, b) := by rw [← List.getLast?_eq_getElem?]; exact hl
        have hg0 : 0 < (spansTo (rkp D lv xs) k).length := by omega
        obtain ⟨g, m, f, rfl, hge, Rg, hm, hcg⟩ := own_row hown hg0
        have en : w64 (((spansTo (rkp D lv xs) k).length : Int) - 1) = (((spansTo (rkp D lv xs) k).length - 1 : Nat) : Int) := (w64_id (by omega) (by omega)).trans (by omega)
        refine go T_ok 100 rfl ?_
        rw [en]
        refine idx T_ok rfl rfl rfl rfl rfl ((spansTo (rkp D lv xs) k).length - 1) rfl (by omega) ?_
        refine go T_ok 100 rfl ?_
        have eo : 0 + ((spansTo (rkp D lv xs) k).length - 1) * 2 + 1 = 2 * ((spansTo (rkp D lv xs) k).length - 1) + 1 := by omega
        rw [eo]
        have hc1 : w2.cell? ⟨g, 2 * ((spansTo (rkp D lv xs) k).length - 1) + 1, none⟩ = some (.int .i64 (b : Int)) := by
          rw [Rg.cell (by omega), ← hcg _ (by omega)]
          exact (spL_get hl2).2
        refine ld T_ok rfl rfl rfl rfl hc1 ?_
        refine go T_ok 100 rfl ?_
        rw [ek1]
        refine cond rfl (fun hb => ?_) (fun hb => ?_)
        · have hb : b + 1 = k := by have := beq_iff_eq.1 hb; omega
          have es3 : spansTo (rkp D lv xs) (k + 1) = (spansTo (rkp D lv xs) k).dropLast ++ [(a, k)] := by rw [es, addSp, hl]; simp only; rw [if_pos hb]
          refine go T_ok 100 rfl ?_
          rw [en]
          refine idx T_ok rfl rfl rfl rfl rfl ((spansTo (rkp D lv xs) k).length - 1) rfl (by omega) ?_
          refine go T_ok 100 rfl ?_
          rw [eo]
          refine stC (v := .int .i64 _) T_ok rfl rfl rfl rfl rfl rfl hc1 (Rg.frozen _) ?_
          refine go T_ok 100 rfl ?_
          rw [ek]
          have hl3 : (spansTo (rkp D lv xs) (k + 1)).length = (spansTo (rkp D lv xs) k).length := by rw [es3]; simp; omega
          refine round ⟨(k + 1, some ⟨g, 0, none⟩, c1), by simp only [hl3]; rfl, ⟨by simp only; omega, q.step (Chg.setCell w2 ⟨g, _, none⟩ _) (fun x hx e => absurd e (by simp only; omega)), ?_⟩, by simp only; omega⟩
          have := own_set hown (i := 2 * ((spansTo (rkp D lv xs) k).length - 1) + 1) (by omega) (.int .i64 (k : Int))
          rw [← spL_last hl] at this
          simp only [hl3]
          rw [es3]
          exact this
        · have hb : ¬ b + 1 = k := by have := beq_eq_false_iff_ne.1 hb; omega
          have es3 : spansTo (rkp D lv xs) (k + 1) = spansTo (rkp D lv xs) k ++ [(k, k)] := by rw [es, addSp, hl]; simp only; rw [if_neg hb]
          refine go T_ok 100 rfl ?_
          refine app1 T_ok rfl rfl rfl rfl rfl rfl (cs := [.int .i64 (k : Int), .int .i64 (k : Int)]) rfl rfl rfl rfl (fun _ => rfl) (fun _ => rfl) (fun _ => rfl) hown (by unfold maxLen; omega) (by omega) q.size ?_
          intro g5 A2 c2 w9 hown9 q9 hs9 _
          refine go T_ok 100 rfl ?_
          rw [ek]
          exact round ⟨(k + 1, A2, c2), by simp only [es3, List.length_append]; rfl, ⟨by simp only; omega, q.step q9 (fun k' hk' e => absurd (own_ge hown e) (by omega)), by simp only [es3, List.length_append, es2]; exact hown9⟩, by simp only; omega⟩
      · have hnil : spansTo (rkp D lv xs) k = [] := by
          have h1 : (spansTo (rkp D lv xs) k).length = 0 := by omega
          exact List.length_eq_zero_iff.1 h1
        have es3 : spansTo (rkp D lv xs) (k + 1) = spansTo (rkp D lv xs) k ++ [(k, k)] := by rw [es, hnil]; rfl
        refine go T_ok 100 rfl ?_
        refine app1 T_ok rfl rfl rfl rfl rfl rfl (cs := [.int .i64 (k : Int), .int .i64 (k : Int)]) rfl rfl rfl rfl (fun _ => rfl) (fun _ => rfl) (fun _ => rfl) hown (by unfold maxLen; omega) (by omega) q.size ?_
        intro g5 A2 c2 w9 hown9 q9 hs9 _
        refine go T_ok 100 rfl ?_
        rw [ek]
        exact round ⟨(k + 1, A2, c2), by simp only [es3, List.length_append]; rfl, ⟨by simp only; omega, q.step q9 (fun k' hk' e => absurd (own_ge hown e) (by omega)), by simp only [es3, List.length_append, es2]; exact hown9⟩, by simp only; omega⟩
  · refine go T_ok 100 rfl ?_
    have : k = D + 1 := by omega
    subst this
    exact ret (ret1 (v := .slice _ _ _) Try.results40 rfl ⟨A1, c1, rfl, q1.trans q, own_base hown hs1⟩)
end Go.Proofs.Ytocolpbakaibnaa
