/- The contracts of SameSpans and of the specification's Kept and Set. -/
import Derived.Test.YtocolpbakaibnaaR4
namespace Go.Proofs.Ytocolpbakaibnaa
open Go.Ev Go.Proofs Go.Cnt

/-- a store of one cell into an owned row -/
theorem own_set {w : World} {B : Nat} {e : TypeId} {sz n c g i : Nat} {xs : List Value} (h : w.ownsRow B e sz (.slice (some ⟨g, 0, none⟩) n c) n xs) (hi : i < n * sz) (v : Value) :
    (w.setCell ⟨g, i, none⟩ v).ownsRow B e sz (.slice (some ⟨g, 0, none⟩) n c) n (xs.set i v) := by
  refine ⟨by rw [List.length_set]; exact h.1, ?_⟩
  rcases h.2 with ⟨h1, _⟩ | ⟨g', cap, cur, hv, hb, hg, hnc, h5, hcs, htake⟩
  · cases h1
  · injection hv with hA hn hc
    injection hA with hA
    injection hA with hA
    subst hA
    have hsz := Nat.mul_le_mul_right sz hnc
    refine .inr ⟨g, cap, cur.set i v (by omega), by rw [hc], hb, ?_, hnc, h5, by simp [hcs], ?_⟩
    · have := Bk.set (w := w) (g := g) (t := e) (cs := cur.toList) (by unfold Bk; rw [Array.toArray_toList]; exact hg) i v
      unfold Bk at this
      rw [this]
      congr 2
    · simp only [Array.toList_set, List.take_set, htake]
theorem mem_lt {l : List (Nat × Nat)} {i : Nat} (h : i < l.length) : ∃ s, l[i]? = some s := ⟨l[i], List.getElem?_eq_getElem h⟩
theorem ptr_inj {l m : List (Nat × Nat)} : spL l = spL m → l = m := by
  intro h
  have hlen : l.length = m.length := by
    have h1 := spL_len l
    have h2 := spL_len m
    rw [h] at h1
    omega
  apply List.ext_getElem? 
  intro i
  by_cases hi : i < l.length
  · obtain ⟨s, hs⟩ := mem_lt hi
    obtain ⟨t, ht⟩ := mem_lt (hlen ▸ hi)
    have h1 := spL_get hs
    have h2 := spL_get ht
    rw [h] at h1
    have e1 := h1.1.symm.trans h2.1
    have e2 := h1.2.symm.trans h2.2
    simp only [Option.some.injEq, Value.int.injEq, true_and] at e1 e2
    rw [hs, ht]
    congr 1
    exact Prod.ext (by omega) (by omega)
  · rw [List.getElem?_eq_none (by omega), List.getElem?_eq_none (by omega)]
attribute [local irreducible] At AtH
theorem SameSpans_any (l m : List (Nat × Nat)) (A A2 : Option Addr) (c c2 B B2 : Nat) (w : World) (h : Sl w B 2 A l.length (spL l)) (h2 : Sl w B2 2 A2 m.length (spL m)) (hl : l.length ≤ 1000000) :
    Ret Try.prog 39 [.slice A l.length c, .slice A2 m.length c2] w fun v w' => v = .bool (decide (l = m)) ∧ Chg No w w' := by
  refine enter Try.func39 rfl Try.ntmps39 rfl ?_
  refine go T_ok 100 rfl ?_
  refine cond rfl (fun hne => ?_) (fun hne => ?_)
  · have hne : ¬ l.length = m.length := by
      have := bne_iff_ne.1 hne
      omega
    refine go T_ok 100 rfl ?_
    refine ret (ret1 (v := .bool _) Try.results39 rfl ⟨?_, Chg.refl _ _⟩)
    rw [decide_eq_false (fun e => hne (by rw [e]))]
  · have hlen : l.length = m.length := by
      have := bne_eq_false_iff_eq.1 hne
      omega
    refine go T_ok 100 rfl ?_
    refine loop [0, 1, 5] (fun i : Nat => [.slice A l.length c, .slice A2 m.length c2, .int .i64 (i : Int)])
      (fun i w' => Chg No w w' ∧ i ≤ l.length ∧ (decide (l = m)) = (decide (l.drop i = m.drop i))) (fun i => l.length - i) 0 (fun _ => rfl) rfl ⟨Chg.refl _ _, by omega, by simp⟩ ?_
    rintro i τ w1 ⟨q, hi, hd⟩
    refine go T_ok 100 rfl ?_
    refine condD rfl (fun hlt => ?_) (fun hlt => ?_)
    · have hlt : i < l.length := by omega
      obtain ⟨_, _, hA⟩ := h.no q
      obtain ⟨b, off, rfl, hb, hcells⟩ := hA (by omega)
      obtain ⟨_, _, hA2⟩ := h2.no q
      obtain ⟨b2, off2, rfl, hb2, hcells2⟩ := hA2 (by omega)
      have hgl := List.getElem?_eq_getElem hlt
      have hgm := List.getElem?_eq_getElem (hlen ▸ hlt : i < m.length)
      have hd : (decide (l = m)) = (decide (l[i] = (m[i]'(by omega))) && decide (l.drop (i + 1) = m.drop (i + 1))) := by
        rw [hd, List.drop_eq_getElem_cons hlt, List.drop_eq_getElem_cons (show i < m.length by omega)]
        simp only [List.cons.injEq, Bool.decide_and]
      generalize l[i] = s at hgl hd
      generalize (m[i]'(by omega)) = t at hgm hd
      have L1 : cellsAt w1 b (off + i * 2) [.int .i64 s.1, .int .i64 s.2] := by
        intro j v hv
        match j, hv with
        | 0, hv => simp at hv; subst hv; rw [show off + i * 2 + 0 = off + 2 * i by omega]; exact hcells _ _ (spL_get hgl).1
        | 1, hv => simp at hv; subst hv; rw [show off + i * 2 + 1 = off + (2 * i + 1) by omega]; exact hcells _ _ (spL_get hgl).2
        | j + 2, hv => simp at hv
      have L2 : cellsAt w1 b2 (off2 + i * 2) [.int .i64 t.1, .int .i64 t.2] := by
        intro j v hv
        match j, hv with
        | 0, hv => simp at hv; subst hv; rw [show off2 + i * 2 + 0 = off2 + 2 * i by omega]; exact hcells2 _ _ (spL_get hgm).1
        | 1, hv => simp at hv; subst hv; rw [show off2 + i * 2 + 1 = off2 + (2 * i + 1) by omega]; exact hcells2 _ _ (spL_get hgm).2
        | j + 2, hv => simp at hv
      refine go T_ok 100 rfl ?_
      refine draw mixed (fun w' => w' = w1.drew) ((List.range 9).map fun i => (i, true)) rfl (by kernel_rfl) rfl ?_
      refine goH T_ok 100 rfl ?_
      refine quietH rfl (fun w' hS => r_idx T_ok rfl rfl rfl rfl i rfl (by omega)) ?_
      refine goH T_ok 100 rfl ?_
      refine quietH rfl (fun w' hS => r_loadA T_ok rfl rfl rfl (cs := [.int .i64 s.1, .int .i64 s.2]) rfl (by rw [hS]; exact L1)) ?_
      refine goH T_ok 100 rfl ?_
      refine quietH rfl (fun w' hS => r_idx T_ok rfl rfl rfl rfl i rfl (by omega)) ?_
      refine goH T_ok 100 rfl ?_
      refine quietH rfl (fun w' hS => r_loadA T_ok rfl rfl rfl (cs := [.int .i64 t.1, .int .i64 t.2]) rfl (by rw [hS]; exact L2)) ?_
      refine goH T_ok 100 rfl ?_
      refine quietH rfl (fun w' hS => r_neq65 (a := s.1) (b := s.2) (c := t.1) (d := t.2) rfl rfl rfl) ?_
      refine goH T_ok 100 rfl ?_
      refine endH ?_
      refine go T_ok 100 rfl ?_
      have ei : w64 ((i : Int) + 1) = ((i + 1 : Nat) : Int) := w64_id (by omega) (by omega)
      have est : (((s.1 : Int) == (t.1 : Int)) && ((s.2 : Int) == (t.2 : Int))) = decide (s = t) := by
        rw [Bool.eq_iff_iff]
        simp only [Bool.and_eq_true, beq_iff_eq, decide_eq_true_eq, Prod.ext_iff]
        omega
      rw [est]
      refine cond rfl (fun he => ?_) (fun he => ?_)
      · have he : decide (s = t) = false := by simpa using he
        refine go T_ok 100 rfl ?_
        refine ret (ret1 (v := .bool _) Try.results39 rfl ⟨?_, q.no (Chg.drew _)⟩)
        rw [hd, he, Bool.false_and]
      · have he : decide (s = t) = true := by simpa using he
        refine go T_ok 100 rfl ?_
        rw [ei]
        refine round ⟨i + 1, rfl, ⟨q.no (Chg.drew _), by omega, ?_⟩, by omega⟩
        rw [hd, he, Bool.true_and]
    · refine go T_ok 100 rfl ?_
      refine ret (ret1 (v := .bool _) Try.results39 rfl ⟨?_, q⟩)
      rw [hd, List.drop_eq_nil_of_le (by omega), List.drop_eq_nil_of_le (by omega)]
      rfl
end Go.Proofs.Ytocolpbakaibnaa
