/- The contract of the closure of line.Bends: a place is noted in its gate's span. -/
import Derived.Test.YtolhfimknimliaaG4
namespace Go.Proofs.Ytolhfimknimliaa.L
open Go.Ev Go.Proofs Go.Bend
attribute [local irreducible] At AtH
/-- a row of spans -/
def Spn (w : World) (g n : Nat) : Prop := ∃ mm f, w.rowIs g 24 mm f ∧ 2 * n ≤ mm ∧ ∀ k, k < 2 * n → ∃ y, f k = I y
theorem Spn.keep {w w' : World} {g n : Nat} {M : Nat → Prop} (h : Spn w g n) (c : Chg M w w') (hm : ¬ M g) : Spn w' g n := by
 obtain ⟨mm, f, h1, h2⟩ := h
 exact ⟨mm, f, rowIs_keep h1 c hm, h2⟩
theorem Spn.no {w w' : World} {g n : Nat} (h : Spn w g n) (c : Chg No w w') : Spn w' g n := h.keep c fun h => h
theorem Spn.lt {w : World} {g n : Nat} (h : Spn w g n) : g < w.heap.size := by
 obtain ⟨mm, f, h1, _⟩ := h
 exact h1.lt
theorem row_bk {w : World} {g mm : Nat} {t : TypeId} {f : Nat → Value} (h : w.rowIs g t mm f) : ∃ cs, Bk w g t cs ∧ cs.length = mm ∧ ∀ k, k < mm → cs[k]? = some (f k) := by
 obtain ⟨c, h1, h2, h3⟩ := h
 refine ⟨c.toList, ?_, by simpa using h2, fun k hk => by simpa using h3 k hk⟩
 show w.heap[g]? = some (.cells c.toList.toArray t (0, 0))
 rw [Array.toArray_toList]
 exact h1
theorem bk_row {w : World} {g mm : Nat} {t : TypeId} {cs : List Value} (h : Bk w g t cs) (hm : cs.length = mm) : w.rowIs g t mm (fun k => (cs[k]?).getD undef) :=
 ⟨cs.toArray, h, by simpa using hm, fun i hi => by
  rw [List.getElem?_toArray]
  show cs[i]? = some ((cs[i]?).getD undef)
  rw [List.getElem?_eq_getElem (by omega)]
  rfl⟩
theorem putL_two (i : Nat) (a b : Value) (cs : List Value) (h : i + 1 < cs.length) (k : Nat) : (putL i [a, b] cs)[k]? = if k = i then some a else if k = i + 1 then some b else cs[k]? := by
 rw [putL_eq]
 simp only [List.zipIdx_cons, List.zipIdx_nil, List.foldl_cons, List.foldl_nil, Nat.add_zero, Nat.zero_add]
 rw [Array.getElem?_toList, Array.getElem?_setIfInBounds, Array.getElem?_setIfInBounds]
 simp only [Array.size_setIfInBounds, List.size_toArray, List.getElem?_toArray]
 by_cases h1 : k = i
 ·subst h1
  rw [if_neg (by omega), if_pos rfl, if_pos rfl, if_pos (by omega)]
 ·by_cases h2 : k = i + 1
  ·subst h2
   rw [if_pos rfl, if_pos (by omega), if_neg h1, if_pos rfl]
  ·rw [if_neg (by omega), if_neg (by omega), if_neg h1, if_neg h2]
set_option maxRecDepth 20000 in
set_option maxHeartbeats 8000000 in
theorem note_any (n gs gp i : Nat) (x : Int) (w : World) (hi : i < n) (Bp : Bk w gp 53 [.slice (some ⟨gs, 0, none⟩) n n]) (H : Spn w gs n) (hne : gp ≠ gs) :
  Ret Try.prog 52 [I (i : Int), I x, .pointer (some ⟨gp, 0, none⟩)] w fun _ w' => Chg (fun k => k = gs) w w' ∧ w'.heap.size = w.heap.size ∧ Spn w' gs n := by
 obtain ⟨mm, f, hrow, hmm, hf⟩ := H
 obtain ⟨y0, hy0⟩ := hf (0 + i * 2 + 0) (by omega)
 obtain ⟨y1, hy1⟩ := hf (0 + i * 2 + 1) (by omega)
 have hgl := hrow.lt
 have c1 : w.cell? ⟨gs, 0 + i * 2 + 1, none⟩ = some (I y1) := by rw [← hy1]; exact hrow.cell (by omega)
 have c0 : w.cell? ⟨gs, 0 + i * 2 + 0, none⟩ = some (I y0) := by rw [← hy0]; exact hrow.cell (by omega)
 refine enter Try.func52 rfl Try.ntmps52 rfl ?_
 refine go T_ok 200 rfl ?_
 refine draw2 mixed (fun w' => Chg (fun k => k = gs) w w') [0,1,2,3,4,5,6,7,9,11,12,13,14,16] 8 15 [(10,true),(15,false),(17,true),(18,true),(19,true),(20,false),(21,true),(22,true),(23,false)] [(17,true),(8,false),(10,true),(18,true),(19,true),(20,false),(21,true),(22,true),(23,false)] rfl rfl rfl (by kernel_rfl) ((Chg.drew _).mono fun _ _ h => h.elim) ?_
 have hq : Chg (fun k => k = gs) w w.drew := (Chg.drew w).mono fun _ _ h => h.elim
 have hsz : w.drew.heap.size = w.heap.size := rfl
 refine goH T_ok 200 rfl ?_
 refine quietH rfl (fun w' hS => r_load T_ok rfl rfl rfl (Bk.get (Bp.keep hS hne) rfl)) ?_
 refine goH T_ok 200 rfl ?_
 refine quietH rfl (fun w' hS => r_load T_ok rfl rfl rfl (Bk.get (Bp.keep hS hne) rfl)) ?_
 refine goH T_ok 200 rfl ?_
 refine quietH rfl (fun w' hS => r_load T_ok rfl rfl rfl (Bk.get (Bp.keep hS hne) rfl)) ?_
 refine goH T_ok 200 rfl ?_
 refine quietH rfl (fun w' hS => r_idx T_ok rfl rfl rfl rfl i rfl hi) ?_
 refine goH T_ok 200 rfl ?_
 refine quietH rfl (fun w' hS => r_load T_ok rfl rfl rfl (Bk.get (Bp.keep hS hne) rfl)) ?_
 refine goH T_ok 200 rfl ?_
 refine quietH rfl (fun w' hS => r_idx T_ok rfl rfl rfl rfl i rfl hi) ?_
 refine goH T_ok 200 rfl ?_
 have hrow : w.drew.rowIs gs 24 mm f := rowIs_no hrow (Chg.drew w)
 have c0 : w.drew.cell? ⟨gs, 0 + i * 2 + 0, none⟩ = some (I y0) := c0
 have c1 : w.drew.cell? ⟨gs, 0 + i * 2 + 1, none⟩ = some (I y1) := c1
 refine endH (round ⟨rfl, ?_, ?_⟩)
 ·refine valE rfl (r_load T_ok rfl rfl rfl c0) hq ?_
  refine goH T_ok 200 rfl ?_
  refine valE rfl (r_load T_ok rfl rfl rfl c1) hq ?_
  refine goH T_ok 200 rfl ?_
  refine quietH rfl (fun w' hS => r_idx T_ok rfl rfl rfl rfl i rfl hi) ?_
  refine goH T_ok 200 rfl ?_
  refine stRE T_ok rfl rfl rfl rfl (v := I (min y0 x)) rfl rfl hrow (i := 0 + i * 2) (by omega) ?_
  intro w2 q2 hrow2 hs2
  have q := hq.trans q2
  refine ⟨q, ?_⟩
  refine goH T_ok 200 rfl ?_
  refine quietH rfl (fun w' hS => r_idx T_ok rfl rfl rfl rfl i rfl hi) ?_
  refine goH T_ok 200 rfl ?_
  refine stRE T_ok rfl rfl rfl rfl (v := I (max y1 x)) rfl rfl hrow2 (i := 0 + i * 2 + 1) (by omega) ?_
  intro w3 q3 hrow3 hs3
  refine ⟨q.trans q3, ?_⟩
  refine goH T_ok 200 rfl ?_
  refine endH ?_
  refine go T_ok 200 rfl ?_
  refine fin (ret0 Try.results52 ⟨q.trans q3, by omega, mm, _, hrow3, hmm, fun k hk => ?_⟩)
  split
  ·exact ⟨_, rfl⟩
  ·split
   ·exact ⟨_, rfl⟩
   ·exact hf k hk
 ·refine valE rfl (r_load T_ok rfl rfl rfl c1) hq ?_
  refine goH T_ok 200 rfl ?_
  refine valE rfl (r_load T_ok rfl rfl rfl c0) hq ?_
  refine goH T_ok 200 rfl ?_
  refine quietH rfl (fun w' hS => r_idx T_ok rfl rfl rfl rfl i rfl hi) ?_
  refine goH T_ok 200 rfl ?_
  refine stRE T_ok rfl rfl rfl rfl (v := I (min y0 x)) rfl rfl hrow (i := 0 + i * 2) (by omega) ?_
  intro w2 q2 hrow2 hs2
  have q := hq.trans q2
  refine ⟨q, ?_⟩
  refine goH T_ok 200 rfl ?_
  refine quietH rfl (fun w' hS => r_idx T_ok rfl rfl rfl rfl i rfl hi) ?_
  refine goH T_ok 200 rfl ?_
  refine stRE T_ok rfl rfl rfl rfl (v := I (max y1 x)) rfl rfl hrow2 (i := 0 + i * 2 + 1) (by omega) ?_
  intro w3 q3 hrow3 hs3
  refine ⟨q.trans q3, ?_⟩
  refine goH T_ok 200 rfl ?_
  refine endH ?_
  refine go T_ok 200 rfl ?_
  refine fin (ret0 Try.results52 ⟨q.trans q3, by omega, mm, _, hrow3, hmm, fun k hk => ?_⟩)
  split
  ·exact ⟨_, rfl⟩
  ·split
   ·exact ⟨_, rfl⟩
   ·exact hf k hk
end Go.Proofs.Ytolhfimknimliaa.L
