/- The contracts of best, Grounds, Clash. -/
import Derived.Test.YtkkjfjeniaiaiaaCC
namespace Go.Proofs.Ytkkjfjeniaiaiaa
open Go.Ev Go.Proofs Go.Rock
attribute [local irreducible] At AtH

/-- what is best for a column -/
def bestC (says : Su → Int → Int) (bet : Int → Int → Bool) (first : Int) (l : List Su) (c : Int) : Int := l.foldl (fun h s => if bet (says s c) h = true then says s c else h) first
theorem bestC_snoc (says : Su → Int → Int) (bet : Int → Int → Bool) (first : Int) (l : List Su) (c : Int) (s : Su) : bestC says bet first (l ++ [s]) c = if bet (says s c) (bestC says bet first l c) = true then says s c else bestC says bet first l c := by unfold bestC; rw [List.foldl_append]; rfl
theorem row_slI {w : World} {g n : Nat} {t : TypeId} {f : Nat → Value} {xs : List Int} (h : w.rowIs g t n f) (hl : xs.length = n) (hf : ∀ j x, xs[j]? = some x → f j = .int .i64 x) : Sl w w.heap.size 1 (some ⟨g, 0, none⟩) xs.length (iL xs) := by
  refine ⟨by simp [iL], Nat.le_refl _, fun _ => ⟨g, 0, rfl, h.lt, fun j v hv => ?_⟩⟩
  have hj : j < xs.length := by
    have := (List.getElem?_eq_some_iff.1 hv).1
    simpa [iL] using this
  have hx : xs[j]? = some xs[j] := List.getElem?_eq_getElem hj
  have hv' : v = .int .i64 xs[j] := by
    unfold iL at hv
    rw [List.getElem?_map, hx] at hv
    exact (Option.some.inj hv).symm
  have := h.cell (i := j) (by omega)
  rw [Nat.zero_add, this, hf j _ hx, hv']
set_option maxHeartbeats 8000000 in
theorem best_any (says : Su → Int → Int) (bet : Int → Int → Bool) (fs : Nat) (fsa : List Value) (fb : Nat) (m : Nat) (first : Int) (l : List Su) (A : Option Addr) (c B : Nat) (w : World) (hm : m ≤ 1000) (hL : l.length ≤ 50) (hS : Sl w B 3 A l.length (l.flatMap sL))
    (hks : callable Try.prog fs = true) (hkb : callable Try.prog fb = true)
    (hs : ∀ s ∈ l, ∀ i : Nat, i < m → ∀ w', Ret Try.prog fs (fsa ++ [.agg (sL s).toArray, .int .i64 (i : Int)]) w' fun x w'' => x = .int .i64 (says s (i : Int)) ∧ Chg No w' w'')
    (hb : ∀ a b w', Ret Try.prog fb [.int .i64 a, .int .i64 b] w' fun x w'' => x = .bool (bet a b) ∧ Chg No w' w'') :
    Ret Try.prog 72 [.int .i64 (m : Int), .int .i64 first, .slice A l.length c, .func (.func fs) fsa.toArray #[], .func (.func fb) #[] #[]] w fun x w' => ∃ A' c', x = .slice A' m c' ∧ Sl w' w'.heap.size 1 A' m (iL ((List.range m).map fun (i : Nat) => bestC says bet first l (i : Int))) ∧ Chg No w w' := by
  refine enter Try.func72 rfl Try.ntmps72 rfl ?_
  refine go T_ok 200 rfl ?_
  refine mk1 T_ok rfl rfl rfl rfl rfl m rfl (z := I 0) (by kernel_rfl) rfl (by unfold maxLen; omega) (by omega) ?_
  intro g w1 hg hs1 q1 R1
  refine go T_ok 200 rfl ?_
  refine loop [1, 2, 3, 4, 11, 18, 19] (fun i : Nat => [.int .i64 first, .slice A l.length c, .func (.func fs) fsa.toArray #[], .func (.func fb) #[] #[], .slice (some ⟨g, 0, none⟩) m m, .int .i64 (m : Int), .int .i64 (i : Int)])
    (fun i w' => i ≤ m ∧ Chg (fun k => k = g) w1 w' ∧ ∃ f, w'.rowIs g 3 m f ∧ ∀ j, j < i → f j = .int .i64 (bestC says bet first l (j : Int))) (fun i => m - i) 0 (fun _ => rfl) rfl ⟨by omega, Chg.refl _ _, _, R1, fun j hj => by omega⟩ ?_
  rintro i τ w2 ⟨hi, q2, f, R2, hf⟩
  refine go T_ok 200 rfl ?_
  refine condD rfl (fun hlt => ?_) (fun hlt => ?_)
  · have hlt : i < m := by omega
    have e1 : w64 ((i : Int) + 1) = ((i + 1 : Nat) : Int) := w64_id (by omega) (by omega)
    refine go T_ok 200 rfl ?_
    refine idx T_ok rfl rfl rfl rfl rfl i rfl hlt ?_
    refine go T_ok 200 rfl ?_
    rw [show 0 + i * 1 = i by omega]
    refine stR T_ok rfl rfl rfl rfl (v := .int .i64 first) rfl rfl R2 hlt ?_
    intro w3 q3 R3 hs3
    refine go T_ok 200 rfl ?_
    refine loop [1, 2, 3, 4, 11, 12, 18, 19, 26, 27, 28] (fun j : Nat => [.int .i64 first, .slice A l.length c, .func (.func fs) fsa.toArray #[], .func (.func fb) #[] #[], .slice (some ⟨g, 0, none⟩) m m, .int .i64 (i : Int), .int .i64 (m : Int), .int .i64 (i : Int), .slice A l.length c, .int .i64 (l.length : Int), .int .i64 (j : Int)])
      (fun j w' => j ≤ l.length ∧ Chg (fun k => k = g) w1 w' ∧ ∃ f', w'.rowIs g 3 m f' ∧ (∀ j, j < i → f' j = .int .i64 (bestC says bet first l (j : Int))) ∧ f' i = .int .i64 (bestC says bet first (l.take j) (i : Int))) (fun j => l.length - j) 0 (fun _ => rfl) rfl
      ⟨by omega, q2.trans q3, _, R3, fun j hj => by simp only [if_neg (by omega : ¬ j = i)]; exact hf j hj, by simp [bestC]⟩ ?_
    rintro j τ w4 ⟨hj, q4, f', R4, hf', hfi⟩
    have q04 : Chg No w w4 := q1.step q4 (fun k hk e => by omega)
    refine go T_ok 200 rfl ?_
    refine condD rfl (fun hlt2 => ?_) (fun hlt2 => ?_)
    · have hlt2 : j < l.length := by omega
      obtain ⟨s, hsj⟩ : ∃ s, l[j]? = some s := ⟨_, List.getElem?_eq_getElem hlt2⟩
      obtain ⟨b, o, rfl, _, hcs⟩ := (hS.no q04).el sL_len hsj
      have hsm := List.mem_of_getElem? hsj
      have e2 : w64 ((j : Int) + 1) = ((j + 1 : Nat) : Int) := w64_id (by omega) (by omega)
      have hsn : bestC says bet first (l.take (j + 1)) (i : Int) = if bet (says s (i : Int)) (bestC says bet first (l.take j) (i : Int)) = true then says s (i : Int) else bestC says bet first (l.take j) (i : Int) := by rw [take_snoc hsj, bestC_snoc]
      refine go T_ok 200 rfl ?_
      refine idx T_ok rfl rfl rfl rfl rfl j rfl hlt2 ?_
      refine go T_ok 200 rfl ?_
      refine ldA T_ok rfl rfl rfl rfl rfl hcs ?_
      refine go T_ok 200 rfl ?_
      refine nw rfl rfl (z := .agg #[I 0, I 0, I 0]) (by kernel_rfl) (cs := [I 0, I 0, I 0]) rfl ?_
      intro g7 u7 hg7 hs7 q7 B7
      refine go T_ok 200 rfl ?_
      refine stA T_ok rfl rfl rfl rfl (vs := sL s) rfl rfl rfl B7 rfl ?_
      intro u8 q8 B8 hs8
      have B8 : Bk u8 g7 89 (sL s) := B8
      have q48 : Chg No w4 u8 := q7.step q8 (fun k hk e => by omega)
      refine go T_ok 200 rfl ?_
      refine ldA T_ok rfl rfl rfl rfl rfl B8.all ?_
      refine go T_ok 200 rfl ?_
      have hK : Ret Try.prog fs (fsa.toArray.toList ++ ([.agg (sL s).toArray, .int .i64 (i : Int)] ++ (#[] : Array Value).toList)) u8 fun x w'' => x = .int .i64 (says s (i : Int)) ∧ Chg No u8 w'' := by simpa using hs s hsm i hlt u8
      refine call rfl rfl rfl hks hK ?_
      rintro x u9 ⟨rfl, q9⟩
      have q49 := q48.trans q9
      have R9 := rowIs_no R4 q49
      have hc9 := R9.cell (i := i) hlt
      rw [hfi] at hc9
      refine go T_ok 200 rfl ?_
      refine idx T_ok rfl rfl rfl rfl rfl i rfl hlt ?_
      refine go T_ok 200 rfl ?_
      rw [show 0 + i * 1 = i by omega]
      refine ld T_ok rfl rfl rfl rfl (hc9) ?_
      refine go T_ok 200 rfl ?_
      refine call rfl rfl rfl hkb (hb _ _ _) ?_
      rintro x u10 ⟨rfl, q10⟩
      have q410 := q49.trans q10
      have R10 := rowIs_no R4 q410
      refine go T_ok 200 rfl ?_
      refine cond rfl (fun hbt => ?_) (fun hbt => ?_)
      · rw [if_pos hbt] at hsn
        refine go T_ok 200 rfl ?_
        refine idx T_ok rfl rfl rfl rfl rfl i rfl hlt ?_
        refine go T_ok 200 rfl ?_
        rw [show 0 + i * 1 = i by omega]
        refine stR T_ok rfl rfl rfl rfl (v := .int .i64 (says s (i : Int))) rfl rfl R10 hlt ?_
        intro u11 q11 R11 hs11
        refine go T_ok 200 rfl ?_
        rw [e2]
        refine round ⟨j + 1, rfl, ⟨by omega, (q4.trans (q410.mono fun _ _ h => h.elim)).trans q11, _, R11, fun k hk => by simp only [if_neg (by omega : ¬ k = i)]; exact hf' k hk, ?_⟩, by omega⟩
        simp only [if_true]
        rw [hsn]
      · have hbt : ¬ bet (says s (i : Int)) (bestC says bet first (l.take j) (i : Int)) = true := by rw [hbt]; simp
        rw [if_neg hbt] at hsn
        refine go T_ok 200 rfl ?_
        rw [e2]
        exact round ⟨j + 1, rfl, ⟨by omega, q4.trans (q410.mono fun _ _ h => h.elim), f', R10, hf', by rw [hsn]; exact hfi⟩, by omega⟩
    · have hjl : j = l.length := by omega
      subst hjl
      rw [List.take_length] at hfi
      refine go T_ok 200 rfl ?_
      rw [e1]
      refine round ⟨i + 1, rfl, ⟨by omega, q4, f', R4, fun k hk => ?_⟩, by omega⟩
      by_cases e : k = i
      · subst e; exact hfi
      · exact hf' k (by omega)
  · have him : i = m := by omega
    subst him
    refine go T_ok 200 rfl ?_
    have hl : ((List.range i).map fun (k : Nat) => bestC says bet first l (k : Int)).length = i := by simp
    have S2 := row_slI R2 hl (fun j x hx => by
      have hj : j < i := by have := (List.getElem?_eq_some_iff.1 hx).1; simpa using this
      rw [List.getElem?_map, List.getElem?_range hj] at hx
      rw [hf j hj]
      exact congrArg I (Option.some.inj hx))
    rw [hl] at S2
    exact ret (ret1 (v := .slice _ _ _) Try.results72 rfl ⟨_, _, rfl, S2, q1.step q2 (fun k hk e => by omega)⟩)
end Go.Proofs.Ytkkjfjeniaiaiaa
