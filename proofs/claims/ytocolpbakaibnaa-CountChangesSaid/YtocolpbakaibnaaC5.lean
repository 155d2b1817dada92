/- The contracts of spans, hull, all and decide: what is read off the bets. -/
import Derived.Test.YtocolpbakaibnaaC4
import Derived.Test.YtocolpbakaibnaaSpecB
namespace Go.Proofs.Ytocolpbakaibnaa
open Go.Ev Go.Proofs Go.Cnt
attribute [local irreducible] At AtH

/-- is a rate kept -/
def kp (S : Nat → BS) (j : Nat) : Bool := !(S j).out
theorem kept_any (b b1 g D k : Nat) (lv : Int) (S : Nat → BS) (w : World) (H : Bets w b g D lv S) (B1 : Bk w b1 86 [.pointer (some ⟨b, 0, none⟩)]) (hD1 : D ≤ 1000) (hk : k ≤ D) :
    Ret Try.prog 78 [.int .i64 k, .pointer (some ⟨b1, 0, none⟩)] w fun v w' => v = .bool (kp S k) ∧ w = w' := by
  obtain ⟨f, cap, Rb, a0, a1, a2, a3, a4, a5⟩ := H.par
  refine enter Try.func78 rfl Try.ntmps78 rfl ?_
  refine go T_ok 100 rfl ?_
  refine ld T_ok rfl rfl rfl rfl (B1.get rfl) ?_
  refine go T_ok 100 rfl ?_
  refine idxA T_ok rfl rfl rfl rfl rfl k rfl (by omega) ?_
  refine go T_ok 100 rfl ?_
  have e3 : 0 + 3 + k * 1 = 3 + k := by omega
  rw [e3]
  refine ld T_ok rfl rfl rfl rfl ((Rb.cell (i := 3 + k) (by omega)).trans (congrArg some (a4 k hk))) ?_
  refine go T_ok 100 rfl ?_
  exact ret (ret1 (v := .bool _) Try.results78 rfl ⟨rfl, rfl⟩)
theorem span_any (x y : Int) (w : World) : Ret Try.prog 79 [.int .i64 x, .int .i64 y] w fun v w' => v = .agg #[.int .i64 x, .int .i64 y] ∧ Chg No w w' := by
  refine enter Try.func79 rfl Try.ntmps79 rfl ?_
  refine go T_ok 100 rfl ?_
  refine nw rfl rfl (z := .agg #[.int .i64 0, .int .i64 0]) (by kernel_rfl) (cs := [.int .i64 0, .int .i64 0]) rfl ?_
  intro g w1 hg hg1 q1 b1
  refine go T_ok 100 rfl ?_
  refine stA (vs := [.int .i64 x, .int .i64 y]) T_ok rfl rfl rfl rfl rfl rfl rfl b1 rfl ?_
  intro w2 q2 B2 _
  refine go T_ok 100 rfl ?_
  refine ret (retR1 (v := .agg #[.int .i64 x, .int .i64 y]) Try.results79 (resA T_ok rfl rfl (cs := [.int .i64 x, .int .i64 y]) rfl B2.all) ⟨rfl, ?_⟩)
  exact q1.step q2 fun k hk e => absurd e (by omega)

/-- spans, flat -/
def spL (l : List (Nat × Nat)) : List Value := l.flatMap fun s => [.int .i64 (s.1 : Int), .int .i64 (s.2 : Int)]
theorem spL_add (l : List (Nat × Nat)) (a b : Nat) : spL (l ++ [(a, b)]) = spL l ++ [.int .i64 (a : Int), .int .i64 (b : Int)] := by simp [spL]
theorem runs_any (b b1 g D : Nat) (lv : Int) (S : Nat → BS) (w : World) (H : Bets w b g D lv S) (B1 : Bk w b1 86 [.pointer (some ⟨b, 0, none⟩)]) (hD1 : D ≤ 1000) :
    Ret Try.prog 77 [.int .i64 ((D + 1 : Nat) : Int), .func (.func 78) #[] #[.pointer (some ⟨b1, 0, none⟩)], .func (.func 79) #[] #[]] w fun v w' => ∃ A c, v = .slice A (spansTo (kp S) (D + 1)).length c ∧ Chg No w w' ∧
      w'.ownsRow w.heap.size 65 2 (.slice A (spansTo (kp S) (D + 1)).length c) (spansTo (kp S) (D + 1)).length (spL (spansTo (kp S) (D + 1))) := by
  refine enter Try.func77 rfl Try.ntmps77 rfl ?_
  refine go T_ok 100 rfl ?_
  refine loop [0, 1, 2, 7, 8] (fun x : Nat × Option Addr × Nat => [.int .i64 ((D + 1 : Nat) : Int), .func (.func 78) #[] #[.pointer (some ⟨b1, 0, none⟩)], .func (.func 79) #[] #[], .slice x.2.1 (spansTo (kp S) x.1).length x.2.2, .int .i64 (x.1 : Int)])
    (fun x w' => x.1 ≤ D + 1 ∧ (x.1 = 0 ∨ kp S (x.1 - 1) = false ∨ x.1 = D + 1 ∨ kp S x.1 = false) ∧ Chg No w w' ∧ w'.ownsRow w.heap.size 65 2 (.slice x.2.1 (spansTo (kp S) x.1).length x.2.2) (spansTo (kp S) x.1).length (spL (spansTo (kp S) x.1))) (fun x => D + 1 - x.1) (0, none, 0) (fun _ => rfl) rfl ⟨by omega, .inl rfl, Chg.refl _ _, own_nil⟩ ?_
  rintro ⟨i, A, c⟩ τ w' ⟨hi, hp, q, hown⟩
  have hlen := spansTo_len (kp S) i
  simp only at hi hp hown
  refine go T_ok 100 rfl ?_
  refine condD rfl (fun hlt => ?_) (fun hlt => ?_)
  · have hlt : i < D + 1 := by omega
    refine go T_ok 100 rfl ?_
    refine call rfl rfl rfl (ok _ (by decide) rfl) (kept_any b b1 g D i lv S w' (H.no q) (B1.no q) hD1 (by omega)) ?_
    rintro v w1 ⟨rfl, rfl⟩
    refine go T_ok 100 rfl ?_
    have ei : w64 ((i : Int) + 1) = ((i + 1 : Nat) : Int) := w64_id (by omega) (by omega)
    cases hk : kp S i with
    | false =>
      refine condT rfl rfl ?_
      refine go T_ok 100 rfl ?_
      rw [ei]
      have es : spansTo (kp S) (i + 1) = spansTo (kp S) i := by simp [spansTo, hk]
      refine round ⟨(i + 1, A, c), by simp only [es]; rfl, ⟨by simp only; omega, .inr (.inl hk), q, by simp only [es]; exact hown⟩, by simp only; omega⟩
    | true =>
      refine condF rfl rfl ?_
      refine go T_ok 100 rfl ?_
      refine loop [0, 1, 2, 7, 8, 9] (fun h : Nat => [.int .i64 ((D + 1 : Nat) : Int), .func (.func 78) #[] #[.pointer (some ⟨b1, 0, none⟩)], .func (.func 79) #[] #[], .slice A (spansTo (kp S) i).length c, .int .i64 (i : Int), .int .i64 (h : Int)])
        (fun h w1 => w1 = w' ∧ i ≤ h ∧ h ≤ D ∧ ∀ j, i ≤ j → j ≤ h → kp S j = true) (fun h => D - h) i (fun _ => rfl) rfl ⟨rfl, by omega, by omega, fun j h1 h2 => by rw [show j = i by omega]; exact hk⟩ ?_
      rintro h τ2 w1 ⟨rfl, h1, h2, h3⟩
      refine go T_ok 100 rfl ?_
      have eh : w64 ((h : Int) + 1) = ((h + 1 : Nat) : Int) := w64_id (by omega) (by omega)
      refine guardD rfl rfl rfl (fun hg => ?_) (fun hg => ?_)
      · rw [eh] at hg
        refine go T_ok 100 rfl ?_
        rw [eh]
        refine call rfl rfl rfl (ok _ (by decide) rfl) (kept_any b b1 g D (h + 1) lv S w1 (H.no q) (B1.no q) hD1 (by omega)) ?_
        rintro v w2 ⟨rfl, rfl⟩
        refine go T_ok 100 rfl ?_
        refine cond rfl (fun hk2 => ?_) (fun hk2 => ?_)
        · refine go T_ok 100 rfl ?_
          rw [eh]
          refine round ⟨h + 1, rfl, ⟨rfl, by omega, by omega, ?_⟩, by omega⟩
          intro j a b
          by_cases e : j = h + 1
          · rw [e]; exact hk2
          · exact h3 j a (by omega)
        · refine go T_ok 100 rfl ?_
          refine call rfl rfl rfl (ok _ (by decide) rfl) (span_any _ _ _) ?_
          rintro v w2 ⟨rfl, q2⟩
          refine go T_ok 100 rfl ?_
          refine app1 T_ok rfl rfl rfl rfl rfl rfl (cs := [.int .i64 (i : Int), .int .i64 (h : Int)]) rfl rfl rfl rfl (fun _ => rfl) (fun _ => rfl) (fun _ => rfl) (own_no hown q2) (by unfold maxLen; omega) (by omega) (by have := q.size; have := q2.size; omega) ?_
          intro g2 A' c' w3 hown' q3 hs3 _
          refine go T_ok 100 rfl ?_
          rw [eh]
          have es : spansTo (kp S) (h + 1) = spansTo (kp S) i ++ [(i, h)] := by
            have := spansTo_add (p := kp S) (low := i) (by rcases hp with hp | hp | hp | hp; · exact .inl hp
                                                           · exact .inr hp
                                                           · omega
                                                           · rw [hk] at hp; cases hp) (h - i) (fun j a b => h3 j a (by omega))
            rw [show i + (h - i) = h by omega] at this
            exact this
          refine round ⟨(h + 1, A', c'), by simp only [es, List.length_append]; rfl, ⟨by simp only; omega, ?_, (q.trans q2).step q3 (fun k _ e => absurd (own_ge hown e) (by omega)), by simp only [es, List.length_append, spL_add]; exact hown'⟩, by simp only; omega⟩
          simp only
          exact .inr (.inr (.inr hk2))
      · rw [eh] at hg
        refine go T_ok 100 rfl ?_
        refine call rfl rfl rfl (ok _ (by decide) rfl) (span_any _ _ _) ?_
        rintro v w2 ⟨rfl, q2⟩
        refine go T_ok 100 rfl ?_
        refine app1 T_ok rfl rfl rfl rfl rfl rfl (cs := [.int .i64 (i : Int), .int .i64 (h : Int)]) rfl rfl rfl rfl (fun _ => rfl) (fun _ => rfl) (fun _ => rfl) (own_no hown q2) (by unfold maxLen; omega) (by omega) (by have := q.size; have := q2.size; omega) ?_
        intro g2 A' c' w3 hown' q3 hs3 _
        refine go T_ok 100 rfl ?_
        rw [eh]
        have es : spansTo (kp S) (h + 1) = spansTo (kp S) i ++ [(i, h)] := by
          have := spansTo_add (p := kp S) (low := i) (by rcases hp with hp | hp | hp | hp; · exact .inl hp
                                                         · exact .inr hp
                                                         · omega
                                                         · rw [hk] at hp; cases hp) (h - i) (fun j a b => h3 j a (by omega))
          rw [show i + (h - i) = h by omega] at this
          exact this
        refine round ⟨(h + 1, A', c'), by simp only [es, List.length_append]; rfl, ⟨by simp only; omega, ?_, (q.trans q2).step q3 (fun k _ e => absurd (own_ge hown e) (by omega)), by simp only [es, List.length_append, spL_add]; exact hown'⟩, by simp only; omega⟩
        simp only
        exact .inr (.inr (.inl (by omega)))
  · refine go T_ok 100 rfl ?_
    have : i = D + 1 := by omega
    subst this
    exact ret (ret1 (v := .slice _ _ _) Try.results77 rfl ⟨A, c, rfl, q, hown⟩)

theorem spans_any (b g D : Nat) (lv : Int) (S : Nat → BS) (w : World) (H : Bets w b g D lv S) (hD1 : D ≤ 1000) :
    Ret Try.prog 56 [.pointer (some ⟨b, 0, none⟩)] w fun v w' => ∃ A c, v = .slice A (spansTo (kp S) (D + 1)).length c ∧ Chg No w w' ∧
      w'.ownsRow w.heap.size 65 2 (.slice A (spansTo (kp S) (D + 1)).length c) (spansTo (kp S) (D + 1)).length (spL (spansTo (kp S) (D + 1))) := by
  have e1 : w64 ((D : Int) + 1) = ((D + 1 : Nat) : Int) := w64_id (by omega) (by omega)
  refine enter Try.func56 rfl Try.ntmps56 rfl ?_
  refine go T_ok 100 rfl ?_
  refine bx rfl rfl rfl (cs := [.pointer (some ⟨b, 0, none⟩)]) rfl ?_
  intro b1 w1 hg1 hs1 q1 B1
  refine go T_ok 100 rfl ?_
  refine ld T_ok rfl rfl rfl rfl (B1.get rfl) ?_
  refine go T_ok 100 rfl ?_
  obtain ⟨f, cap, Rb, a0, _⟩ := (H.no q1).par
  refine ld T_ok rfl rfl rfl rfl ((Rb.cell (i := 0) (by omega)).trans (congrArg some a0)) ?_
  refine go T_ok 100 rfl ?_
  rw [e1]
  refine call rfl rfl rfl (ok _ (by decide) rfl) (runs_any b b1 g D lv S w1 (H.no q1) B1 hD1) ?_
  rintro v w2 ⟨A, c, rfl, q2, hown⟩
  refine go T_ok 100 rfl ?_
  exact ret (ret1 (v := .slice _ _ _) Try.results56 rfl ⟨A, c, rfl, q1.trans q2, own_base hown (by omega)⟩)
/-- the least and the greatest of some runs -/
def hullL (l : List (Nat × Nat)) : Nat × Nat := ((l.headD (0, 0)).1, (l.getLastD (0, 0)).2)
theorem spL_len (l : List (Nat × Nat)) : (spL l).length = l.length * 2 := by
  induction l with
  | nil => rfl
  | cons a l ih => simp only [spL, List.flatMap_cons, List.length_append, List.length_cons, List.length_nil] at ih ⊢; omega
theorem spL_get {l : List (Nat × Nat)} : ∀ {i : Nat} {s : Nat × Nat}, l[i]? = some s → (spL l)[2 * i]? = some (.int .i64 s.1) ∧ (spL l)[2 * i + 1]? = some (.int .i64 s.2) := by
  induction l with
  | nil => intro i s h; simp at h
  | cons a l ih =>
    intro i s h
    cases i with
    | zero => simp at h; subst h; exact ⟨rfl, rfl⟩
    | succ i =>
      obtain ⟨h1, h2⟩ := ih (i := i) (s := s) (by simpa using h)
      exact ⟨h1, h2⟩
set_option maxRecDepth 20000 in
theorem hull_any (b g D : Nat) (lv : Int) (S : Nat → BS) (w : World) (H : Bets w b g D lv S) (hD1 : D ≤ 1000) (hne : spansTo (kp S) (D + 1) ≠ []) :
    Ret Try.prog 67 [.pointer (some ⟨b, 0, none⟩)] w fun v w' => v = .agg #[.int .i64 (hullL (spansTo (kp S) (D + 1))).1, .int .i64 (hullL (spansTo (kp S) (D + 1))).2] ∧ Chg No w w' := by
  refine enter Try.func67 rfl Try.ntmps67 rfl ?_
  refine go T_ok 100 rfl ?_
  refine nw rfl rfl (z := .agg #[.int .i64 0, .int .i64 0]) (by kernel_rfl) (cs := [.int .i64 0, .int .i64 0]) rfl ?_
  intro a w1 hg hg1 q1 B1
  refine go T_ok 100 rfl ?_
  refine call rfl rfl rfl (ok _ (by decide) rfl) (spans_any b g D lv S w1 (H.no q1) hD1) ?_
  rintro v w2 ⟨A, c, rfl, q2, hown⟩
  refine go T_ok 100 rfl ?_
  have hlen := spansTo_len (kp S) (D + 1)
  generalize spansTo (kp S) (D + 1) = l at hne hown hlen ⊢
  have hl0 : 0 < l.length := List.length_pos_iff.2 hne
  obtain ⟨_, _, hA⟩ := own_sl hown
  obtain ⟨r, off, rfl, hr, hcells⟩ := hA hl0
  have B2 := B1.no q2
  obtain ⟨s, hs⟩ : ∃ s, l[0]? = some s := ⟨l[0], List.getElem?_eq_getElem hl0⟩
  obtain ⟨t, ht⟩ : ∃ t, l[l.length - 1]? = some t := ⟨l[l.length - 1], List.getElem?_eq_getElem (by omega)⟩
  have L1 := hcells 0 _ (spL_get hs).1
  have L2 := hcells (2 * (l.length - 1) + 1) _ (spL_get ht).2
  have el : w64 ((l.length : Int) - 1) = ((l.length - 1 : Nat) : Int) := w64_id (by omega) (by omega) |>.trans (by omega)
  have e0 : off + 0 * 2 = off + 0 := by omega
  have e3 : off + (l.length - 1) * 2 + 1 = off + (2 * (l.length - 1) + 1) := by omega
  have hB : ∀ {w' : World}, Chg (fun x => x = a) w2 w' → w'.cell? ⟨r, off + 0, none⟩ = some (.int .i64 s.1) ∧ w'.cell? ⟨r, off + (2 * (l.length - 1) + 1), none⟩ = some (.int .i64 t.2) := by
    intro w' h
    have hra : ¬ (fun x => x = a) r := by
      intro e
      have h1 : w1.heap.size ≤ r := own_ge hown rfl
      have e : r = a := e
      omega
    exact ⟨(h.cell (a := ⟨r, off + 0, none⟩) hr hra).trans L1, (h.cell (a := ⟨r, _, none⟩) hr hra).trans L2⟩
  refine draw mixed (fun w' => Chg (fun x => x = a) w2 w') ([0,1,2,3,4,5,6,7,8,9,10,11].map (fun i => (i, true)) ++ [(12, false)]) rfl (by kernel_rfl) ((Chg.refl _ _).no (Chg.drew _)) ?_
  refine goH T_ok 100 rfl ?_
  refine quietH rfl (fun w' hS => r_idx T_ok rfl rfl rfl rfl 0 rfl (by omega)) ?_
  refine goH T_ok 100 rfl ?_
  rw [e0]
  refine quietH rfl (fun w' hS => r_load T_ok rfl rfl rfl (hB hS).1) ?_
  refine goH T_ok 100 rfl ?_
  rw [el]
  refine quietH rfl (fun w' hS => r_idx T_ok rfl rfl rfl rfl (l.length - 1) rfl (by omega)) ?_
  refine goH T_ok 100 rfl ?_
  rw [e3]
  refine quietH rfl (fun w' hS => r_load T_ok rfl rfl rfl (hB hS).2) ?_
  refine goH T_ok 100 rfl ?_
  refine stAE (vs := [.int .i64 s.1, .int .i64 t.2]) T_ok rfl rfl rfl rfl rfl rfl rfl (B2.no (Chg.drew _)) rfl ?_
  intro w3 q3 B3 _
  refine ⟨((Chg.refl _ _).no (Chg.drew _)).trans q3, ?_⟩
  refine goH T_ok 100 rfl ?_
  refine endH ?_
  refine go T_ok 100 rfl ?_
  refine ret (retR1 (v := .agg #[.int .i64 s.1, .int .i64 t.2]) Try.results67 (resA T_ok rfl rfl (cs := [.int .i64 s.1, .int .i64 t.2]) rfl B3.all) ⟨?_, ?_⟩)
  · have h1 : l.headD (0, 0) = s := by
      cases l with
      | nil => simp at hs
      | cons x l => simpa using hs
    have h2 : l.getLastD (0, 0) = t := by
      rw [List.getLastD_eq_getLast?, List.getLast?_eq_getElem?, ht]
      rfl
    simp only [hullL, h1, h2]
  · exact ((q1.trans q2).no (Chg.drew _)).step q3 fun k hk e => absurd e (by omega)

/-- after how many slots the last of m rates from k on is excluded, where all are -/
def allFrom (S : Nat → BS) (k : Nat) (n : Int) : Nat → Int × Bool
  | 0 => (n, true)
  | m + 1 => if (S k).out then allFrom S (k + 1) (max n (S k).at_) m else (0, false)
theorem all_any (b g D : Nat) (lv : Int) (S : Nat → BS) (w : World) (H : Bets w b g D lv S) (hD1 : D ≤ 1000) (low m : Nat) (hi : low + m ≤ D + 1) :
    Ret Try.prog 80 [.pointer (some ⟨b, 0, none⟩), .int .i64 low, .int .i64 ((low : Int) + m - 1)] w fun v w' => v = .tuple #[.int .i64 (allFrom S low 0 m).1, .bool (allFrom S low 0 m).2] ∧ w = w' := by
  obtain ⟨f, cap, Rb, a0, a1, a2, a3, a4, a5⟩ := H.par
  refine enter Try.func80 rfl Try.ntmps80 rfl ?_
  refine go T_ok 100 rfl ?_
  refine loop [0, 2, 8, 9] (fun x : Nat × Int => [.pointer (some ⟨b, 0, none⟩), .int .i64 ((low : Int) + m - 1), .int .i64 x.2, .int .i64 ((x.1 : Nat) : Int)])
    (fun x w' => w = w' ∧ low ≤ x.1 ∧ x.1 ≤ low + m ∧ allFrom S low 0 m = allFrom S x.1 x.2 (low + m - x.1)) (fun x => low + m - x.1) (low, 0) (fun _ => rfl) rfl ⟨rfl, Nat.le_refl _, by simp, by simp⟩ ?_
  rintro ⟨k, n⟩ τ w' ⟨rfl, h1, h2, h3⟩
  simp only at h1 h2 h3
  refine go T_ok 100 rfl ?_
  refine condD rfl (fun hlt => ?_) (fun hlt => ?_)
  · have hlt : (k : Int) ≤ (low : Int) + m - 1 := hlt
    refine go T_ok 100 rfl ?_
    refine idxA T_ok rfl rfl rfl rfl rfl k rfl (by omega) ?_
    refine go T_ok 100 rfl ?_
    have e3 : 0 + 3 + k * 1 = 3 + k := by omega
    rw [e3]
    refine ld T_ok rfl rfl rfl rfl ((Rb.cell (i := 3 + k) (by omega)).trans (congrArg some (a4 k (by omega)))) ?_
    refine go T_ok 100 rfl ?_
    obtain ⟨r, hr⟩ : ∃ r, low + m - k = r + 1 := ⟨low + m - k - 1, by omega⟩
    rw [hr, allFrom] at h3
    cases ho : (S k).out with
    | false =>
      refine condT rfl rfl ?_
      refine go T_ok 100 rfl ?_
      rw [ho] at h3
      exact ret (ret2 (v := .int .i64 _) (x := .bool _) Try.results80 rfl rfl ⟨by rw [h3]; rfl, rfl⟩)
    | true =>
      refine condF rfl rfl ?_
      refine go T_ok 100 rfl ?_
      refine idxA T_ok rfl rfl rfl rfl rfl k rfl (by omega) ?_
      refine go T_ok 100 rfl ?_
      have e5 : 0 + 1005 + k * 1 = 1005 + k := by omega
      rw [e5]
      refine ld T_ok rfl rfl rfl rfl ((Rb.cell (i := 1005 + k) (by omega)).trans (congrArg some (a5 k (by omega) ho))) ?_
      refine go T_ok 100 rfl ?_
      have ek : w64 ((k : Int) + 1) = ((k + 1 : Nat) : Int) := w64_id (by omega) (by omega)
      rw [ek]
      refine round ⟨(k + 1, max n (S k).at_), rfl, ⟨rfl, by simp only; omega, by simp only; omega, ?_⟩, by simp only; omega⟩
      rw [ho, if_pos rfl] at h3
      rw [h3, show low + m - (k + 1) = r by omega]
  · refine go T_ok 100 rfl ?_
    have hlt : ¬ ((k : Int) ≤ (low : Int) + m - 1) := hlt
    have : low + m - k = 0 := by omega
    rw [this, allFrom] at h3
    exact ret (ret2 (v := .int .i64 _) (x := .bool _) Try.results80 rfl rfl ⟨by rw [h3], rfl⟩)

/-- the verdict for two rates, and after how many slots -/
def decS (S : Nat → BS) (D low high : Nat) : Int × Int :=
  if (allFrom S high 0 (D + 1 - high)).2 && (!(allFrom S 0 0 (low + 1)).2 || decide ((allFrom S high 0 (D + 1 - high)).1 ≤ (allFrom S 0 0 (low + 1)).1)) then (2, (allFrom S high 0 (D + 1 - high)).1)
  else if (allFrom S 0 0 (low + 1)).2 then (3, (allFrom S 0 0 (low + 1)).1) else (1, 0)
theorem decide_any (b g D : Nat) (lv : Int) (S : Nat → BS) (w : World) (H : Bets w b g D lv S) (hD1 : D ≤ 1000) (low high : Nat) (hl : low < high) (hh : high ≤ D) :
    Ret Try.prog 58 [.pointer (some ⟨b, 0, none⟩), .int .i64 low, .int .i64 high] w fun v w' => v = .tuple #[.int .i64 (decS S D low high).1, .int .i64 (decS S D low high).2] ∧ w = w' := by
  obtain ⟨f, cap, Rb, a0, _⟩ := H.par
  refine enter Try.func58 rfl Try.ntmps58 rfl ?_
  refine go T_ok 100 rfl ?_
  refine ld T_ok rfl rfl rfl rfl ((Rb.cell (i := 0) (by omega)).trans (congrArg some a0)) ?_
  refine go T_ok 100 rfl ?_
  have h1 := all_any b g D lv S w H hD1 high (D + 1 - high) (by omega)
  rw [show ((high : Int) + ((D + 1 - high : Nat) : Int) - 1) = (D : Int) by omega] at h1
  have h2 := all_any b g D lv S w H hD1 0 (low + 1) (by omega)
  rw [show (((0 : Nat) : Int) + ((low + 1 : Nat) : Int) - 1) = (low : Int) by omega, show ((0 : Nat) : Int) = 0 from rfl] at h2
  unfold decS
  generalize allFrom S high 0 (D + 1 - high) = u at h1 ⊢
  obtain ⟨under, below⟩ := u
  generalize allFrom S 0 0 (low + 1) = u at h2 ⊢
  obtain ⟨over, above⟩ := u
  simp only at h1 h2 ⊢
  cases below with
  | false =>
    refine call rfl rfl rfl (ok _ (by decide) rfl) h1 ?_
    rintro v w1 ⟨rfl, rfl⟩
    refine go T_ok 100 rfl ?_
    refine call rfl rfl rfl (ok _ (by decide) rfl) h2 ?_
    rintro v w1 ⟨rfl, rfl⟩
    refine go T_ok 100 rfl ?_
    refine guard (j := 1) (want := true) (t := 30) (b := false) rfl rfl rfl (fun h => by cases h) (fun _ => ?_)
    refine go T_ok 100 rfl ?_
    cases above with
    | true =>
      refine condT rfl rfl ?_
      refine go T_ok 100 rfl ?_
      exact ret (ret2 (v := .int .i64 _) (x := .int .i64 _) Try.results58 rfl rfl ⟨rfl, rfl⟩)
    | false =>
      refine condF rfl rfl ?_
      refine go T_ok 100 rfl ?_
      exact ret (ret2 (v := .int .i64 _) (x := .int .i64 _) Try.results58 rfl rfl ⟨rfl, rfl⟩)
  | true =>
    cases above with
    | false =>
      refine call rfl rfl rfl (ok _ (by decide) rfl) h1 ?_
      rintro v w1 ⟨rfl, rfl⟩
      refine go T_ok 100 rfl ?_
      refine call rfl rfl rfl (ok _ (by decide) rfl) h2 ?_
      rintro v w1 ⟨rfl, rfl⟩
      refine go T_ok 100 rfl ?_
      refine guard (j := 1) (want := true) (t := 30) (b := true) rfl rfl rfl (fun _ => ?_) (fun h => by cases h)
      refine go T_ok 100 rfl ?_
      refine guardN (b := false) rfl rfl rfl (fun _ => ?_) (fun h => by cases h)
      refine go T_ok 100 rfl ?_
      exact ret (ret2 (v := .int .i64 _) (x := .int .i64 _) Try.results58 rfl rfl ⟨rfl, rfl⟩)
    | true =>
      refine call rfl rfl rfl (ok _ (by decide) rfl) h1 ?_
      rintro v w1 ⟨rfl, rfl⟩
      refine go T_ok 100 rfl ?_
      refine call rfl rfl rfl (ok _ (by decide) rfl) h2 ?_
      rintro v w1 ⟨rfl, rfl⟩
      refine go T_ok 100 rfl ?_
      refine guard (j := 1) (want := true) (t := 30) (b := true) rfl rfl rfl (fun _ => ?_) (fun h => by cases h)
      refine go T_ok 100 rfl ?_
      refine guardN (b := true) rfl rfl rfl (fun h => by cases h) (fun _ => ?_)
      refine go T_ok 100 rfl ?_
      refine condD rfl (fun hle => ?_) (fun hle => ?_)
      · refine go T_ok 100 rfl ?_
        refine ret (ret2 (v := .int .i64 _) (x := .int .i64 _) Try.results58 rfl rfl ⟨?_, rfl⟩)
        rw [if_pos (by simp [hle])]
      · refine go T_ok 100 rfl ?_
        refine condT rfl rfl ?_
        refine go T_ok 100 rfl ?_
        refine ret (ret2 (v := .int .i64 _) (x := .int .i64 _) Try.results58 rfl rfl ⟨?_, rfl⟩)
        rw [if_neg (by simpa using hle)]
        rfl
end Go.Proofs.Ytocolpbakaibnaa
