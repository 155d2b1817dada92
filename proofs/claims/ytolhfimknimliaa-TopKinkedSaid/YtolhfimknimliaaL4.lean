/- The walk of TopKinked. -/
import Derived.Test.YtolhfimknimliaaG8
import Derived.Test.YtolhfimknimliaaG7
import Derived.Test.YtolhfimknimliaaCF
namespace Go.Proofs.Ytolhfimknimliaa.L
open Go.Ev Go.Proofs Go.Bend Go.Top
attribute [local irreducible] At AtH
def T4 : Tab := [(42, .slc 110 3 24), (110, .str 3 [(0,1,false),(1,2,true)] [I 0, I 0, I 0])] ++ T
theorem T4_ok : tabOk Try.prog T4 = true := by kernel_rfl
theorem fst_at {p : Rw → Bool} {l : List Rw} {k : Nat} {r : Rw} (hr : l[k]? = some r) (hp : p r = true) : fst p l ≤ k := by
 rcases Nat.lt_or_ge k (fst p l) with h | h
 ·have := fst_no h hr
  rw [hp] at this
  cases this
 ·exact h
/-- the opacity agrees with the share of those that are surely bent up to all -/
theorem bent_law {n o sure bent : Int} {l : List Rw} (hm : Mono 0 1000000 n true l) (h1 : sure ≤ bent) (h2 : bent ≤ (shareP n l o).2) (o0 : 0 ≤ o) (o1 : o ≤ 1000000) : (bentP l (sure, n)).1 ≤ o ∧ o ≤ (bentP l (sure, n)).2 := by
 constructor
 ·show (if fst (fun r => decide (sure ≤ r.hi)) l = 0 then 0 else ((l[fst (fun r => decide (sure ≤ r.hi)) l - 1]?).map (fun r => r.k + 1)).getD 0) ≤ o
  split
  ·exact o0
  ·rename_i h0
   have hle := fst_le (fun r => decide (sure ≤ r.hi)) l
   generalize hi : fst (fun r => decide (sure ≤ r.hi)) l = i at *
   obtain ⟨r, hr⟩ := get_of (l := l) (i := i - 1) (by omega)
   rw [hr]
   show r.k + 1 ≤ o
   have hs : decide (sure ≤ r.hi) = false := fst_no (p := fun r => decide (sure ≤ r.hi)) (l := l) (j := i - 1) (by omega) hr
   have hs := of_decide_eq_false hs
   refine Int.not_lt.1 fun hlt => ?_
   have hj := fst_at (p := fun r => decide (o ≤ r.k)) hr (decide_eq_true (by omega))
   have h3 : (shareP n l o).2 = ((l[fst (fun r => decide (o ≤ r.k)) l]?).map (·.hi)).getD n := rfl
   rw [h3] at h2
   generalize fst (fun r => decide (o ≤ r.k)) l = j at *
   obtain ⟨r', hr'⟩ := get_of (l := l) (i := j) (by omega)
   rw [hr'] at h2
   have h2 : bent ≤ r'.hi := h2
   rcases Nat.lt_or_ge j (i - 1) with h | h
   ·have := (mono_lt hm (i - 1 - j - 1) j r' r hr' (by rw [show j + (i - 1 - j - 1 + 1) = i - 1 by omega]; exact hr)).2
    simp at this
    omega
   ·obtain rfl : j = i - 1 := by omega
    rw [hr] at hr'
    cases hr'
    omega
 ·show o ≤ ((l[fst (fun r => decide (n < r.lo)) l]?).map (fun r => r.k - 1)).getD 1000000
  cases hr : l[fst (fun r => decide (n < r.lo)) l]? with
  | none => exact o1
  | some r =>
   have h3 := fst_yes hr
   have h4 := hm.1 r (List.mem_of_getElem? hr)
   have h3 := of_decide_eq_true h3
   omega
/-- what is surely bent is bent -/
theorem kink_gt {l : List Ga} {xs : List Int} {K cut : Int} (hl : BeOk l) (hx : xs.length = l.length) (hin : ∀ (i : Nat) g x, l[i]? = some g → xs[i]? = some x → InG g x) (hK0 : 0 ≤ K) (hK : ∀ j, kinkAt l xs j ≤ K) (hall : ∀ p v, gI l 0 p = some v → cut < v) : cut < K := by
 have hn := hl.n0
 obtain ⟨g0, h0⟩ := get_ga (l := l) (i := 0) (by omega)
 obtain ⟨g1, h1⟩ := get_ga (l := l) (i := 1) (by omega)
 obtain ⟨x0, e0⟩ := get_i (l := xs) (i := 0) (by omega)
 obtain ⟨x1, e1⟩ := get_i (l := xs) (i := 1) (by omega)
 have i0 := hin 0 g0 x0 h0 e0
 have i1 := hin 1 g1 x1 h1 e1
 have a1 := hall (x0, x1) (minK l x0 x1) (by rw [gI_eq h0 h1, if_pos ⟨i0.1, i0.2, i1.1, i1.2⟩]; rfl)
 have a2 := minK_le hK0 l xs x0 x1 (be_asc hl) (fun g hg => (hl.ok g hg).1.lh) hx hin e0 e1 hK
 omega
set_option maxRecDepth 20000 in
set_option maxHeartbeats 32000000 in
theorem walk_TopKinked (a : Sli Mu) (cut : Int) (t : Sli Rw) (op : Int) (w0 : World) (Ha : InMs w0 a) (_ : I64 cut) (Ht : InK w0 t) (_ : I64 op) :
  Ret Try.prog 4 [.slice a.A a.l.length a.c, I cut, .slice t.A t.l.length t.c, I op] w0 fun v w' => v = .bool true ∧ Chg No w0 w' := by
 have Sa0 : Sl w0 w0.heap.size 2 a.A a.l.length (a.l.flatMap muL) := Ha.2.2.1
 have Hm := Ha.2.2.2
 have St0 : Sl w0 w0.heap.size 3 t.A t.l.length (t.l.flatMap rwL) := Ht.2.2.1
 have htm : t.l.length ≤ 9223372036854775807 := by have := Ht.ml; unfold maxLen at this; exact this
 have q : Chg No w0 w0 := Chg.refl _ _
 refine enter Try.func4 rfl Try.ntmps4 rfl ?_
 refine go T4_ok 200 rfl ?_
 repeat ((first | refine gT rfl rfl rfl rfl ?_ | refine gF rfl rfl rfl rfl ?_ | refine condT rfl rfl ?_ | refine condF rfl rfl ?_); refine go T4_ok 200 rfl ?_)
 by_cases z1 : (a.l.length : Int) < 2
 ·rw [decide_eq_true z1]
  refine go T4_ok 200 rfl ?_
  repeat ((first | refine gT rfl rfl rfl rfl ?_ | refine gF rfl rfl rfl rfl ?_ | refine condT rfl rfl ?_ | refine condF rfl rfl ?_); refine go T4_ok 200 rfl ?_)
  refine call rfl rfl rfl (ok _ (by decide) rfl) (known_any _) ?_
  rintro v wk ⟨rfl, qk⟩
  refine go T4_ok 200 rfl ?_
  exact ret (ret1 (v := .bool true) Try.results4 rfl ⟨rfl, q.trans qk⟩)
 rw [decide_eq_false z1]
 refine go T4_ok 200 rfl ?_
 repeat ((first | refine gT rfl rfl rfl rfl ?_ | refine gF rfl rfl rfl rfl ?_ | refine condT rfl rfl ?_ | refine condF rfl rfl ?_); refine go T4_ok 200 rfl ?_)
 by_cases z2 : 10 < (a.l.length : Int)
 ·rw [decide_eq_true z2]
  refine go T4_ok 200 rfl ?_
  repeat ((first | refine gT rfl rfl rfl rfl ?_ | refine gF rfl rfl rfl rfl ?_ | refine condT rfl rfl ?_ | refine condF rfl rfl ?_); refine go T4_ok 200 rfl ?_)
  refine call rfl rfl rfl (ok _ (by decide) rfl) (known_any _) ?_
  rintro v wk ⟨rfl, qk⟩
  refine go T4_ok 200 rfl ?_
  exact ret (ret1 (v := .bool true) Try.results4 rfl ⟨rfl, q.trans qk⟩)
 rw [decide_eq_false z2]
 refine go T4_ok 200 rfl ?_
 repeat ((first | refine gT rfl rfl rfl rfl ?_ | refine gF rfl rfl rfl rfl ?_ | refine condT rfl rfl ?_ | refine condF rfl rfl ?_); refine go T4_ok 200 rfl ?_)
 by_cases z3 : cut < 0
 ·rw [decide_eq_true z3]
  refine go T4_ok 200 rfl ?_
  repeat ((first | refine gT rfl rfl rfl rfl ?_ | refine gF rfl rfl rfl rfl ?_ | refine condT rfl rfl ?_ | refine condF rfl rfl ?_); refine go T4_ok 200 rfl ?_)
  refine call rfl rfl rfl (ok _ (by decide) rfl) (known_any _) ?_
  rintro v wk ⟨rfl, qk⟩
  refine go T4_ok 200 rfl ?_
  exact ret (ret1 (v := .bool true) Try.results4 rfl ⟨rfl, q.trans qk⟩)
 rw [decide_eq_false z3]
 refine go T4_ok 200 rfl ?_
 repeat ((first | refine gT rfl rfl rfl rfl ?_ | refine gF rfl rfl rfl rfl ?_ | refine condT rfl rfl ?_ | refine condF rfl rfl ?_); refine go T4_ok 200 rfl ?_)
 by_cases z4 : 1000000 < cut
 ·rw [decide_eq_true z4]
  refine go T4_ok 200 rfl ?_
  repeat ((first | refine gT rfl rfl rfl rfl ?_ | refine gF rfl rfl rfl rfl ?_ | refine condT rfl rfl ?_ | refine condF rfl rfl ?_); refine go T4_ok 200 rfl ?_)
  refine call rfl rfl rfl (ok _ (by decide) rfl) (known_any _) ?_
  rintro v wk ⟨rfl, qk⟩
  refine go T4_ok 200 rfl ?_
  exact ret (ret1 (v := .bool true) Try.results4 rfl ⟨rfl, q.trans qk⟩)
 rw [decide_eq_false z4]
 refine go T4_ok 200 rfl ?_
 repeat ((first | refine gT rfl rfl rfl rfl ?_ | refine gF rfl rfl rfl rfl ?_ | refine condT rfl rfl ?_ | refine condF rfl rfl ?_); refine go T4_ok 200 rfl ?_)
 by_cases z5 : 50 < (t.l.length : Int)
 ·rw [decide_eq_true z5]
  refine go T4_ok 200 rfl ?_
  repeat ((first | refine gT rfl rfl rfl rfl ?_ | refine gF rfl rfl rfl rfl ?_ | refine condT rfl rfl ?_ | refine condF rfl rfl ?_); refine go T4_ok 200 rfl ?_)
  refine call rfl rfl rfl (ok _ (by decide) rfl) (known_any _) ?_
  rintro v wk ⟨rfl, qk⟩
  refine go T4_ok 200 rfl ?_
  exact ret (ret1 (v := .bool true) Try.results4 rfl ⟨rfl, q.trans qk⟩)
 rw [decide_eq_false z5]
 refine go T4_ok 200 rfl ?_
 repeat ((first | refine gT rfl rfl rfl rfl ?_ | refine gF rfl rfl rfl rfl ?_ | refine condT rfl rfl ?_ | refine condF rfl rfl ?_); refine go T4_ok 200 rfl ?_)
 refine call rfl rfl rfl (ok _ (by decide) rfl) (rKinks_any (a.l.length : Int) t.l t.A t.c _ _ St0 htm) ?_
 rintro x w ⟨⟨b', rfl, hb⟩, qk⟩
 have q := q.trans qk
 cases b' with
 | false =>
  refine go T4_ok 200 rfl ?_
  repeat ((first | refine gT rfl rfl rfl rfl ?_ | refine gF rfl rfl rfl rfl ?_ | refine condT rfl rfl ?_ | refine condF rfl rfl ?_); refine go T4_ok 200 rfl ?_)
  refine call rfl rfl rfl (ok _ (by decide) rfl) (known_any _) ?_
  rintro v wk ⟨rfl, qk⟩
  refine go T4_ok 200 rfl ?_
  exact ret (ret1 (v := .bool true) Try.results4 rfl ⟨rfl, q.trans qk⟩)
 | true =>
 obtain ⟨hnn, hmo⟩ := hb.1 rfl
 refine go T4_ok 200 rfl ?_
 repeat ((first | refine gT rfl rfl rfl rfl ?_ | refine gF rfl rfl rfl rfl ?_ | refine condT rfl rfl ?_ | refine condF rfl rfl ?_); refine go T4_ok 200 rfl ?_)
 by_cases z6 : op < 0
 ·rw [decide_eq_true z6]
  refine go T4_ok 200 rfl ?_
  repeat ((first | refine gT rfl rfl rfl rfl ?_ | refine gF rfl rfl rfl rfl ?_ | refine condT rfl rfl ?_ | refine condF rfl rfl ?_); refine go T4_ok 200 rfl ?_)
  refine call rfl rfl rfl (ok _ (by decide) rfl) (known_any _) ?_
  rintro v wk ⟨rfl, qk⟩
  refine go T4_ok 200 rfl ?_
  exact ret (ret1 (v := .bool true) Try.results4 rfl ⟨rfl, q.trans qk⟩)
 rw [decide_eq_false z6]
 refine go T4_ok 200 rfl ?_
 repeat ((first | refine gT rfl rfl rfl rfl ?_ | refine gF rfl rfl rfl rfl ?_ | refine condT rfl rfl ?_ | refine condF rfl rfl ?_); refine go T4_ok 200 rfl ?_)
 by_cases z7 : 1000000 < op
 ·rw [decide_eq_true z7]
  refine go T4_ok 200 rfl ?_
  repeat ((first | refine gT rfl rfl rfl rfl ?_ | refine gF rfl rfl rfl rfl ?_ | refine condT rfl rfl ?_ | refine condF rfl rfl ?_); refine go T4_ok 200 rfl ?_)
  refine call rfl rfl rfl (ok _ (by decide) rfl) (known_any _) ?_
  rintro v wk ⟨rfl, qk⟩
  refine go T4_ok 200 rfl ?_
  exact ret (ret1 (v := .bool true) Try.results4 rfl ⟨rfl, q.trans qk⟩)
 rw [decide_eq_false z7]
 refine go T4_ok 200 rfl ?_
 repeat ((first | refine gT rfl rfl rfl rfl ?_ | refine gF rfl rfl rfl rfl ?_ | refine condT rfl rfl ?_ | refine condF rfl rfl ?_); refine go T4_ok 200 rfl ?_)
 refine loop [0, 1, 2, 3, 9, 10, 11] (fun x : Nat × Nat × Nat => [.slice a.A a.l.length a.c, I cut, .slice t.A t.l.length t.c, I op, .int .i64 (x.2.1 : Int), .int .i64 (x.2.2 : Int), .int .i64 (x.1 : Int)])
  (fun x w' => x.1 ≤ a.l.length ∧ x.2.1 ≤ x.2.2 ∧ x.2.2 ≤ x.1 ∧ Chg No w0 w') (fun x => a.l.length - x.1) (0, 0, 0) (fun _ => rfl) rfl ⟨Nat.zero_le _, Nat.le_refl _, Nat.le_refl _, q⟩ ?_
 clear q
 rintro ⟨i, sure, bent⟩ τ w ⟨hi, hsb, hbi, q⟩
 simp only at hi hsb hbi
 dsimp only
 refine go T4_ok 200 rfl ?_
 refine condD rfl (fun hlt => ?_) (fun hlt => ?_)
 ·have hlti : i < a.l.length := by have : (i : Int) < (a.l.length : Int) := hlt; omega
  have ei : w64 ((i : Int) + 1) = ((i + 1 : Nat) : Int) := w64_id (by omega) (by omega)
  have es : w64 ((sure : Int) + 1) = ((sure + 1 : Nat) : Int) := w64_id (by omega) (by omega)
  have eb : w64 ((bent : Int) + 1) = ((bent + 1 : Nat) : Int) := w64_id (by omega) (by omega)
  obtain ⟨m, hm⟩ : ∃ m, a.l[i]? = some m := ⟨_, List.getElem?_eq_getElem hlti⟩
  obtain ⟨hMg, hMh⟩ := Hm m (List.mem_of_getElem? hm)
  have Sg0 : SG w0 w0.heap.size m.1.A m.1.l := hMg.2.2.1
  have Sh0 : Sl w0 w0.heap.size 1 m.2.A m.2.l.length (iL m.2.l) := hMh.sl
  obtain ⟨b1, o1, hA1, hb1, hc1⟩ := Sl.el Sa0 muL_len hm
  have hcm : ∀ w', Chg No w0 w' → cellsAt w' b1 (o1 + i * 2) (muL m) := fun w' h => hc1.keep hb1 h (fun h => h)
  clear hc1
  refine go T4_ok 200 rfl ?_
  refine draw mixed (fun w' => Chg No w w') ([0,1,2,3,4,5,6,7,8,9,10,11,12].map (fun i => (i, true)) ++ [(13, false)] ++ [14,15,16,17,18,19,20,21,22,23,24,25,26,27,28,29,30].map (fun i => (i, true))) rfl (by kernel_rfl) (Chg.drew _) ?_
  refine goH T4_ok 200 rfl ?_
  rw [hA1]
  refine quietH rfl (fun w' hS => r_idx T4_ok rfl rfl rfl rfl i rfl hlti) ?_
  refine goH T4_ok 200 rfl ?_
  refine quietH rfl (fun w' hS => r_load T4_ok rfl rfl rfl ((hcm w' (q.trans hS)).get (i := 0) rfl)) ?_
  refine goH T4_ok 200 rfl ?_
  by_cases h6 : 6 < (m.1.l.length : Int)
  ·rw [decide_eq_true h6]
   refine goH T4_ok 200 rfl ?_
   repeat (first | (refine passE rfl ?_; refine goH T4_ok 200 rfl ?_) | (refine guardHA (b := false) rfl rfl rfl rfl (fun h => by cases h) (fun _ => ?_); refine goH T4_ok 200 rfl ?_) | (refine guardHA (b := true) rfl rfl rfl rfl (fun _ => ?_) (fun h => by cases h); refine goH T4_ok 200 rfl ?_))
   refine endH ?_
   rw [← hA1]
   have q := q.trans (Chg.drew w)
   refine go T4_ok 200 rfl ?_
   repeat ((first | refine gT rfl rfl rfl rfl ?_ | refine gF rfl rfl rfl rfl ?_ | refine condT rfl rfl ?_ | refine condF rfl rfl ?_); refine go T4_ok 200 rfl ?_)
   refine call rfl rfl rfl (ok _ (by decide) rfl) (known_any _) ?_
   rintro v wk ⟨rfl, qk⟩
   refine go T4_ok 200 rfl ?_
   exact ret (ret1 (v := .bool true) Try.results4 rfl ⟨rfl, q.trans qk⟩)
  rw [decide_eq_false h6]
  refine goH T4_ok 200 rfl ?_
  repeat (first | (refine gTH rfl rfl rfl rfl ?_; refine goH T4_ok 200 rfl ?_) | (refine gFH rfl rfl rfl rfl ?_; refine goH T4_ok 200 rfl ?_))
  refine quietH rfl (fun w' hS => r_idx T4_ok rfl rfl rfl rfl i rfl hlti) ?_
  refine goH T4_ok 200 rfl ?_
  refine quietH rfl (fun w' hS => r_load T4_ok rfl rfl rfl ((hcm w' (q.trans hS)).get (i := 0) rfl)) ?_
  refine goH T4_ok 200 rfl ?_
  refine callE rfl rfl rfl (ok _ (by decide) rfl) (Bent_any2 m.1.l (by omega) m.1.A m.1.c _ _ (Sg0.no (q.trans (Chg.drew w)))) ?_
  rintro x' w' ⟨⟨b, rfl, hb⟩, q2⟩
  have qk := (Chg.drew w).trans q2
  refine ⟨qk, ?_⟩
  cases b with
  | false =>
   refine goH T4_ok 200 rfl ?_
   repeat (first | (refine passE rfl ?_; refine goH T4_ok 200 rfl ?_) | (refine guardHA (b := false) rfl rfl rfl rfl (fun h => by cases h) (fun _ => ?_); refine goH T4_ok 200 rfl ?_) | (refine guardHA (b := true) rfl rfl rfl rfl (fun _ => ?_) (fun h => by cases h); refine goH T4_ok 200 rfl ?_))
   refine endH ?_
   rw [← hA1]
   have q := q.trans qk
   refine go T4_ok 200 rfl ?_
   repeat ((first | refine gT rfl rfl rfl rfl ?_ | refine gF rfl rfl rfl rfl ?_ | refine condT rfl rfl ?_ | refine condF rfl rfl ?_); refine go T4_ok 200 rfl ?_)
   refine call rfl rfl rfl (ok _ (by decide) rfl) (known_any _) ?_
   rintro v wk ⟨rfl, qk⟩
   refine go T4_ok 200 rfl ?_
   exact ret (ret1 (v := .bool true) Try.results4 rfl ⟨rfl, q.trans qk⟩)
  | true =>
  have hbe := hb rfl
  refine goH T4_ok 200 rfl ?_
  repeat (first | (refine gTH rfl rfl rfl rfl ?_; refine goH T4_ok 200 rfl ?_) | (refine gFH rfl rfl rfl rfl ?_; refine goH T4_ok 200 rfl ?_))
  refine quietH rfl (fun w' hS => r_idx T4_ok rfl rfl rfl rfl i rfl hlti) ?_
  refine goH T4_ok 200 rfl ?_
  refine quietH rfl (fun w' hS => r_load T4_ok rfl rfl rfl ((hcm w' (q.trans hS)).get (i := 1) rfl)) ?_
  refine goH T4_ok 200 rfl ?_
  refine quietH rfl (fun w' hS => r_idx T4_ok rfl rfl rfl rfl i rfl hlti) ?_
  refine goH T4_ok 200 rfl ?_
  refine quietH rfl (fun w' hS => r_load T4_ok rfl rfl rfl ((hcm w' (q.trans hS)).get (i := 0) rfl)) ?_
  refine goH T4_ok 200 rfl ?_
  by_cases hle : m.2.l.length = m.1.l.length
  case neg =>
   rw [show ((m.2.l.length : Int) != (m.1.l.length : Int)) = true from bne_iff_ne.2 (by omega)]
   refine goH T4_ok 200 rfl ?_
   repeat (first | (refine passE rfl ?_; refine goH T4_ok 200 rfl ?_) | (refine guardHA (b := false) rfl rfl rfl rfl (fun h => by cases h) (fun _ => ?_); refine goH T4_ok 200 rfl ?_) | (refine guardHA (b := true) rfl rfl rfl rfl (fun _ => ?_) (fun h => by cases h); refine goH T4_ok 200 rfl ?_))
   refine endH ?_
   rw [← hA1]
   have q := q.trans qk
   refine go T4_ok 200 rfl ?_
   repeat ((first | refine gT rfl rfl rfl rfl ?_ | refine gF rfl rfl rfl rfl ?_ | refine condT rfl rfl ?_ | refine condF rfl rfl ?_); refine go T4_ok 200 rfl ?_)
   refine call rfl rfl rfl (ok _ (by decide) rfl) (known_any _) ?_
   rintro v wk ⟨rfl, qk⟩
   refine go T4_ok 200 rfl ?_
   exact ret (ret1 (v := .bool true) Try.results4 rfl ⟨rfl, q.trans qk⟩)
  rw [show ((m.2.l.length : Int) != (m.1.l.length : Int)) = false by simp [hle]]
  refine goH T4_ok 200 rfl ?_
  repeat (first | (refine passE rfl ?_; refine goH T4_ok 200 rfl ?_) | (refine guardHA (b := false) rfl rfl rfl rfl (fun h => by cases h) (fun _ => ?_); refine goH T4_ok 200 rfl ?_) | (refine guardHA (b := true) rfl rfl rfl rfl (fun _ => ?_) (fun h => by cases h); refine goH T4_ok 200 rfl ?_))
  refine endH ?_
  rw [← hA1]
  have q := q.trans qk
  clear qk q2 hb
  refine go T4_ok 200 rfl ?_
  refine condF rfl rfl ?_
  refine go T4_ok 200 rfl ?_
  refine loop [0, 1, 2, 3, 9, 10, 11, 12] (fun k : Nat => [.slice a.A a.l.length a.c, I cut, .slice t.A t.l.length t.c, I op, .int .i64 (sure : Int), .int .i64 (bent : Int), .int .i64 (i : Int), .int .i64 (k : Int)])
   (fun k w' => k ≤ m.2.l.length ∧ Chg No w0 w' ∧ ∀ (j : Nat) g x, j < k → m.1.l[j]? = some g → m.2.l[j]? = some x → InG g x) (fun k => m.2.l.length - k) 0 (fun _ => rfl) rfl ⟨Nat.zero_le _, q, fun j g x h => absurd h (Nat.not_lt_zero _)⟩ ?_
  clear q
  rintro k τ w ⟨hk, q, hin⟩
  refine go T4_ok 200 rfl ?_
  rw [hA1]
  refine idx T4_ok rfl rfl rfl rfl rfl i rfl hlti ?_
  refine go T4_ok 200 rfl ?_
  refine ld T4_ok rfl rfl rfl rfl ((hcm _ q).get (i := 1) rfl) ?_
  refine go T4_ok 200 rfl ?_
  rw [← hA1]
  refine condD rfl (fun hlt2 => ?_) (fun hlt2 => ?_)
  ·have hltk : k < m.2.l.length := by have : (k : Int) < (m.2.l.length : Int) := hlt2; omega
   have ek : w64 ((k : Int) + 1) = ((k + 1 : Nat) : Int) := w64_id (by omega) (by omega)
   obtain ⟨g, hg⟩ := get_ga (l := m.1.l) (i := k) (by omega)
   obtain ⟨x, hx⟩ := get_i hltk
   obtain ⟨b2, o2, hA2, hb2, hc2⟩ := Sg0.el gaL_len hg
   obtain ⟨b3, o3, hA3, hb3, hc3⟩ := Sh0.elI hx
   refine go T4_ok 200 rfl ?_
   rw [hA1]
   refine idx T4_ok rfl rfl rfl rfl rfl i rfl hlti ?_
   refine go T4_ok 200 rfl ?_
   refine ld T4_ok rfl rfl rfl rfl ((hcm _ q).get (i := 0) rfl) ?_
   refine go T4_ok 200 rfl ?_
   rw [← hA1]
   rw [hA2]
   refine idx T4_ok rfl rfl rfl rfl rfl k rfl (by omega) ?_
   refine go T4_ok 200 rfl ?_
   refine ldA T4_ok rfl rfl rfl rfl rfl (hc2.keep hb2 q (fun h => h)) ?_
   refine go T4_ok 200 rfl ?_
   rw [← hA2]
   have yq := q.size
   refine nw rfl rfl (z := .agg #[I 0, I 0, I 0]) (by kernel_rfl) (cs := [I 0, I 0, I 0]) rfl ?_
   intro g13 w hg13 hs13 qk B13
   have q := q.trans qk
   refine go T4_ok 200 rfl ?_
   refine stA T4_ok rfl rfl rfl rfl (vs := gaL g) rfl rfl rfl B13 rfl ?_
   intro w qk B13 hz13
   have B13 : Bk w g13 50 (gaL g) := B13
   have q := q.step qk (fun k hk e => by omega)
   refine go T4_ok 200 rfl ?_
   refine draw mixed (fun w' => Chg No w w') ([0,1,2,3,4,5,6,7,8,9,10,11,12,13,14,15,16,17,18,19,20,21,22,23].map (fun i => (i, true))) rfl (by kernel_rfl) (Chg.drew _) ?_
   refine goH T4_ok 200 rfl ?_
   rw [hA1]
   refine quietH rfl (fun w' hS => r_idx T4_ok rfl rfl rfl rfl i rfl hlti) ?_
   refine goH T4_ok 200 rfl ?_
   refine quietH rfl (fun w' hS => r_load T4_ok rfl rfl rfl ((hcm w' (q.trans hS)).get (i := 1) rfl)) ?_
   rw [← hA1]
   refine goH T4_ok 200 rfl ?_
   rw [hA3]
   refine quietH rfl (fun w' hS => r_idx T4_ok rfl rfl rfl rfl k rfl hltk) ?_
   refine goH T4_ok 200 rfl ?_
   refine quietH rfl (fun w' hS => r_load T4_ok rfl rfl rfl (((q.trans hS).cell (a := ⟨b3, o3 + k * 1, none⟩) hb3 (fun h => h)).trans hc3)) ?_
   rw [← hA3]
   refine goH T4_ok 200 rfl ?_
   refine quietH rfl (fun w' hS => r_load T4_ok rfl rfl rfl (Bk.get (B13.no hS) (i := 1) rfl)) ?_
   refine goH T4_ok 200 rfl ?_
   by_cases h1 : x < g.lo
   ·rw [decide_eq_true h1]
    refine goH T4_ok 200 rfl ?_
    repeat (first | (refine passE rfl ?_; refine goH T4_ok 200 rfl ?_) | (refine guardHA (b := false) rfl rfl rfl rfl (fun h => by cases h) (fun _ => ?_); refine goH T4_ok 200 rfl ?_) | (refine guardHA (b := true) rfl rfl rfl rfl (fun _ => ?_) (fun h => by cases h); refine goH T4_ok 200 rfl ?_))
    refine endH ?_
    have q := q.trans (Chg.drew w)
    refine go T4_ok 200 rfl ?_
    repeat ((first | refine gT rfl rfl rfl rfl ?_ | refine gF rfl rfl rfl rfl ?_ | refine condT rfl rfl ?_ | refine condF rfl rfl ?_); refine go T4_ok 200 rfl ?_)
    refine call rfl rfl rfl (ok _ (by decide) rfl) (known_any _) ?_
    rintro v wk ⟨rfl, qk⟩
    refine go T4_ok 200 rfl ?_
    exact ret (ret1 (v := .bool true) Try.results4 rfl ⟨rfl, q.trans qk⟩)
   rw [decide_eq_false h1]
   refine goH T4_ok 200 rfl ?_
   repeat (first | (refine gTH rfl rfl rfl rfl ?_; refine goH T4_ok 200 rfl ?_) | (refine gFH rfl rfl rfl rfl ?_; refine goH T4_ok 200 rfl ?_))
   rw [hA1]
   refine quietH rfl (fun w' hS => r_idx T4_ok rfl rfl rfl rfl i rfl hlti) ?_
   refine goH T4_ok 200 rfl ?_
   refine quietH rfl (fun w' hS => r_load T4_ok rfl rfl rfl ((hcm w' (q.trans hS)).get (i := 1) rfl)) ?_
   rw [← hA1]
   refine goH T4_ok 200 rfl ?_
   rw [hA3]
   refine quietH rfl (fun w' hS => r_idx T4_ok rfl rfl rfl rfl k rfl hltk) ?_
   refine goH T4_ok 200 rfl ?_
   refine quietH rfl (fun w' hS => r_load T4_ok rfl rfl rfl (((q.trans hS).cell (a := ⟨b3, o3 + k * 1, none⟩) hb3 (fun h => h)).trans hc3)) ?_
   rw [← hA3]
   refine goH T4_ok 200 rfl ?_
   refine quietH rfl (fun w' hS => r_load T4_ok rfl rfl rfl (Bk.get (B13.no hS) (i := 2) rfl)) ?_
   refine goH T4_ok 200 rfl ?_
   by_cases h2 : g.hi < x
   ·rw [decide_eq_true h2]
    refine goH T4_ok 200 rfl ?_
    repeat (first | (refine passE rfl ?_; refine goH T4_ok 200 rfl ?_) | (refine guardHA (b := false) rfl rfl rfl rfl (fun h => by cases h) (fun _ => ?_); refine goH T4_ok 200 rfl ?_) | (refine guardHA (b := true) rfl rfl rfl rfl (fun _ => ?_) (fun h => by cases h); refine goH T4_ok 200 rfl ?_))
    refine endH ?_
    have q := q.trans (Chg.drew w)
    refine go T4_ok 200 rfl ?_
    repeat ((first | refine gT rfl rfl rfl rfl ?_ | refine gF rfl rfl rfl rfl ?_ | refine condT rfl rfl ?_ | refine condF rfl rfl ?_); refine go T4_ok 200 rfl ?_)
    refine call rfl rfl rfl (ok _ (by decide) rfl) (known_any _) ?_
    rintro v wk ⟨rfl, qk⟩
    refine go T4_ok 200 rfl ?_
    exact ret (ret1 (v := .bool true) Try.results4 rfl ⟨rfl, q.trans qk⟩)
   rw [decide_eq_false h2]
   refine goH T4_ok 200 rfl ?_
   repeat (first | (refine passE rfl ?_; refine goH T4_ok 200 rfl ?_) | (refine guardHA (b := false) rfl rfl rfl rfl (fun h => by cases h) (fun _ => ?_); refine goH T4_ok 200 rfl ?_) | (refine guardHA (b := true) rfl rfl rfl rfl (fun _ => ?_) (fun h => by cases h); refine goH T4_ok 200 rfl ?_))
   refine endH ?_
   have q := q.trans (Chg.drew w)
   refine go T4_ok 200 rfl ?_
   refine condF rfl rfl ?_
   refine go T4_ok 200 rfl ?_
   rw [ek]
   refine round ⟨k + 1, rfl, ⟨by omega, q, fun j g' x' hj h3 h4 => ?_⟩, by omega⟩
   by_cases hjk : j = k
   ·subst hjk
    rw [hg] at h3
    rw [hx] at h4
    cases h3
    cases h4
    exact ⟨by omega, by omega⟩
   ·exact hin j g' x' (by omega) h3 h4
  have hke : k = m.2.l.length := by have : ¬ (k : Int) < (m.2.l.length : Int) := hlt2; omega
  subst hke
  have hin : ∀ (j : Nat) g x, m.1.l[j]? = some g → m.2.l[j]? = some x → InG g x := fun j g x h1 h2 => hin j g x (List.getElem?_eq_some_iff.1 h2).1 h1 h2
  clear hk hlt2
  refine go T4_ok 200 rfl ?_
  refine draw mixed (fun w' => Chg No w w') ([0,1,2,3,4,6,7,8,9,10,12].map (fun i => (i, true)) ++ [(5, false)] ++ [(11, false)] ++ [13].map (fun i => (i, true))) rfl (by kernel_rfl) (Chg.drew _) ?_
  refine goH T4_ok 200 rfl ?_
  rw [hA1]
  refine quietH rfl (fun w' hS => r_idx T4_ok rfl rfl rfl rfl i rfl hlti) ?_
  refine goH T4_ok 200 rfl ?_
  refine quietH rfl (fun w' hS => r_load T4_ok rfl rfl rfl ((hcm w' (q.trans hS)).get (i := 0) rfl)) ?_
  refine goH T4_ok 200 rfl ?_
  refine quietH rfl (fun w' hS => r_idx T4_ok rfl rfl rfl rfl i rfl hlti) ?_
  refine goH T4_ok 200 rfl ?_
  refine quietH rfl (fun w' hS => r_load T4_ok rfl rfl rfl ((hcm w' (q.trans hS)).get (i := 1) rfl)) ?_
  refine goH T4_ok 200 rfl ?_
  rw [← hA1]
  refine callE rfl rfl rfl (ok _ (by decide) rfl) (Zs_any m.1.l (by omega) m.1.A m.1.c _ _ (Sg0.no (q.trans (Chg.drew w)))) ?_
  rintro x' w1 ⟨A5, c5, rfl, Sz, q2⟩
  have qk := (Chg.drew w).trans q2
  refine ⟨qk, ?_⟩
  refine goH T4_ok 200 rfl ?_
  refine callE rfl rfl rfl (ok _ (by decide) rfl) (Kink_any m.1.l hbe m.2.l hle hin A5 c5 _ m.2.A m.2.c _ _ Sz (Sh0.no (q.trans qk))) ?_
  rintro x' w2 ⟨⟨K, rfl, hK0, hK⟩, q3⟩
  have qk := qk.trans q3
  refine ⟨qk, ?_⟩
  refine goH T4_ok 200 rfl ?_
  repeat (first | (refine gTH rfl rfl rfl rfl ?_; refine goH T4_ok 200 rfl ?_) | (refine gFH rfl rfl rfl rfl ?_; refine goH T4_ok 200 rfl ?_))
  refine endH ?_
  have q := q.trans qk
  clear qk q2 q3 Sz
  refine go T4_ok 200 rfl ?_
  by_cases hKc0 : cut < K
  ·rw [decide_eq_true hKc0]
   refine go T4_ok 200 rfl ?_
   refine condT rfl rfl ?_
   refine go T4_ok 200 rfl ?_
   rw [eb]
   refine go T4_ok 200 rfl ?_
   rw [hA1]
   refine idx T4_ok rfl rfl rfl rfl rfl i rfl hlti ?_
   refine go T4_ok 200 rfl ?_
   refine ld T4_ok rfl rfl rfl rfl ((hcm _ q).get (i := 0) rfl) ?_
   refine go T4_ok 200 rfl ?_
   rw [← hA1]
   refine call rfl rfl rfl (ok _ (by decide) rfl) (Bends_ok m.1.l hbe cut (by omega) m.1.A m.1.c _ _ (Sg0.no q)) ?_
   rintro x' w3 ⟨⟨A6, n6, c6, e, rfl, he⟩, qk⟩
   have q := q.trans qk
   refine go T4_ok 200 rfl ?_
   rw [hA1]
   refine idx T4_ok rfl rfl rfl rfl rfl i rfl hlti ?_
   refine go T4_ok 200 rfl ?_
   refine ld T4_ok rfl rfl rfl rfl ((hcm _ q).get (i := 0) rfl) ?_
   refine go T4_ok 200 rfl ?_
   rw [← hA1]
   refine call rfl rfl rfl (ok _ (by decide) rfl) (Straight_ok m.1.l hbe m.1.A m.1.c _ _ (Sg0.no q)) ?_
   rintro x' w4 ⟨⟨A7, n7, c7, kk, rfl, ⟨p7, hp7⟩, hmin⟩, qk⟩
   have q := q.trans qk
   rcases he with ⟨rfl, he⟩ | ⟨rfl, pv, vv, hpv, hvv⟩
   ·have hgt := he p7 kk hp7
    have hKc := kink_gt hbe hle hin hK0 hK he
    refine go T4_ok 200 rfl ?_
    repeat ((first | refine gT rfl rfl rfl rfl ?_ | refine gF rfl rfl rfl rfl ?_ | refine condT rfl rfl ?_ | refine condF rfl rfl ?_); refine go T4_ok 200 rfl ?_)
    rw [decide_eq_true hgt]
    refine go T4_ok 200 rfl ?_
    repeat ((first | refine gT rfl rfl rfl rfl ?_ | refine gF rfl rfl rfl rfl ?_ | refine condT rfl rfl ?_ | refine condF rfl rfl ?_); refine go T4_ok 200 rfl ?_)
    refine neqB (a := true) (b := true) rfl rfl Try.underlying4 rfl rfl ?_
    refine go T4_ok 200 rfl ?_
    repeat ((first | refine gT rfl rfl rfl rfl ?_ | refine gF rfl rfl rfl rfl ?_ | refine condT rfl rfl ?_ | refine condF rfl rfl ?_); refine go T4_ok 200 rfl ?_)
    rw [es, ei]
    exact round ⟨(i + 1, sure + 1, bent + 1), rfl, ⟨by simp only; omega, by simp only; omega, by simp only; omega, q⟩, by simp only; omega⟩
   ·have hgt : ¬ cut < kk := by have := hmin pv vv hpv; omega
    refine go T4_ok 200 rfl ?_
    repeat ((first | refine gT rfl rfl rfl rfl ?_ | refine gF rfl rfl rfl rfl ?_ | refine condT rfl rfl ?_ | refine condF rfl rfl ?_); refine go T4_ok 200 rfl ?_)
    rw [decide_eq_false hgt]
    refine go T4_ok 200 rfl ?_
    repeat ((first | refine gT rfl rfl rfl rfl ?_ | refine gF rfl rfl rfl rfl ?_ | refine condT rfl rfl ?_ | refine condF rfl rfl ?_); refine go T4_ok 200 rfl ?_)
    refine neqB (a := false) (b := false) rfl rfl Try.underlying4 rfl rfl ?_
    refine go T4_ok 200 rfl ?_
    repeat ((first | refine gT rfl rfl rfl rfl ?_ | refine gF rfl rfl rfl rfl ?_ | refine condT rfl rfl ?_ | refine condF rfl rfl ?_); refine go T4_ok 200 rfl ?_)
    rw [ei]
    exact round ⟨(i + 1, sure, bent + 1), rfl, ⟨by simp only; omega, by simp only; omega, by simp only; omega, q⟩, by simp only; omega⟩
  ·rw [decide_eq_false hKc0]
   refine go T4_ok 200 rfl ?_
   refine condF rfl rfl ?_
   refine go T4_ok 200 rfl ?_
   rw [hA1]
   refine idx T4_ok rfl rfl rfl rfl rfl i rfl hlti ?_
   refine go T4_ok 200 rfl ?_
   refine ld T4_ok rfl rfl rfl rfl ((hcm _ q).get (i := 0) rfl) ?_
   refine go T4_ok 200 rfl ?_
   rw [← hA1]
   refine call rfl rfl rfl (ok _ (by decide) rfl) (Bends_ok m.1.l hbe cut (by omega) m.1.A m.1.c _ _ (Sg0.no q)) ?_
   rintro x' w3 ⟨⟨A6, n6, c6, e, rfl, he⟩, qk⟩
   have q := q.trans qk
   refine go T4_ok 200 rfl ?_
   rw [hA1]
   refine idx T4_ok rfl rfl rfl rfl rfl i rfl hlti ?_
   refine go T4_ok 200 rfl ?_
   refine ld T4_ok rfl rfl rfl rfl ((hcm _ q).get (i := 0) rfl) ?_
   refine go T4_ok 200 rfl ?_
   rw [← hA1]
   refine call rfl rfl rfl (ok _ (by decide) rfl) (Straight_ok m.1.l hbe m.1.A m.1.c _ _ (Sg0.no q)) ?_
   rintro x' w4 ⟨⟨A7, n7, c7, kk, rfl, ⟨p7, hp7⟩, hmin⟩, qk⟩
   have q := q.trans qk
   rcases he with ⟨rfl, he⟩ | ⟨rfl, pv, vv, hpv, hvv⟩
   ·have hgt := he p7 kk hp7
    have hKc := kink_gt hbe hle hin hK0 hK he
    refine go T4_ok 200 rfl ?_
    repeat ((first | refine gT rfl rfl rfl rfl ?_ | refine gF rfl rfl rfl rfl ?_ | refine condT rfl rfl ?_ | refine condF rfl rfl ?_); refine go T4_ok 200 rfl ?_)
    rw [decide_eq_true hgt]
    refine go T4_ok 200 rfl ?_
    repeat ((first | refine gT rfl rfl rfl rfl ?_ | refine gF rfl rfl rfl rfl ?_ | refine condT rfl rfl ?_ | refine condF rfl rfl ?_); refine go T4_ok 200 rfl ?_)
    refine neqB (a := true) (b := true) rfl rfl Try.underlying4 rfl rfl ?_
    refine go T4_ok 200 rfl ?_
    repeat ((first | refine gT rfl rfl rfl rfl ?_ | refine gF rfl rfl rfl rfl ?_ | refine condT rfl rfl ?_ | refine condF rfl rfl ?_); refine go T4_ok 200 rfl ?_)
    rw [es, ei]
    exact round ⟨(i + 1, sure + 1, bent), rfl, ⟨by simp only; omega, by simp only; omega, by simp only; omega, q⟩, by simp only; omega⟩
   ·have hgt : ¬ cut < kk := by have := hmin pv vv hpv; omega
    refine go T4_ok 200 rfl ?_
    repeat ((first | refine gT rfl rfl rfl rfl ?_ | refine gF rfl rfl rfl rfl ?_ | refine condT rfl rfl ?_ | refine condF rfl rfl ?_); refine go T4_ok 200 rfl ?_)
    rw [decide_eq_false hgt]
    refine go T4_ok 200 rfl ?_
    repeat ((first | refine gT rfl rfl rfl rfl ?_ | refine gF rfl rfl rfl rfl ?_ | refine condT rfl rfl ?_ | refine condF rfl rfl ?_); refine go T4_ok 200 rfl ?_)
    refine neqB (a := false) (b := false) rfl rfl Try.underlying4 rfl rfl ?_
    refine go T4_ok 200 rfl ?_
    repeat ((first | refine gT rfl rfl rfl rfl ?_ | refine gF rfl rfl rfl rfl ?_ | refine condT rfl rfl ?_ | refine condF rfl rfl ?_); refine go T4_ok 200 rfl ?_)
    rw [ei]
    exact round ⟨(i + 1, sure, bent), rfl, ⟨by simp only; omega, by simp only; omega, by simp only; omega, q⟩, by simp only; omega⟩
 have hie : i = a.l.length := by have : ¬ (i : Int) < (a.l.length : Int) := hlt; omega
 subst hie
 refine go T4_ok 200 rfl ?_
 repeat ((first | refine gT rfl rfl rfl rfl ?_ | refine gF rfl rfl rfl rfl ?_ | refine condT rfl rfl ?_ | refine condF rfl rfl ?_); refine go T4_ok 200 rfl ?_)
 rw [decide_eq_false (show ¬ (bent : Int) < (sure : Int) by omega)]
 refine go T4_ok 200 rfl ?_
 repeat ((first | refine gT rfl rfl rfl rfl ?_ | refine gF rfl rfl rfl rfl ?_ | refine condT rfl rfl ?_ | refine condF rfl rfl ?_); refine go T4_ok 200 rfl ?_)
 refine call rfl rfl rfl (ok _ (by decide) rfl) (Shares_any (a.l.length : Int) t.l (op, 0) t.A t.c _ _ (St0.no q) htm hnn hmo ⟨by omega, by omega⟩) ?_
 rintro x w ⟨rfl, qk⟩
 have q := q.trans qk
 obtain ⟨sp, hsp⟩ : ∃ sp, sp = shareP (a.l.length : Int) t.l op := ⟨_, rfl⟩
 have hlaw := bent_law (n := (a.l.length : Int)) (o := op) (sure := (sure : Int)) (bent := (bent : Int)) hmo (by omega) (l := t.l)
 rw [← hsp] at hlaw
 rw [show shareP (a.l.length : Int) t.l (op, 0).1 = sp from hsp.symm]
 clear hsp
 obtain ⟨s1, s2⟩ := sp
 refine go T4_ok 200 rfl ?_
 repeat ((first | refine gT rfl rfl rfl rfl ?_ | refine gF rfl rfl rfl rfl ?_ | refine condT rfl rfl ?_ | refine condF rfl rfl ?_); refine go T4_ok 200 rfl ?_)
 have yq := q.size
 refine nw rfl rfl (z := .agg #[I 0, I 0]) (by kernel_rfl) (cs := [I 0, I 0]) rfl ?_
 intro g19 w hg19 hs19 qk B19
 have q := q.trans qk
 refine go T4_ok 200 rfl ?_
 refine stA T4_ok rfl rfl rfl rfl (vs := [I s1,I s2]) rfl rfl rfl B19 rfl ?_
 intro w qk B19 hz19
 have B19 : Bk w g19 24 ([I s1,I s2]) := B19
 have q := q.step qk (fun k hk e => by omega)
 refine go T4_ok 200 rfl ?_
 repeat ((first | refine ldA T4_ok rfl rfl rfl rfl rfl (Bk.all B19) ?_ | refine ld T4_ok rfl rfl rfl rfl (Bk.get B19 rfl) ?_ | refine gT rfl rfl rfl rfl ?_ | refine gF rfl rfl rfl rfl ?_ | refine condT rfl rfl ?_ | refine condF rfl rfl ?_); refine go T4_ok 200 rfl ?_)
 by_cases x1 : (bent : Int) < s1
 ·rw [decide_eq_true x1]
  refine go T4_ok 200 rfl ?_
  repeat ((first | refine ldA T4_ok rfl rfl rfl rfl rfl (Bk.all B19) ?_ | refine ld T4_ok rfl rfl rfl rfl (Bk.get B19 rfl) ?_ | refine gT rfl rfl rfl rfl ?_ | refine gF rfl rfl rfl rfl ?_ | refine condT rfl rfl ?_ | refine condF rfl rfl ?_); refine go T4_ok 200 rfl ?_)
  refine call rfl rfl rfl (ok _ (by decide) rfl) (known_any _) ?_
  rintro v wk ⟨rfl, qk⟩
  refine go T4_ok 200 rfl ?_
  exact ret (ret1 (v := .bool true) Try.results4 rfl ⟨rfl, q.trans qk⟩)
 rw [decide_eq_false x1]
 refine go T4_ok 200 rfl ?_
 repeat ((first | refine ldA T4_ok rfl rfl rfl rfl rfl (Bk.all B19) ?_ | refine ld T4_ok rfl rfl rfl rfl (Bk.get B19 rfl) ?_ | refine gT rfl rfl rfl rfl ?_ | refine gF rfl rfl rfl rfl ?_ | refine condT rfl rfl ?_ | refine condF rfl rfl ?_); refine go T4_ok 200 rfl ?_)
 by_cases x2 : s2 < (bent : Int)
 ·rw [decide_eq_true x2]
  refine go T4_ok 200 rfl ?_
  repeat ((first | refine ldA T4_ok rfl rfl rfl rfl rfl (Bk.all B19) ?_ | refine ld T4_ok rfl rfl rfl rfl (Bk.get B19 rfl) ?_ | refine gT rfl rfl rfl rfl ?_ | refine gF rfl rfl rfl rfl ?_ | refine condT rfl rfl ?_ | refine condF rfl rfl ?_); refine go T4_ok 200 rfl ?_)
  refine call rfl rfl rfl (ok _ (by decide) rfl) (known_any _) ?_
  rintro v wk ⟨rfl, qk⟩
  refine go T4_ok 200 rfl ?_
  exact ret (ret1 (v := .bool true) Try.results4 rfl ⟨rfl, q.trans qk⟩)
 rw [decide_eq_false x2]
 obtain ⟨hl1, hl2⟩ := hlaw (by simp only; omega) (by omega) (by omega)
 refine go T4_ok 200 rfl ?_
 repeat ((first | refine ldA T4_ok rfl rfl rfl rfl rfl (Bk.all B19) ?_ | refine ld T4_ok rfl rfl rfl rfl (Bk.get B19 rfl) ?_ | refine gT rfl rfl rfl rfl ?_ | refine gF rfl rfl rfl rfl ?_ | refine condT rfl rfl ?_ | refine condF rfl rfl ?_); refine go T4_ok 200 rfl ?_)
 refine call rfl rfl rfl (ok _ (by decide) rfl) (Bent_any (a.l.length : Int) t.l ((sure : Int), (a.l.length : Int)) t.A t.c _ _ (St0.no q) htm hnn hmo ⟨by simp only; omega, by simp only; omega, Int.le_refl _⟩) ?_
 rintro x w ⟨rfl, qk⟩
 have B19 := B19.no qk
 have q := q.trans qk
 obtain ⟨bp, hbp⟩ : ∃ bp, bp = bentP t.l ((sure : Int), (a.l.length : Int)) := ⟨_, rfl⟩
 rw [← hbp] at hl1 hl2 ⊢
 clear hbp
 obtain ⟨p1, p2⟩ := bp
 simp only at hl1 hl2
 rw [if_neg (show ¬ ((p1, p2) : Int × Int).2 < ((p1, p2) : Int × Int).1 by simp only; omega), if_neg (show ¬ ((p1, p2) : Int × Int).2 < ((p1, p2) : Int × Int).1 by simp only; omega)]
 refine go T4_ok 200 rfl ?_
 repeat ((first | refine ldA T4_ok rfl rfl rfl rfl rfl (Bk.all B19) ?_ | refine ld T4_ok rfl rfl rfl rfl (Bk.get B19 rfl) ?_ | refine gT rfl rfl rfl rfl ?_ | refine gF rfl rfl rfl rfl ?_ | refine condT rfl rfl ?_ | refine condF rfl rfl ?_); refine go T4_ok 200 rfl ?_)
 have yB19 := B19.lt
 have yq := q.size
 refine nw rfl rfl (z := .agg #[I 0, I 0]) (by kernel_rfl) (cs := [I 0, I 0]) rfl ?_
 intro g21 w hg21 hs21 qk B21
 have B19 := B19.no qk
 have q := q.trans qk
 refine go T4_ok 200 rfl ?_
 refine stA T4_ok rfl rfl rfl rfl (vs := [I p1,I p2]) rfl rfl rfl B21 rfl ?_
 intro w qk B21 hz21
 have B21 : Bk w g21 24 ([I p1,I p2]) := B21
 have B19 := Bk.keep B19 qk (by omega)
 have q := q.step qk (fun k hk e => by omega)
 refine go T4_ok 200 rfl ?_
 repeat ((first | refine ldA T4_ok rfl rfl rfl rfl rfl (Bk.all B19) ?_ | refine ldA T4_ok rfl rfl rfl rfl rfl (Bk.all B21) ?_ | refine ld T4_ok rfl rfl rfl rfl (Bk.get B19 rfl) ?_ | refine ld T4_ok rfl rfl rfl rfl (Bk.get B21 rfl) ?_ | refine gT rfl rfl rfl rfl ?_ | refine gF rfl rfl rfl rfl ?_ | refine condT rfl rfl ?_ | refine condF rfl rfl ?_); refine go T4_ok 200 rfl ?_)
 rw [decide_eq_true hl1]
 refine go T4_ok 200 rfl ?_
 repeat ((first | refine ldA T4_ok rfl rfl rfl rfl rfl (Bk.all B19) ?_ | refine ldA T4_ok rfl rfl rfl rfl rfl (Bk.all B21) ?_ | refine ld T4_ok rfl rfl rfl rfl (Bk.get B19 rfl) ?_ | refine ld T4_ok rfl rfl rfl rfl (Bk.get B21 rfl) ?_ | refine gT rfl rfl rfl rfl ?_ | refine gF rfl rfl rfl rfl ?_ | refine condT rfl rfl ?_ | refine condF rfl rfl ?_); refine go T4_ok 200 rfl ?_)
 rw [decide_eq_true hl2]
 refine go T4_ok 200 rfl ?_
 repeat ((first | refine ldA T4_ok rfl rfl rfl rfl rfl (Bk.all B19) ?_ | refine ldA T4_ok rfl rfl rfl rfl rfl (Bk.all B21) ?_ | refine ld T4_ok rfl rfl rfl rfl (Bk.get B19 rfl) ?_ | refine ld T4_ok rfl rfl rfl rfl (Bk.get B21 rfl) ?_ | refine gT rfl rfl rfl rfl ?_ | refine gF rfl rfl rfl rfl ?_ | refine condT rfl rfl ?_ | refine condF rfl rfl ?_); refine go T4_ok 200 rfl ?_)
 refine call rfl rfl rfl (ok _ (by decide) rfl) (known_any _) ?_
 rintro v wk ⟨rfl, qk⟩
 refine go T4_ok 200 rfl ?_
 exact ret (ret1 (v := .bool true) Try.results4 rfl ⟨rfl, q.trans qk⟩)
end Go.Proofs.Ytolhfimknimliaa.L
