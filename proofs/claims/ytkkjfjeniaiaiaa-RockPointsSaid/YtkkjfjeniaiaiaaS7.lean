/- Plain laws of chords: they follow each other. No walk in it. -/
import Derived.Test.YtkkjfjeniaiaiaaS3
import Derived.Test.YtkkjfjeniaiaiaaC9
namespace Go.Proofs.Ytkkjfjeniaiaiaa
open Go.Rock
theorem pcs_contig {v : Vo} {r : Ra} (hv : VoOk v) (hr : RaOk r) {j : Nat} {p q : Pc} (h1 : (pcs v r)[j]? = some p) (h2 : (pcs v r)[j + 1]? = some q) : p.u = q.a ∧ p.c ≠ q.c := by
  have R := pcs_runs hv hr
  have hp := List.mem_of_getElem? h1
  have hq := List.mem_of_getElem? h2
  obtain ⟨hi, e1⟩ := List.getElem?_eq_some_iff.1 h1
  obtain ⟨hj, e2⟩ := List.getElem?_eq_some_iff.1 h2
  have hs := List.pairwise_iff_getElem.1 R.sorted
  have hpq := hs j (j + 1) hi hj (by omega)
  rw [e1, e2] at hpq
  have p0 := R.pos p hp
  have q0 := R.pos q hq
  have heq : p.u = q.a := by
    rcases Int.lt_or_eq_of_le hpq with hlt | he
    · exfalso
      obtain ⟨i1, o1⟩ := R.tell p hp (p.u - 1) (by omega) (by omega)
      obtain ⟨i2, o2⟩ := R.tell q hq q.a (by omega) q0
      have n1 := R.nn p hp
      have n2 := R.nn q hq
      have hc := ceM_conv (r := r) (m1 := 2 * (p.u - 1) + 1) (m2 := 2 * p.u + 1) (m3 := 2 * q.a + 1) hv (by omega) (by omega) (by omega) (by omega)
      obtain ⟨z, hz, z1, z2⟩ := R.cover p.u (by omega) hc
      obtain ⟨i, hi', rfl⟩ := List.getElem_of_mem hz
      rcases Nat.lt_trichotomy i j with h5 | h5 | h5
      · have := hs i j hi' hi h5
        rw [e1] at this
        omega
      · subst h5
        rw [e1] at z2
        omega
      · rcases Nat.lt_trichotomy i (j + 1) with h6 | h6 | h6
        · omega
        · subst h6
          rw [e2] at z1
          omega
        · have := hs (j + 1) i hj hi' h6
          rw [e2] at this
          omega
    · exact he
  exact ⟨heq, R.adj p hp q hq heq⟩
/-- where the chords are, when so many are told -/
def posP (L : List Pc) (b : Int) (j : Nat) : Int := ((L[j]?).map (·.a)).getD b
theorem posP_get {L : List Pc} {b : Int} {j : Nat} {p : Pc} (h : L[j]? = some p) : posP L b j = p.a := by unfold posP; rw [h]; rfl
theorem posP_end (L : List Pc) (b : Int) : posP L b L.length = b := by unfold posP; rw [List.getElem?_eq_none (Nat.le_refl _)]; rfl
theorem posP_zero (L : List Pc) : posP L (thrL L).2.1 0 = (thrL L).1 := by cases L <;> rfl
theorem posP_step {v : Vo} {r : Ra} (hv : VoOk v) (hr : RaOk r) {j : Nat} {p : Pc} (h : (pcs v r)[j]? = some p) : posP (pcs v r) (thrL (pcs v r)).2.1 (j + 1) = p.u := by
  obtain ⟨hi, e1⟩ := List.getElem?_eq_some_iff.1 h
  by_cases hj : j + 1 < (pcs v r).length
  · have h2 := List.getElem?_eq_getElem hj
    rw [posP_get h2]
    exact (pcs_contig hv hr h h2).1.symm
  · have hl : j + 1 = (pcs v r).length := by omega
    rw [hl, posP_end]
    generalize pcs v r = L at *
    cases L with
    | nil => simp at hi
    | cons x L =>
      show ((x :: L).getLast (by simp)).u = p.u
      rw [List.getLast_eq_getElem]
      congr 1
      rw [← e1]
      congr 1
      simp only [List.length_cons] at hl ⊢
      omega
def toldF (at_ : Int) (L : List Pc) : Int := L.foldl (fun t p => if p.a ≤ at_ ∧ at_ < p.u then p.c else t) (-1)
theorem toldF_snoc (at_ : Int) (L : List Pc) (p : Pc) : toldF at_ (L ++ [p]) = if p.a ≤ at_ ∧ at_ < p.u then p.c else toldF at_ L := by unfold toldF; rw [List.foldl_append]; rfl
theorem told_spec (at_ : Int) (L : List Pc) : (∃ p ∈ L, p.a ≤ at_ ∧ at_ < p.u ∧ toldF at_ L = p.c) ∨ (toldF at_ L = -1 ∧ ∀ p ∈ L, ¬ (p.a ≤ at_ ∧ at_ < p.u)) := by
  have key : ∀ n, n ≤ L.length → (∃ p ∈ L.take n, p.a ≤ at_ ∧ at_ < p.u ∧ toldF at_ (L.take n) = p.c) ∨ (toldF at_ (L.take n) = -1 ∧ ∀ p ∈ L.take n, ¬ (p.a ≤ at_ ∧ at_ < p.u)) := by
    intro n
    induction n with
    | zero => intro _; exact .inr ⟨rfl, fun p h => by simp at h⟩
    | succ n ih =>
      intro hn
      have hx : L[n]? = some L[n] := List.getElem?_eq_getElem (by omega)
      have ht : L.take (n + 1) = L.take n ++ [L[n]] := by rw [List.take_add_one, hx]; rfl
      rw [ht, toldF_snoc]
      by_cases h : L[n].a ≤ at_ ∧ at_ < L[n].u
      · rw [if_pos h]
        exact .inl ⟨_, List.mem_append_right _ (List.mem_singleton.2 rfl), h.1, h.2, rfl⟩
      · rw [if_neg h]
        rcases ih (by omega) with ⟨p, hp, h1⟩ | ⟨h1, h2⟩
        · exact .inl ⟨p, List.mem_append_left _ hp, h1⟩
        · refine .inr ⟨h1, fun p hp => ?_⟩
          rcases List.mem_append.1 hp with hp | hp
          · exact h2 p hp
          · simp at hp; rw [hp]; exact h
  have := key L.length (Nat.le_refl _)
  rwa [List.take_length] at this
theorem told_ce {v : Vo} {r : Ra} (hv : VoOk v) (hr : RaOk r) {at_ : Int} (h0 : 0 ≤ at_) : (0 ≤ toldF at_ (pcs v r) → toldF at_ (pcs v r) = ceM v r (2 * at_ + 1)) ∧ (toldF at_ (pcs v r) < 0 → ceM v r (2 * at_ + 1) < 0) := by
  rcases told_spec at_ (pcs v r) with ⟨p, hp, h1, h2, h3⟩ | ⟨h1, h2⟩
  · have hc := pcs_cell (j := at_) hv hp h1 h2
    have hn := (mem_pcs hv hp).1
    rw [h3]
    exact ⟨fun _ => hc.symm, fun h => by omega⟩
  · rw [h1]
    refine ⟨fun h => by omega, fun _ => ?_⟩
    rcases Int.lt_or_le (ceM v r (2 * at_ + 1)) 0 with h | h
    · exact h
    · obtain ⟨p, hp, h4, h5⟩ := pcs_cover hv hr h0 h
      exact absurd ⟨h4, h5⟩ (h2 p hp)
/-- does the point of a tick lie in a cell along an axis? -/
def wtn (t sz b d at_ x : Int) : Prop := 2 * t * sz * x ≤ 2 * t * b + d * (2 * at_ + 1) ∧ 2 * t * b + d * (2 * at_ + 1) < 2 * t * sz * (x + 1)
instance (t sz b d at_ x : Int) : Decidable (wtn t sz b d at_ x) := by unfold wtn; infer_instance
theorem wtn_in {t sz b d at_ x n : Int} (ht : 0 < t) (hs : 0 < sz) (h0 : 0 ≤ x) (h1 : x < n) (h : wtn t sz b d at_ x) : 0 ≤ celA t sz b d n 0 (2 * at_ + 1) := by
  rw [celA_in ht hs, Int.zero_add]
  have hP : 0 < 2 * t * sz := Int.mul_pos (by omega) hs
  unfold wtn at h
  have e1 := Int.mul_nonneg (by omega : 0 ≤ 2 * t * sz) h0
  have e2 := Int.mul_le_mul_of_nonneg_left (by omega : x + 1 ≤ n) (by omega : 0 ≤ 2 * t * sz)
  omega
theorem wtn_of {t sz b d at_ n : Int} (ht : 0 < t) (hs : 0 < sz) (h : 0 ≤ celA t sz b d n 0 (2 * at_ + 1)) : wtn t sz b d at_ (celA t sz b d n 0 (2 * at_ + 1)) := by
  have hi := (celA_in ht hs).1 h
  have hP : 0 < 2 * t * sz := Int.mul_pos (by omega) hs
  unfold wtn celA
  rw [Int.zero_add] at hi ⊢
  rw [if_neg (by omega)]
  have l1 := Int.ediv_mul_le (2 * t * b + d * (2 * at_ + 1)) (Int.ne_of_gt hP)
  have l2 := Int.lt_ediv_add_one_mul_self (2 * t * b + d * (2 * at_ + 1)) hP
  rw [Int.mul_comm _ (2 * t * sz)] at l1 l2
  exact ⟨l1, l2⟩
end Go.Proofs.Ytkkjfjeniaiaiaa
