/- The plain law of tours: the search comes to the best order of all. -/
import Derived.Test.YteenhfnamjbaiaaT5
namespace Go.Proofs.Yteenhfnamjbaiaa
open Go.Camp (Cl wayT stopT TrOk begT okT leaveT endT begs getE moreR Ms endT_mono)
/-- the orders that go on from some stops -/
def tails (n : Nat) : Nat → Nat → List (List Nat)
 | 0, _ => [[]]
 | f + 1, d => (List.range n).flatMap fun i => if d.testBit i then [] else (tails n f (d ||| 2 ^ i)).map (i :: ·)
def updR (t : Go.Camp.Tr) (p : Nat) (x : Int) (now : List Nat) (b : List Nat × Int) (k : List Nat) : List Nat × Int := match endT t k p x with
 | none => b
 | some e => if b.2 < 0 ∨ e < b.2 then (now ++ k, e) else b
/-- how many stops are in a set -/
def card (n d : Nat) : Nat := ((List.range n).filter (fun i => d.testBit i)).length
theorem filt_or {p : Nat → Bool} {i : Nat} (hp : p i = false) : ∀ L : List Nat, L.Nodup → i ∈ L → (L.filter (fun j => p j || decide (i = j))).length = (L.filter p).length + 1 := by
 intro L
 induction L with
 | nil => intro _ h; cases h
 | cons a L ih =>
  intro hn hi
  obtain ⟨h1, h2⟩ := List.nodup_cons.1 hn
  by_cases ha : i = a
  ·subst ha
   have e : L.filter (fun j => p j || decide (i = j)) = L.filter p := List.filter_congr fun j hj => by
    have : i ≠ j := fun e => h1 (e ▸ hj)
    simp [this]
   simp [hp, e]
  ·have hi' : i ∈ L := by rcases List.mem_cons.1 hi with h | h; exact absurd h ha; exact h
   have := ih h2 hi'
   cases hpa : p a <;> simp [hpa, ha, this]
theorem card_or {n d i : Nat} (hi : i < n) (hd : d.testBit i = false) : card n (d ||| 2 ^ i) = card n d + 1 := by
 unfold card
 rw [← filt_or hd (List.range n) List.nodup_range (List.mem_range.2 hi)]
 congr 2
 funext j
 rw [Nat.testBit_or, Nat.testBit_two_pow]
theorem card_zero (n : Nat) : card n 0 = 0 := by simp [card]
structure PosT (t : Go.Camp.Tr) : Prop where
 w : ∀ p q, 0 ≤ wayT t p q
 s : ∀ i, 0 ≤ (stopT t i).opn ∧ 0 ≤ (stopT t i).work
theorem posT_of {t : Go.Camp.Tr} (h : TrOk t) : PosT t := by
 refine ⟨fun p q => ?_, fun i => ?_⟩
 ·unfold wayT
  cases hp : t.ways[p]? with
  | none => simp
  | some l =>
   cases hq : l[q]? with
   | none => simp [hq]
   | some x =>
    have := ((h.r l (List.mem_of_getElem? hp)).2 x (List.mem_of_getElem? hq)).1
    simp [hq]; omega
 ·unfold stopT
  cases hi : t.stops[i]? with
  | none => simp
  | some c =>
   have := h.s c (List.mem_of_getElem? hi)
   simp; omega
theorem end_nonneg {t : Go.Camp.Tr} (h : PosT t) : ∀ (k : List Nat) (p : Nat) (x e : Int), 0 ≤ x → endT t k p x = some e → 0 ≤ e := by
 intro k
 induction k with
 | nil =>
  intro p x e hx he
  simp only [endT, Option.some.injEq] at he
  have := h.w p 0
  omega
 | cons i k ih =>
  intro p x e hx he
  simp only [endT] at he
  split at he
  ·refine ih _ _ e ?_ he
   have := h.s i
   unfold leaveT begT
   omega
  ·cases he
theorem leave_nonneg {t : Go.Camp.Tr} (h : PosT t) (p i : Nat) (x : Int) : 0 ≤ leaveT t p i x := by
 have := h.s i
 unfold leaveT begT
 omega
/-- what has been chosen out of some orders is at least as good as each of them, and as what was there before -/
theorem upd_best {t : Go.Camp.Tr} (h : PosT t) {p : Nat} {x : Int} (hx : 0 ≤ x) (now : List Nat) : ∀ (K : List (List Nat)) (b : List Nat × Int),
  (0 ≤ b.2 → 0 ≤ (K.foldl (updR t p x now) b).2 ∧ (K.foldl (updR t p x now) b).2 ≤ b.2) ∧ (∀ k ∈ K, ∀ e, endT t k p x = some e → 0 ≤ (K.foldl (updR t p x now) b).2 ∧ (K.foldl (updR t p x now) b).2 ≤ e) ∧
  (K.foldl (updR t p x now) b = b ∨ ∃ k ∈ K, endT t k p x = some (K.foldl (updR t p x now) b).2 ∧ (K.foldl (updR t p x now) b).1 = now ++ k) := by
 intro K
 induction K with
 | nil => intro b; exact ⟨fun h => ⟨h, Int.le_refl _⟩, fun k hk => (by cases hk), .inl rfl⟩
 | cons k K ih =>
  intro b
  simp only [List.foldl_cons]
  obtain ⟨i1, i2, i3⟩ := ih (updR t p x now b k)
  generalize hu : updR t p x now b k = u at *
  generalize K.foldl (updR t p x now) u = r at *
  unfold updR at hu
  cases he : endT t k p x with
  | none =>
   rw [he] at hu
   simp only at hu
   subst hu
   refine ⟨i1, fun k' hk' e h' => ?_, ?_⟩
   ·rcases List.mem_cons.1 hk' with rfl | hk'
    ·rw [he] at h'; cases h'
    ·exact i2 k' hk' e h'
   ·rcases i3 with i3 | ⟨k', hk', i3⟩
    ·exact .inl i3
    ·exact .inr ⟨k', List.mem_cons_of_mem _ hk', i3⟩
  | some e0 =>
   have hp := end_nonneg h k p x e0 hx he
   rw [he] at hu
   simp only at hu
   split at hu
   ·rename_i hc
    subst hu
    obtain ⟨j1, j2⟩ := i1 hp
    simp only at j1 j2
    refine ⟨fun hb => ⟨j1, by omega⟩, fun k' hk' e h' => ?_, ?_⟩
    ·rcases List.mem_cons.1 hk' with rfl | hk'
     ·rw [he] at h'; cases h'; exact ⟨j1, j2⟩
     ·exact i2 k' hk' e h'
    ·rcases i3 with i3 | ⟨k', hk', i3⟩
     ·exact .inr ⟨k, by simp, by rw [i3]; exact he, by rw [i3]⟩
     ·exact .inr ⟨k', List.mem_cons_of_mem _ hk', i3⟩
   ·rename_i hc
    subst hu
    have hb : 0 ≤ b.2 := by omega
    obtain ⟨j1, j2⟩ := i1 hb
    refine ⟨i1, fun k' hk' e h' => ?_, ?_⟩
    ·rcases List.mem_cons.1 hk' with rfl | hk'
     ·rw [he] at h'; cases h'; exact ⟨j1, by omega⟩
     ·exact i2 k' hk' e h'
    ·rcases i3 with i3 | ⟨k', hk', i3⟩
     ·exact .inl i3
     ·exact .inr ⟨k', List.mem_cons_of_mem _ hk', i3⟩
theorem upd_id {t : Go.Camp.Tr} {p : Nat} {x : Int} (now : List Nat) : ∀ (K : List (List Nat)) (b : List Nat × Int), (∀ k ∈ K, ∀ e, endT t k p x = some e → 0 ≤ b.2 ∧ b.2 ≤ e) → K.foldl (updR t p x now) b = b := by
 intro K
 induction K with
 | nil => intro b _; rfl
 | cons k K ih =>
  intro b hb
  have e : updR t p x now b k = b := by
   unfold updR
   cases he : endT t k p x with
   | none => rfl
   | some e => have := hb k (by simp) e he; simp only; rw [if_neg (by omega)]
  rw [List.foldl_cons, e]
  exact ih b fun k' hk' => hb k' (by simp [hk'])
/-- what the search knows is right: entries of sets with no more than f stops left -/
structure RInv (t : Go.Camp.Tr) (n f : Nat) (s : Ms) : Prop where
 len : s.early.length = 2304
 done : ∀ f' d p, f' ≤ f → card n d + f' = n → d < 256 → p < 9 → 0 < getE s.early d p → ∀ k ∈ tails n f' d, ∀ e, endT t k p (getE s.early d p - 1) = some e → 0 ≤ s.least ∧ s.least ≤ e
theorem getE_set {l : List Int} (hl : l.length = 2304) {d p d' p' : Nat} {v : Int} (hd : d < 256) (hp : p < 9) (hp' : p' < 9) : getE (l.set (d * 9 + p) v) d' p' = if d' = d ∧ p' = p then v else getE l d' p' := by
 unfold getE
 rw [List.getElem?_set]
 by_cases h : d' = d ∧ p' = p
 ·obtain ⟨rfl, rfl⟩ := h
  rw [if_pos rfl, if_pos (by omega), if_pos ⟨rfl, rfl⟩]
  rfl
 ·rw [if_neg h, if_neg (by omega)]
theorem seen_id {t : Go.Camp.Tr} {n f d p : Nat} {x : Int} {now : List Nat} {s : Ms} (hs : RInv t n f s) (hc : card n d + f = n) (hd : d < 256) (hp : p < 9) (h : seen s d p x) : (tails n f d).foldl (updR t p x now) (s.best, s.least) = (s.best, s.least) := by
 refine upd_id now _ _ fun k hk e he => ?_
 have h' : 0 < getE s.early d p ∧ getE s.early d p ≤ x + 1 := h
 obtain ⟨e', he', hle⟩ := endT_mono t k p (getE s.early d p - 1) x e (by omega) he
 have := hs.done f d p (Nat.le_refl _) hc hd hp h'.1 k hk e' he'
 simp only
 omega
theorem more_spec {t : Go.Camp.Tr} {n : Nat} (hn : t.stops.length = n) (n8 : n ≤ 8) (hpos : PosT t) : ∀ (f d p : Nat) (x : Int) (now : List Nat) (s : Ms), card n d + f = n → d < 256 → p < 9 → 0 ≤ x → RInv t n f s →
  ((moreR t f d p x now s).best, (moreR t f d p x now s).least) = (tails n f d).foldl (updR t p x now) (s.best, s.least) ∧ RInv t n f (moreR t f d p x now s) ∧ ∀ d' p', d' < 256 → p' < 9 → card n d' + f < n → getE (moreR t f d p x now s).early d' p' = getE s.early d' p' := by
 intro f
 induction f with
 | zero =>
  intro d p x now s hc hd hp hx hs
  by_cases hse : seen s d p x
  ·rw [more_seen hse]
   exact ⟨(seen_id hs hc hd hp hse).symm, hs, fun _ _ _ _ _ => rfl⟩
  ·have hend : endT t [] p x = some (x + wayT t p 0) := rfl
   have key : ∀ r : Ms, r.early = s.early.set (d * 9 + p) (x + 1) → (r.best, r.least) = updR t p x now (s.best, s.least) [] → (r.best, r.least) = (tails n 0 d).foldl (updR t p x now) (s.best, s.least) ∧ RInv t n 0 r ∧ ∀ d' p', d' < 256 → p' < 9 → card n d' + 0 < n → getE r.early d' p' = getE s.early d' p' := by
    intro r hr hu
    have hu' : (r.best, r.least) = (tails n 0 d).foldl (updR t p x now) (s.best, s.least) := hu
    obtain ⟨u1, u2, _⟩ := upd_best hpos hx now (tails n 0 d) (s.best, s.least)
    rw [← hu'] at u1 u2
    refine ⟨hu', ⟨by rw [hr, List.length_set]; exact hs.len, fun f' d' p' hf' hc' hd' hp' hg k hk e he => ?_⟩, fun d' p' hd' hp' hc' => ?_⟩
    ·rw [hr, getE_set hs.len hd hp hp'] at hg he
     split at hg
     ·rename_i hdp
      obtain ⟨rfl, rfl⟩ := hdp
      rw [if_pos ⟨rfl, rfl⟩] at he
      obtain rfl : f' = 0 := by omega
      rw [show x + 1 - 1 = x by omega] at he
      exact u2 k hk e he
     ·rename_i hdp
      rw [if_neg hdp] at he
      obtain ⟨v1, v2⟩ := hs.done f' d' p' hf' hc' hd' hp' hg k hk e he
      have := u1 v1
      simp only at this
      omega
    ·rw [hr, getE_set hs.len hd hp hp', if_neg]
     rintro ⟨rfl, rfl⟩
     omega
   rw [more_zero hse]
   split
   ·rename_i hh
    exact key _ rfl (by simp only [updR, hend]; rw [if_pos hh]; simp)
   ·rename_i hh
    exact key _ rfl (by simp only [updR, hend]; rw [if_neg hh])
 | succ f ih =>
  intro d p x now s hc hd hp hx hs
  by_cases hse : seen s d p x
  ·rw [more_seen hse]
   exact ⟨(seen_id hs hc hd hp hse).symm, hs, fun _ _ _ _ _ => rfl⟩
  rw [more_succ hse, hn]
  have inner : ∀ (L : List Nat) (s : Ms), (∀ i ∈ L, i < n) → RInv t n f s →
    ((L.foldl (stepR t f d p x now) s).best, (L.foldl (stepR t f d p x now) s).least) = (L.flatMap fun i => if d.testBit i then [] else (tails n f (d ||| 2 ^ i)).map (i :: ·)).foldl (updR t p x now) (s.best, s.least) ∧ RInv t n f (L.foldl (stepR t f d p x now) s) ∧ ∀ d' p', d' < 256 → p' < 9 → card n d' + f < n → getE (L.foldl (stepR t f d p x now) s).early d' p' = getE s.early d' p' := by
   intro L
   induction L with
   | nil => intro s _ hs; exact ⟨rfl, hs, fun _ _ _ _ _ => rfl⟩
   | cons i L ihL =>
    intro s hL hs
    have hi := hL i (by simp)
    have step : ((stepR t f d p x now s i).best, (stepR t f d p x now s i).least) = (if d.testBit i then [] else (tails n f (d ||| 2 ^ i)).map (i :: ·)).foldl (updR t p x now) (s.best, s.least) ∧ RInv t n f (stepR t f d p x now s i) ∧ ∀ d' p', d' < 256 → p' < 9 → card n d' + f < n → getE (stepR t f d p x now s i).early d' p' = getE s.early d' p' := by
     unfold stepR
     cases hb : d.testBit i with
     | true => exact ⟨rfl, hs, fun _ _ _ _ _ => rfl⟩
     | false =>
      simp only [Bool.false_eq_true, if_false, List.foldl_map]
      have hcd := card_or hi hb
      have hd2 : d ||| 2 ^ i < 256 := Nat.or_lt_two_pow (n := 8) hd (Nat.pow_lt_pow_right (by omega) (by omega))
      cases hok : okT t p i x with
      | true =>
       simp only [if_true]
       have := ih (d ||| 2 ^ i) (i + 1) (leaveT t p i x) (now ++ [i]) s (by omega) hd2 (by omega) (leave_nonneg hpos _ _ _) hs
       refine ⟨?_, this.2⟩
       rw [this.1]
       congr 1
       funext b k
       simp only [updR, endT, hok, if_true]
       cases endT t k (i + 1) (leaveT t p i x) with
       | none => rfl
       | some e => simp
      | false =>
       simp only [Bool.false_eq_true, if_false]
       refine ⟨?_, hs, by intros; first | rfl | trivial⟩
       have e : (fun (b : List Nat × Int) (k : List Nat) => updR t p x now b (i :: k)) = fun b _ => b := by
        funext b k
        simp only [updR, endT, hok, Bool.false_eq_true, if_false]
       rw [e]
       generalize tails n f (d ||| 2 ^ i) = K
       generalize (s.best, s.least) = b
       induction K with
       | nil => rfl
       | cons _ K ihK => exact ihK
    obtain ⟨g1, g2, g3⟩ := step
    obtain ⟨k1, k2, k3⟩ := ihL (stepR t f d p x now s i) (fun j hj => hL j (by simp [hj])) g2
    refine ⟨?_, k2, fun d' p' hd' hp' hc' => by rw [List.foldl_cons, k3 d' p' hd' hp' hc', g3 d' p' hd' hp' hc']⟩
    rw [List.foldl_cons, k1, g1, List.flatMap_cons, List.foldl_append]
  have hs1 : RInv t n f ⟨s.early.set (d * 9 + p) (x + 1), s.best, s.least⟩ := by
   refine ⟨by simp [hs.len], fun f' d' p' hf' hc' hd' hp' hg k hk e he => ?_⟩
   simp only at hg he ⊢
   rw [getE_set hs.len hd hp hp', if_neg (by rintro ⟨rfl, rfl⟩; omega)] at hg he
   exact hs.done f' d' p' (by omega) hc' hd' hp' hg k hk e he
  obtain ⟨g1, g2, g3⟩ := inner (List.range n) _ (fun i hi => List.mem_range.1 hi) hs1
  simp only at g1 g3
  generalize (List.range n).foldl (stepR t f d p x now) ⟨s.early.set (d * 9 + p) (x + 1), s.best, s.least⟩ = r at *
  have g1' : (r.best, r.least) = (tails n (f + 1) d).foldl (updR t p x now) (s.best, s.least) := g1
  obtain ⟨u1, u2, _⟩ := upd_best hpos hx now (tails n (f + 1) d) (s.best, s.least)
  rw [← g1'] at u1 u2
  refine ⟨g1', ⟨g2.len, fun f' d' p' hf' hc' hd' hp' hg k hk e he => ?_⟩, fun d' p' hd' hp' hc' => ?_⟩
  ·rcases Nat.lt_or_ge f' (f + 1) with h' | h'
   ·exact g2.done f' d' p' (by omega) hc' hd' hp' hg k hk e he
   ·obtain rfl : f' = f + 1 := by omega
    rw [g3 d' p' hd' hp' (by omega), getE_set hs.len hd hp hp'] at hg he
    split at hg
    ·rename_i hdp
     obtain ⟨rfl, rfl⟩ := hdp
     rw [if_pos ⟨rfl, rfl⟩, show x + 1 - 1 = x by omega] at he
     exact u2 k hk e he
    ·rename_i hdp
     rw [if_neg hdp] at he
     obtain ⟨v1, v2⟩ := hs.done (f + 1) d' p' (Nat.le_refl _) hc' hd' hp' hg k hk e he
     have := u1 v1
     simp only at this
     omega
  ·rw [g3 d' p' hd' hp' (by omega), getE_set hs.len hd hp hp', if_neg]
   rintro ⟨rfl, rfl⟩
   omega
/-- the round is the first of the best orders -/
theorem round_spec {t : Go.Camp.Tr} (h : TrOk t) : ((roundP t).best, (roundP t).least) = (tails t.stops.length t.stops.length 0).foldl (updR t 0 0 []) ([], -1) := by
 refine (more_spec rfl h.n8 (posT_of h) t.stops.length 0 0 0 [] _ (by rw [card_zero]; omega) (by omega) (by omega) (by omega) ⟨List.length_replicate, fun f' d p _ _ _ _ hg => ?_⟩).1
 have e : getE (List.replicate 2304 0) d p = 0 := by
  unfold getE
  rw [List.getElem?_replicate]
  split <;> rfl
 rw [e] at hg
 omega
theorem mem_tails {n : Nat} : ∀ (f d : Nat) (k : List Nat), k ∈ tails n f d ↔ k.length = f ∧ k.Nodup ∧ ∀ i ∈ k, i < n ∧ d.testBit i = false := by
 intro f
 induction f with
 | zero =>
  intro d k
  simp only [tails, List.mem_singleton]
  constructor
  ·rintro rfl; simp
  ·rintro ⟨h, _⟩; exact List.length_eq_zero_iff.1 h
 | succ f ih =>
  intro d k
  simp only [tails, List.mem_flatMap, List.mem_range]
  constructor
  ·rintro ⟨i, hi, h⟩
   cases hb : d.testBit i with
   | true => rw [hb] at h; simp at h
   | false =>
    rw [hb] at h
    simp only [Bool.false_eq_true, if_false, List.mem_map] at h
    obtain ⟨k', hk', rfl⟩ := h
    obtain ⟨h1, h2, h3⟩ := (ih _ _).1 hk'
    refine ⟨by simp [h1], List.nodup_cons.2 ⟨fun hm => ?_, h2⟩, fun j hj => ?_⟩
    ·have := (h3 i hm).2
     rw [Nat.testBit_or, Nat.testBit_two_pow] at this
     simp at this
    ·rcases List.mem_cons.1 hj with rfl | hj
     ·exact ⟨hi, hb⟩
     ·have h4 := h3 j hj
      rw [Nat.testBit_or] at h4
      refine ⟨h4.1, ?_⟩
      have := h4.2
      cases hx : d.testBit j with
      | false => rfl
      | true => rw [hx] at this; simp at this
  ·rintro ⟨h1, h2, h3⟩
   cases k with
   | nil => simp at h1
   | cons i k =>
    obtain ⟨hi, hb⟩ := h3 i (by simp)
    obtain ⟨n1, n2⟩ := List.nodup_cons.1 h2
    refine ⟨i, hi, ?_⟩
    rw [hb]
    simp only [Bool.false_eq_true, if_false, List.mem_map]
    refine ⟨k, (ih _ _).2 ⟨by simpa using h1, n2, fun j hj => ?_⟩, rfl⟩
    obtain ⟨j1, j2⟩ := h3 j (by simp [hj])
    refine ⟨j1, ?_⟩
    rw [Nat.testBit_or, Nat.testBit_two_pow, j2]
    have : i ≠ j := fun e => n1 (e ▸ hj)
    simp [this]
theorem nodup_iN {k : List Nat} : (iN k).Nodup ↔ k.Nodup := by
 unfold iN List.Nodup
 rw [List.pairwise_map]
 exact ⟨fun h => h.imp fun h e => h (by rw [e]), fun h => h.imp fun h e => h (by omega)⟩
theorem ord_tails {n : Nat} {k : List Nat} : OrdOk n (iN k) ↔ k ∈ tails n n 0 := by
 rw [mem_tails]
 constructor
 ·intro h
  refine ⟨by have := h.len; simpa [iN] using this, ?_, fun i hi => ⟨?_, by simp⟩⟩
  ·exact nodup_iN.1 h.nd
  ·have := h.lt (i : Int) (List.mem_map.2 ⟨i, hi, rfl⟩)
   omega
 ·rintro ⟨h1, h2, h3⟩
  refine ⟨by simpa [iN] using h1, ?_, fun x hx => ?_⟩
  ·exact nodup_iN.2 h2
  ·obtain ⟨i, hi, rfl⟩ := List.mem_map.1 hx
   have := (h3 i hi).1
   omega
/-- the best order ends no later than any order -/
theorem round_best {t : Go.Camp.Tr} (h : TrOk t) : (∀ k e, OrdOk t.stops.length (iN k) → endT t k 0 0 = some e → 0 ≤ (roundP t).least ∧ (roundP t).least ≤ e) ∧ (0 ≤ (roundP t).least → OrdOk t.stops.length (iN (roundP t).best) ∧ endT t (roundP t).best 0 0 = some (roundP t).least) := by
 obtain ⟨u1, u2, u3⟩ := upd_best (posT_of h) (p := 0) (Int.le_refl 0) [] (tails t.stops.length t.stops.length 0) ([], -1)
 rw [← round_spec h] at u1 u2 u3
 refine ⟨fun k e hk he => u2 k (ord_tails.1 hk) e he, fun h0 => ?_⟩
 rcases u3 with u3 | ⟨k, hk, u3, u4⟩
 ·injection u3 with _ u3
  omega
 ·simp only [List.nil_append] at u3 u4
  rw [u4]
  exact ⟨ord_tails.2 hk, u3⟩
end Go.Proofs.Yteenhfnamjbaiaa
