/- The walk of CampSchedules. -/
import Derived.Test.YteenhfnamjbaiaaK1
import Derived.Test.YteenhfnamjbaiaaR5
import Derived.Test.YteenhfnamjbaiaaE4
namespace Go.Proofs.Yteenhfnamjbaiaa
open Go.Ev Go.Proofs
open Go.Camp (Stk Sup SupOk DyOk okN nextN safeN runs sooner best most)
attribute [local irreducible] At AtH
open Q (outN outN_len outN_low outN_high) in
theorem outN_all : ∀ (l : List Bool), ∃ b, b < 2 ^ l.length ∧ outN l.length b = l := by
  have h : ∀ r : List Bool, ∃ b, b < 2 ^ r.reverse.length ∧ outN r.reverse.length b = r.reverse := by
    intro r
    induction r with
    | nil => exact ⟨0, by decide, rfl⟩
    | cons x r ih =>
      obtain ⟨b, hb, he⟩ := ih
      rw [List.reverse_cons, List.length_append]
      have hp : 2 ^ (r.reverse.length + 1) = 2 ^ r.reverse.length + 2 ^ r.reverse.length := by rw [Nat.pow_succ]; omega
      cases x with
      | false => exact ⟨b, by show b < 2 ^ (r.reverse.length + 1); omega, by show outN (r.reverse.length + 1) b = _; rw [outN_low hb, he]⟩
      | true => exact ⟨2 ^ r.reverse.length + b, by show 2 ^ r.reverse.length + b < 2 ^ (r.reverse.length + 1); omega, by show outN (r.reverse.length + 1) _ = _; rw [outN_high hb, he]⟩
  intro l
  have := h l.reverse
  rwa [List.reverse_reverse] at this
theorem sooner_irr : ∀ l : List Bool, sooner l l = false := by
  intro l
  induction l with
  | nil => rfl
  | cons a l ih => simp [sooner, ih]
theorem sooner_tr : ∀ l m n : List Bool, sooner l m = true → sooner m n = true → l.length = m.length → m.length = n.length → sooner l n = true := by
  intro l
  induction l with
  | nil => intro m n h _ _ _; cases m <;> simp [sooner] at h
  | cons a l ih =>
    intro m n h h2 e1 e2
    cases m with
    | nil => simp at e1
    | cons b m =>
      cases n with
      | nil => simp at e2
      | cons c n =>
        simp only [List.length_cons, Nat.add_right_cancel_iff] at e1 e2
        simp only [sooner] at h h2 ⊢
        cases a <;> cases b <;> cases c <;> simp_all
        all_goals exact ih m n h h2 (by omega) (by omega)
/-- what the search has after k schedules -/
structure SchI (a : Sup) (k : Nat) (l : List Bool) (met : Bool) : Prop where
  no : met = false → l = [] ∧ ∀ b, b < k → safeN a a.days (Q.outN a.days.length b) a.b = false
  yes : met = true → l.length = a.days.length ∧ safeN a a.days l a.b = true ∧ ∀ b, b < k → safeN a a.days (Q.outN a.days.length b) a.b = true → runs (Q.outN a.days.length b) ≤ runs l ∧ (runs (Q.outN a.days.length b) = runs l → sooner (Q.outN a.days.length b) l = false)
theorem SchI.keep {a : Sup} {k : Nat} {l : List Bool} {met : Bool} (h : SchI a k l met) (hk : safeN a a.days (Q.outN a.days.length k) a.b = true → met = true ∧ runs (Q.outN a.days.length k) ≤ runs l ∧ (runs (Q.outN a.days.length k) = runs l → sooner (Q.outN a.days.length k) l = false)) : SchI a (k + 1) l met := by
  refine ⟨fun hm => ⟨(h.no hm).1, fun b hb => ?_⟩, fun hm => ⟨(h.yes hm).1, (h.yes hm).2.1, fun b hb hs => ?_⟩⟩
  · rcases Nat.lt_or_ge b k with h' | h'
    · exact (h.no hm).2 b h'
    · obtain rfl : b = k := by omega
      cases hs : safeN a a.days (Q.outN a.days.length b) a.b with
      | false => rfl
      | true => rw [hm] at hk; have := (hk hs).1; cases this
  · rcases Nat.lt_or_ge b k with h' | h'
    · exact (h.yes hm).2.2 b h' hs
    · obtain rfl : b = k := by omega
      exact (hk hs).2
theorem SchI.new {a : Sup} {k : Nat} {l : List Bool} {met : Bool} (h : SchI a k l met) (hs : safeN a a.days (Q.outN a.days.length k) a.b = true) (hk : met = true → runs l < runs (Q.outN a.days.length k) ∨ (runs (Q.outN a.days.length k) = runs l ∧ sooner (Q.outN a.days.length k) l = true)) : SchI a (k + 1) (Q.outN a.days.length k) true := by
  refine ⟨(fun h => by cases h), fun _ => ⟨Q.outN_len _ _, hs, fun b hb hs' => ?_⟩⟩
  rcases Nat.lt_or_ge b k with h' | h'
  · cases hm : met with
    | false => have := (h.no hm).2 b h'; rw [this] at hs'; cases hs'
    | true =>
      obtain ⟨e1, _, e2⟩ := h.yes hm
      obtain ⟨e3, e4⟩ := e2 b h' hs'
      rcases hk hm with h5 | ⟨h5, h6⟩
      · exact ⟨by omega, fun h => by omega⟩
      · refine ⟨by omega, fun h7 => ?_⟩
        cases hso : sooner (Q.outN a.days.length b) (Q.outN a.days.length k) with
        | false => rfl
        | true =>
          have := sooner_tr _ _ _ hso h6 (by rw [Q.outN_len, Q.outN_len]) (by rw [Q.outN_len, e1])
          rw [e4 (by omega)] at this
          cases this
  · obtain rfl : b = k := by omega
    exact ⟨Nat.le_refl _, fun _ => sooner_irr _⟩
/-- which is the program's best one -/
theorem SchI.fin {a : Sup} {l : List Bool} {met : Bool} (h : SchI a (2 ^ a.days.length) l met) : (met = false → most a a.days a.b < 0 ∧ l = []) ∧ (met = true → 0 ≤ most a a.days a.b ∧ l = best a a.days a.b) := by
  have hP : 0 ≤ most a a.days a.b → ∃ b, b < 2 ^ a.days.length ∧ Q.outN a.days.length b = best a a.days a.b := fun _ => by
    obtain ⟨b, hb, he⟩ := outN_all (best a a.days a.b)
    rw [Go.Camp.best_len] at hb he
    exact ⟨b, hb, he⟩
  constructor
  · intro hm
    refine ⟨?_, (h.no hm).1⟩
    rcases Int.lt_or_le (most a a.days a.b) 0 with h' | h'
    · exact h'
    · obtain ⟨b, hb, he⟩ := hP h'
      have h1 := (h.no hm).2 b hb
      rw [he, (Go.Camp.best_ok a a.days a.b h').1] at h1
      cases h1
  · intro hm
    obtain ⟨e1, e2, e3⟩ := h.yes hm
    have up := Go.Camp.most_up a a.days a.b l e1 e2
    have h0 : 0 ≤ most a a.days a.b := by omega
    refine ⟨h0, ?_⟩
    obtain ⟨b, hb, he⟩ := hP h0
    obtain ⟨o1, o2⟩ := Go.Camp.best_ok a a.days a.b h0
    have h3 := e3 b hb (by rw [he]; exact o1)
    rw [he] at h3
    have hr : (runs l : Int) = most a a.days a.b := by have := h3.1; omega
    have hf := Go.Camp.best_first a a.days a.b l e1 e2 hr
    have hg := h3.2 (by omega)
    by_cases hne : l = best a a.days a.b
    · exact hne
    · rcases Go.Camp.sooner_total l (best a a.days a.b) (by rw [e1, Go.Camp.best_len]) hne with h | h
      · rw [hf] at h; cases h
      · rw [hg] at h; cases h
set_option maxRecDepth 20000 in
set_option maxHeartbeats 16000000 in
theorem rSchedule_any (m : Sm) (w0 : World) (H : SuM w0 m) (ha : SupOk m.a) (h7 : m.a.days.length ≤ 7) : Ret Try.prog 29 [.agg (suL m).toArray] w0 fun v w' => Chg No w0 w' ∧ ∃ A c l met, v = .tuple #[.slice A l.length c, .bool met] ∧ w'.ownsRow w0.heap.size 4 1 (.slice A l.length c) l.length (bL l) ∧ SchI m.a (2 ^ m.a.days.length) l met := by
  have hp : 2 ^ m.a.days.length ≤ 128 := Nat.le_trans (Nat.pow_le_pow_right (by decide) h7) (by decide)
  refine enter Try.func29 rfl Try.ntmps29 rfl ?_
  refine go TL_ok 200 rfl ?_
  refine bx rfl rfl rfl (cs := suL m) rfl ?_
  intro g1 u1 hg1 hs1 q1 B1
  have q := q1
  refine go TL_ok 200 rfl ?_
  refine loop [1, 4, 5, 6] (fun x : Nat × Option Addr × Nat × List Bool × Bool => [.pointer (some ⟨g1, 0, none⟩), .slice x.2.1 x.2.2.2.1.length x.2.2.1, .bool x.2.2.2.2, .int .i64 (x.1 : Int)])
    (fun x w' => x.1 ≤ 2 ^ m.a.days.length ∧ Chg No w0 w' ∧ Bk w' g1 44 (suL m) ∧ w'.ownsRow w0.heap.size 4 1 (.slice x.2.1 x.2.2.2.1.length x.2.2.1) x.2.2.2.1.length (bL x.2.2.2.1) ∧ SchI m.a x.1 x.2.2.2.1 x.2.2.2.2) (fun x => 2 ^ m.a.days.length - x.1) (0, none, 0, [], false) (fun _ => rfl) rfl ⟨Nat.zero_le _, q, B1, own_nil, ⟨fun _ => ⟨rfl, fun b h => absurd h (Nat.not_lt_zero _)⟩, (fun h => by cases h)⟩⟩ ?_
  rintro ⟨k, A, c, l, met⟩ τ w ⟨hk, q, B1, own, hI⟩
  simp only at hk own hI
  dsimp only
  refine go TL_ok 200 rfl ?_
  repeat (first | (refine ldA TL_ok rfl rfl rfl rfl rfl (Bk.all B1) ?_; refine go TL_ok 200 rfl ?_) | (refine ld TL_ok rfl rfl rfl rfl (Bk.get B1 rfl) ?_; refine go TL_ok 200 rfl ?_) | (refine guardA (b := true) rfl rfl rfl rfl (fun _ => ?_) (fun e => by cases e); refine go TL_ok 200 rfl ?_) | (refine guardA (b := false) rfl rfl rfl rfl (fun e => by cases e) (fun _ => ?_); refine go TL_ok 200 rfl ?_) | (refine condT rfl rfl ?_; refine go TL_ok 200 rfl ?_) | (refine condF rfl rfl ?_; refine go TL_ok 200 rfl ?_))
  refine shl rfl rfl rfl rfl m.a.days.length rfl (by omega) ?_
  have e2 : w64 ((1 : Int) * 2 ^ m.a.days.length) = ((2 ^ m.a.days.length : Nat) : Int) := by
    have e0 : ((1 : Int) * 2 ^ m.a.days.length) = ((2 ^ m.a.days.length : Nat) : Int) := by simp
    rw [e0]
    generalize 2 ^ m.a.days.length = k at *
    exact w64_id (by omega) (by omega)
  rw [e2]
  obtain ⟨N, hN⟩ : ∃ N, N = 2 ^ m.a.days.length := ⟨_, rfl⟩
  rw [← hN] at hp hk ⊢
  refine go TL_ok 200 rfl ?_
  refine condD rfl (fun hlt => ?_) (fun hlt => ?_)
  · have hlt : k < N := by have : (k : Int) < (N : Int) := hlt; omega
    refine go TL_ok 200 rfl ?_
    repeat (first | (refine ldA TL_ok rfl rfl rfl rfl rfl (Bk.all B1) ?_; refine go TL_ok 200 rfl ?_) | (refine ld TL_ok rfl rfl rfl rfl (Bk.get B1 rfl) ?_; refine go TL_ok 200 rfl ?_) | (refine guardA (b := true) rfl rfl rfl rfl (fun _ => ?_) (fun e => by cases e); refine go TL_ok 200 rfl ?_) | (refine guardA (b := false) rfl rfl rfl rfl (fun e => by cases e) (fun _ => ?_); refine go TL_ok 200 rfl ?_) | (refine condT rfl rfl ?_; refine go TL_ok 200 rfl ?_) | (refine condF rfl rfl ?_; refine go TL_ok 200 rfl ?_))
    refine call rfl rfl rfl (ok _ (by decide) rfl) (Q.Outcome_any m.a.days.length k _ (by omega) (by omega)) ?_
    rintro v w2 ⟨A2, c2, rfl, qk, own2⟩
    have B1 := B1.no qk
    have own := own_no own qk
    have own2 := own_base own2 q.size
    have q := q.trans qk
    have hol := Q.outN_len m.a.days.length k
    have S2 : Sl w2 w2.heap.size 1 A2 (Q.outN m.a.days.length k).length (bL (Q.outN m.a.days.length k)) := by rw [hol]; exact own_sl own2
    have S1 := own_sl own
    have hll : l.length ≤ 7 := by
      cases met with
      | false => rw [(hI.no rfl).1]; simp
      | true => rw [(hI.yes rfl).1]; exact h7
    refine go TL_ok 200 rfl ?_
    repeat (first | (refine ldA TL_ok rfl rfl rfl rfl rfl (Bk.all B1) ?_; refine go TL_ok 200 rfl ?_) | (refine ld TL_ok rfl rfl rfl rfl (Bk.get B1 rfl) ?_; refine go TL_ok 200 rfl ?_) | (refine guardA (b := true) rfl rfl rfl rfl (fun _ => ?_) (fun e => by cases e); refine go TL_ok 200 rfl ?_) | (refine guardA (b := false) rfl rfl rfl rfl (fun e => by cases e) (fun _ => ?_); refine go TL_ok 200 rfl ?_) | (refine condT rfl rfl ?_; refine go TL_ok 200 rfl ?_) | (refine condF rfl rfl ?_; refine go TL_ok 200 rfl ?_))
    have X := rSafe_any m (Q.outN m.a.days.length k) A2 c2 _ w2 (H.no q) ha S2 hol
    rw [hol] at X
    refine call rfl rfl rfl (ok _ (by decide) rfl) X ?_
    rintro v w3 ⟨rfl, qk⟩
    have B1 := B1.no qk
    have own := own_no own qk
    have own2 := own_no own2 qk
    have S1 := S1.no qk
    have S2 := S2.no qk
    have q := q.trans qk
    cases hs : safeN m.a m.a.days (Q.outN m.a.days.length k) m.a.b with
    | false =>
      refine go TL_ok 200 rfl ?_
      repeat (first | (refine ldA TL_ok rfl rfl rfl rfl rfl (Bk.all B1) ?_; refine go TL_ok 200 rfl ?_) | (refine ld TL_ok rfl rfl rfl rfl (Bk.get B1 rfl) ?_; refine go TL_ok 200 rfl ?_) | (refine guardA (b := true) rfl rfl rfl rfl (fun _ => ?_) (fun e => by cases e); refine go TL_ok 200 rfl ?_) | (refine guardA (b := false) rfl rfl rfl rfl (fun e => by cases e) (fun _ => ?_); refine go TL_ok 200 rfl ?_) | (refine condT rfl rfl ?_; refine go TL_ok 200 rfl ?_) | (refine condF rfl rfl ?_; refine go TL_ok 200 rfl ?_))
      rw [w64_id (x := (k : Int) + 1) (by omega) (by omega)]
      exact round ⟨(k + 1, A, c, l, met), rfl, ⟨by simp only; omega, q, B1, own, hI.keep (fun h => (by rw [hs] at h; cases h))⟩, by simp only; omega⟩
    | true =>
    cases met with
    | false =>
      refine go TL_ok 200 rfl ?_
      repeat (first | (refine ldA TL_ok rfl rfl rfl rfl rfl (Bk.all B1) ?_; refine go TL_ok 200 rfl ?_) | (refine ld TL_ok rfl rfl rfl rfl (Bk.get B1 rfl) ?_; refine go TL_ok 200 rfl ?_) | (refine guardA (b := true) rfl rfl rfl rfl (fun _ => ?_) (fun e => by cases e); refine go TL_ok 200 rfl ?_) | (refine guardA (b := false) rfl rfl rfl rfl (fun e => by cases e) (fun _ => ?_); refine go TL_ok 200 rfl ?_) | (refine condT rfl rfl ?_; refine go TL_ok 200 rfl ?_) | (refine condF rfl rfl ?_; refine go TL_ok 200 rfl ?_))
      rw [w64_id (x := (k : Int) + 1) (by omega) (by omega)]
      exact round ⟨(k + 1, A2, c2, Q.outN m.a.days.length k, true), by simp only [hol]; rfl, ⟨by simp only; omega, q, B1, by simp only [hol]; exact own2, hI.new hs (fun h => (by cases h))⟩, by simp only; omega⟩
    | true =>
    have Rn := fun w' (S : Sl w' w2.heap.size 1 A2 (Q.outN m.a.days.length k).length (bL (Q.outN m.a.days.length k))) => Runs_any (Q.outN m.a.days.length k) A2 c2 _ w' S (by omega)
    rw [hol] at Rn
    have S2' := S2
    rw [hol] at S2'
    refine go TL_ok 200 rfl ?_
    repeat (first | (refine ldA TL_ok rfl rfl rfl rfl rfl (Bk.all B1) ?_; refine go TL_ok 200 rfl ?_) | (refine ld TL_ok rfl rfl rfl rfl (Bk.get B1 rfl) ?_; refine go TL_ok 200 rfl ?_) | (refine guardA (b := true) rfl rfl rfl rfl (fun _ => ?_) (fun e => by cases e); refine go TL_ok 200 rfl ?_) | (refine guardA (b := false) rfl rfl rfl rfl (fun e => by cases e) (fun _ => ?_); refine go TL_ok 200 rfl ?_) | (refine condT rfl rfl ?_; refine go TL_ok 200 rfl ?_) | (refine condF rfl rfl ?_; refine go TL_ok 200 rfl ?_))
    refine call rfl rfl rfl (ok _ (by decide) rfl) (Rn _ S2') ?_
    rintro v w4 ⟨rfl, rfl⟩
    refine go TL_ok 200 rfl ?_
    refine call rfl rfl rfl (ok _ (by decide) rfl) (Runs_any l A c _ _ S1 (by omega)) ?_
    rintro v w4 ⟨rfl, rfl⟩
    refine go TL_ok 200 rfl ?_
    by_cases h1 : (runs l : Int) < (runs (Q.outN m.a.days.length k) : Int)
    case pos =>
      rw [decide_eq_true h1]
      refine go TL_ok 200 rfl ?_
      repeat (first | (refine ldA TL_ok rfl rfl rfl rfl rfl (Bk.all B1) ?_; refine go TL_ok 200 rfl ?_) | (refine ld TL_ok rfl rfl rfl rfl (Bk.get B1 rfl) ?_; refine go TL_ok 200 rfl ?_) | (refine guardA (b := true) rfl rfl rfl rfl (fun _ => ?_) (fun e => by cases e); refine go TL_ok 200 rfl ?_) | (refine guardA (b := false) rfl rfl rfl rfl (fun e => by cases e) (fun _ => ?_); refine go TL_ok 200 rfl ?_) | (refine condT rfl rfl ?_; refine go TL_ok 200 rfl ?_) | (refine condF rfl rfl ?_; refine go TL_ok 200 rfl ?_))
      rw [w64_id (x := (k : Int) + 1) (by omega) (by omega)]
      exact round ⟨(k + 1, A2, c2, Q.outN m.a.days.length k, true), by simp only [hol]; rfl, ⟨by simp only; omega, q, B1, by simp only [hol]; exact own2, hI.new hs (fun _ => .inl (by omega))⟩, by simp only; omega⟩
    rw [decide_eq_false h1]
    refine go TL_ok 200 rfl ?_
    repeat (first | (refine ldA TL_ok rfl rfl rfl rfl rfl (Bk.all B1) ?_; refine go TL_ok 200 rfl ?_) | (refine ld TL_ok rfl rfl rfl rfl (Bk.get B1 rfl) ?_; refine go TL_ok 200 rfl ?_) | (refine guardA (b := true) rfl rfl rfl rfl (fun _ => ?_) (fun e => by cases e); refine go TL_ok 200 rfl ?_) | (refine guardA (b := false) rfl rfl rfl rfl (fun e => by cases e) (fun _ => ?_); refine go TL_ok 200 rfl ?_) | (refine condT rfl rfl ?_; refine go TL_ok 200 rfl ?_) | (refine condF rfl rfl ?_; refine go TL_ok 200 rfl ?_))
    refine call rfl rfl rfl (ok _ (by decide) rfl) (Rn _ S2') ?_
    rintro v w4 ⟨rfl, rfl⟩
    refine go TL_ok 200 rfl ?_
    refine call rfl rfl rfl (ok _ (by decide) rfl) (Runs_any l A c _ _ S1 (by omega)) ?_
    rintro v w4 ⟨rfl, rfl⟩
    refine go TL_ok 200 rfl ?_
    by_cases h2 : runs (Q.outN m.a.days.length k) = runs l
    case neg =>
      have e : ((runs (Q.outN m.a.days.length k) : Int) == (runs l : Int)) = false := by simp; omega
      rw [e]
      refine go TL_ok 200 rfl ?_
      repeat (first | (refine ldA TL_ok rfl rfl rfl rfl rfl (Bk.all B1) ?_; refine go TL_ok 200 rfl ?_) | (refine ld TL_ok rfl rfl rfl rfl (Bk.get B1 rfl) ?_; refine go TL_ok 200 rfl ?_) | (refine guardA (b := true) rfl rfl rfl rfl (fun _ => ?_) (fun e => by cases e); refine go TL_ok 200 rfl ?_) | (refine guardA (b := false) rfl rfl rfl rfl (fun e => by cases e) (fun _ => ?_); refine go TL_ok 200 rfl ?_) | (refine condT rfl rfl ?_; refine go TL_ok 200 rfl ?_) | (refine condF rfl rfl ?_; refine go TL_ok 200 rfl ?_))
      rw [w64_id (x := (k : Int) + 1) (by omega) (by omega)]
      exact round ⟨(k + 1, A, c, l, true), rfl, ⟨by simp only; omega, q, B1, own, hI.keep (fun _ => ⟨rfl, by omega, fun h => absurd h h2⟩)⟩, by simp only; omega⟩
    have e : ((runs (Q.outN m.a.days.length k) : Int) == (runs l : Int)) = true := by simp; omega
    rw [e]
    refine go TL_ok 200 rfl ?_
    repeat (first | (refine ldA TL_ok rfl rfl rfl rfl rfl (Bk.all B1) ?_; refine go TL_ok 200 rfl ?_) | (refine ld TL_ok rfl rfl rfl rfl (Bk.get B1 rfl) ?_; refine go TL_ok 200 rfl ?_) | (refine guardA (b := true) rfl rfl rfl rfl (fun _ => ?_) (fun e => by cases e); refine go TL_ok 200 rfl ?_) | (refine guardA (b := false) rfl rfl rfl rfl (fun e => by cases e) (fun _ => ?_); refine go TL_ok 200 rfl ?_) | (refine condT rfl rfl ?_; refine go TL_ok 200 rfl ?_) | (refine condF rfl rfl ?_; refine go TL_ok 200 rfl ?_))
    have X := Sooner_any (Q.outN m.a.days.length k) l A2 A c2 c _ _ w3 S2 S1 (by omega)
    rw [hol] at X
    refine call rfl rfl rfl (ok _ (by decide) rfl) X ?_
    rintro v w4 ⟨rfl, qk⟩
    have B1 := B1.no qk
    have own := own_no own qk
    have own2 := own_no own2 qk
    have q := q.trans qk
    cases h3 : sooner (Q.outN m.a.days.length k) l with
    | true =>
      refine go TL_ok 200 rfl ?_
      repeat (first | (refine ldA TL_ok rfl rfl rfl rfl rfl (Bk.all B1) ?_; refine go TL_ok 200 rfl ?_) | (refine ld TL_ok rfl rfl rfl rfl (Bk.get B1 rfl) ?_; refine go TL_ok 200 rfl ?_) | (refine guardA (b := true) rfl rfl rfl rfl (fun _ => ?_) (fun e => by cases e); refine go TL_ok 200 rfl ?_) | (refine guardA (b := false) rfl rfl rfl rfl (fun e => by cases e) (fun _ => ?_); refine go TL_ok 200 rfl ?_) | (refine condT rfl rfl ?_; refine go TL_ok 200 rfl ?_) | (refine condF rfl rfl ?_; refine go TL_ok 200 rfl ?_))
      rw [w64_id (x := (k : Int) + 1) (by omega) (by omega)]
      exact round ⟨(k + 1, A2, c2, Q.outN m.a.days.length k, true), by simp only [hol]; rfl, ⟨by simp only; omega, q, B1, by simp only [hol]; exact own2, hI.new hs (fun _ => .inr ⟨h2, h3⟩)⟩, by simp only; omega⟩
    | false =>
      refine go TL_ok 200 rfl ?_
      repeat (first | (refine ldA TL_ok rfl rfl rfl rfl rfl (Bk.all B1) ?_; refine go TL_ok 200 rfl ?_) | (refine ld TL_ok rfl rfl rfl rfl (Bk.get B1 rfl) ?_; refine go TL_ok 200 rfl ?_) | (refine guardA (b := true) rfl rfl rfl rfl (fun _ => ?_) (fun e => by cases e); refine go TL_ok 200 rfl ?_) | (refine guardA (b := false) rfl rfl rfl rfl (fun e => by cases e) (fun _ => ?_); refine go TL_ok 200 rfl ?_) | (refine condT rfl rfl ?_; refine go TL_ok 200 rfl ?_) | (refine condF rfl rfl ?_; refine go TL_ok 200 rfl ?_))
      rw [w64_id (x := (k : Int) + 1) (by omega) (by omega)]
      exact round ⟨(k + 1, A, c, l, true), rfl, ⟨by simp only; omega, q, B1, own, hI.keep (fun _ => ⟨rfl, by omega, fun _ => h3⟩)⟩, by simp only; omega⟩
  · obtain rfl : k = N := by have : ¬ (k : Int) < (N : Int) := hlt; omega
    refine go TL_ok 200 rfl ?_
    exact ret (ret2 (v := .slice A l.length c) (x := .bool met) Try.results29 rfl rfl ⟨q, A, c, l, met, rfl, own, hI⟩)
set_option maxRecDepth 20000 in
set_option maxHeartbeats 8000000 in
theorem walk_CampSchedules (m : Sm) (w0 : World) (hm : InS w0 m) : Ret Try.prog 4 [.agg (suL m).toArray] w0 fun x w' => x = .bool true ∧ Chg No w0 w' := by
  have Hm := hm.m
  refine enter Try.func4 rfl Try.ntmps4 rfl ?_
  refine go TL_ok 200 rfl ?_
  refine bx rfl rfl rfl (cs := suL m) rfl ?_
  intro g1 u1 hg1 hs1 q1 B1
  have q := q1
  have Hm := Hm.no q
  refine go TL_ok 200 rfl ?_
  repeat (first | (refine ldA TL_ok rfl rfl rfl rfl rfl (Bk.all B1) ?_; refine go TL_ok 200 rfl ?_) | (refine ld TL_ok rfl rfl rfl rfl (Bk.get B1 rfl) ?_; refine go TL_ok 200 rfl ?_) | (refine guardA (b := true) rfl rfl rfl rfl (fun _ => ?_) (fun e => by cases e); refine go TL_ok 200 rfl ?_) | (refine guardA (b := false) rfl rfl rfl rfl (fun e => by cases e) (fun _ => ?_); refine go TL_ok 200 rfl ?_) | (refine condT rfl rfl ?_; refine go TL_ok 200 rfl ?_) | (refine condF rfl rfl ?_; refine go TL_ok 200 rfl ?_))
  refine call rfl rfl rfl (ok _ (by decide) rfl) (days26_any m 7 _) ?_
  rintro x w ⟨⟨b, rfl, hb⟩, qk⟩
  have B1 := B1.no qk
  have Hm := Hm.no qk
  have q := q.trans qk
  cases b with
  | false =>
    refine go TL_ok 200 rfl ?_
    repeat (first | (refine ldA TL_ok rfl rfl rfl rfl rfl (Bk.all B1) ?_; refine go TL_ok 200 rfl ?_) | (refine ld TL_ok rfl rfl rfl rfl (Bk.get B1 rfl) ?_; refine go TL_ok 200 rfl ?_) | (refine guardA (b := true) rfl rfl rfl rfl (fun _ => ?_) (fun e => by cases e); refine go TL_ok 200 rfl ?_) | (refine guardA (b := false) rfl rfl rfl rfl (fun e => by cases e) (fun _ => ?_); refine go TL_ok 200 rfl ?_) | (refine condT rfl rfl ?_; refine go TL_ok 200 rfl ?_) | (refine condF rfl rfl ?_; refine go TL_ok 200 rfl ?_))
    refine call rfl rfl rfl (ok _ (by decide) rfl) (known_any _) ?_
    rintro v wk ⟨rfl, qk⟩
    refine go TL_ok 200 rfl ?_
    exact ret (ret1 (v := .bool true) Try.results4 rfl ⟨rfl, q.trans qk⟩)
  | true =>
  have hb := hb rfl
  refine go TL_ok 200 rfl ?_
  repeat (first | (refine ldA TL_ok rfl rfl rfl rfl rfl (Bk.all B1) ?_; refine go TL_ok 200 rfl ?_) | (refine ld TL_ok rfl rfl rfl rfl (Bk.get B1 rfl) ?_; refine go TL_ok 200 rfl ?_) | (refine guardA (b := true) rfl rfl rfl rfl (fun _ => ?_) (fun e => by cases e); refine go TL_ok 200 rfl ?_) | (refine guardA (b := false) rfl rfl rfl rfl (fun e => by cases e) (fun _ => ?_); refine go TL_ok 200 rfl ?_) | (refine condT rfl rfl ?_; refine go TL_ok 200 rfl ?_) | (refine condF rfl rfl ?_; refine go TL_ok 200 rfl ?_))
  refine call rfl rfl rfl (ok _ (by decide) rfl) (Schedule_any m _ Hm) ?_
  rintro x w ⟨A5, c5, e6, l5, rfl, qk, S5, hs1, hs2, hs3⟩
  have B1 := B1.no qk
  have Hm := Hm.no qk
  have q := q.trans qk
  have S5 := own_sl S5
  refine go TL_ok 200 rfl ?_
  repeat (first | (refine ldA TL_ok rfl rfl rfl rfl rfl (Bk.all B1) ?_; refine go TL_ok 200 rfl ?_) | (refine ld TL_ok rfl rfl rfl rfl (Bk.get B1 rfl) ?_; refine go TL_ok 200 rfl ?_) | (refine guardA (b := true) rfl rfl rfl rfl (fun _ => ?_) (fun e => by cases e); refine go TL_ok 200 rfl ?_) | (refine guardA (b := false) rfl rfl rfl rfl (fun e => by cases e) (fun _ => ?_); refine go TL_ok 200 rfl ?_) | (refine condT rfl rfl ?_; refine go TL_ok 200 rfl ?_) | (refine condF rfl rfl ?_; refine go TL_ok 200 rfl ?_))
  refine call rfl rfl rfl (ok _ (by decide) rfl) (rSupply_any m _ Hm) ?_
  rintro x w ⟨⟨b, rfl, hbb⟩, qk⟩
  have B1 := B1.no qk
  have Hm := Hm.no qk
  have S5 := S5.no qk
  have q := q.trans qk
  by_cases ha : SupOk m.a
  case neg =>
    obtain rfl : b = false := Bool.eq_false_iff.2 fun h => ha (hbb.1 h)
    obtain ⟨rfl, rfl⟩ := hs1 ha
    refine go TL_ok 200 rfl ?_
    repeat (first | (refine ldA TL_ok rfl rfl rfl rfl rfl (Bk.all B1) ?_; refine go TL_ok 200 rfl ?_) | (refine ld TL_ok rfl rfl rfl rfl (Bk.get B1 rfl) ?_; refine go TL_ok 200 rfl ?_) | (refine guardA (b := true) rfl rfl rfl rfl (fun _ => ?_) (fun e => by cases e); refine go TL_ok 200 rfl ?_) | (refine guardA (b := false) rfl rfl rfl rfl (fun e => by cases e) (fun _ => ?_); refine go TL_ok 200 rfl ?_) | (refine condT rfl rfl ?_; refine go TL_ok 200 rfl ?_) | (refine condF rfl rfl ?_; refine go TL_ok 200 rfl ?_))
    refine call rfl rfl rfl (ok _ (by decide) rfl) (known_any _) ?_
    rintro v wk ⟨rfl, qk⟩
    refine go TL_ok 200 rfl ?_
    exact ret (ret1 (v := .bool true) Try.results4 rfl ⟨rfl, q.trans qk⟩)
  obtain rfl : b = true := hbb.2 ha
  have h30 := ha.len
  have h7 : m.a.days.length ≤ 7 := by rcases hb with h | h <;> omega
  refine go TL_ok 200 rfl ?_
  repeat (first | (refine ldA TL_ok rfl rfl rfl rfl rfl (Bk.all B1) ?_; refine go TL_ok 200 rfl ?_) | (refine ld TL_ok rfl rfl rfl rfl (Bk.get B1 rfl) ?_; refine go TL_ok 200 rfl ?_) | (refine guardA (b := true) rfl rfl rfl rfl (fun _ => ?_) (fun e => by cases e); refine go TL_ok 200 rfl ?_) | (refine guardA (b := false) rfl rfl rfl rfl (fun e => by cases e) (fun _ => ?_); refine go TL_ok 200 rfl ?_) | (refine condT rfl rfl ?_; refine go TL_ok 200 rfl ?_) | (refine condF rfl rfl ?_; refine go TL_ok 200 rfl ?_))
  refine call rfl rfl rfl (ok _ (by decide) rfl) (rSchedule_any m _ Hm ha h7) ?_
  rintro x w ⟨qk, A8, c8, l8, met, rfl, own, hI⟩
  have B1 := B1.no qk
  have Hm := Hm.no qk
  have S5 := S5.no qk
  have q := q.trans qk
  have S8 := own_sl own
  obtain ⟨hf1, hf2⟩ := hI.fin
  cases met with
  | false =>
    obtain ⟨h1, rfl⟩ := hf1 rfl
    obtain ⟨rfl, rfl⟩ := hs2 ha h1
    refine go TL_ok 200 rfl ?_
    repeat (first | (refine ldA TL_ok rfl rfl rfl rfl rfl (Bk.all B1) ?_; refine go TL_ok 200 rfl ?_) | (refine ld TL_ok rfl rfl rfl rfl (Bk.get B1 rfl) ?_; refine go TL_ok 200 rfl ?_) | (refine guardA (b := true) rfl rfl rfl rfl (fun _ => ?_) (fun e => by cases e); refine go TL_ok 200 rfl ?_) | (refine guardA (b := false) rfl rfl rfl rfl (fun e => by cases e) (fun _ => ?_); refine go TL_ok 200 rfl ?_) | (refine condT rfl rfl ?_; refine go TL_ok 200 rfl ?_) | (refine condF rfl rfl ?_; refine go TL_ok 200 rfl ?_))
    refine call rfl rfl rfl (ok _ (by decide) rfl) (known_any _) ?_
    rintro v wk ⟨rfl, qk⟩
    refine go TL_ok 200 rfl ?_
    exact ret (ret1 (v := .bool true) Try.results4 rfl ⟨rfl, q.trans qk⟩)
  | true =>
    obtain ⟨h1, rfl⟩ := hf2 rfl
    obtain ⟨rfl, rfl⟩ := hs3 ha h1
    refine go TL_ok 200 rfl ?_
    repeat (first | (refine ldA TL_ok rfl rfl rfl rfl rfl (Bk.all B1) ?_; refine go TL_ok 200 rfl ?_) | (refine ld TL_ok rfl rfl rfl rfl (Bk.get B1 rfl) ?_; refine go TL_ok 200 rfl ?_) | (refine guardA (b := true) rfl rfl rfl rfl (fun _ => ?_) (fun e => by cases e); refine go TL_ok 200 rfl ?_) | (refine guardA (b := false) rfl rfl rfl rfl (fun e => by cases e) (fun _ => ?_); refine go TL_ok 200 rfl ?_) | (refine condT rfl rfl ?_; refine go TL_ok 200 rfl ?_) | (refine condF rfl rfl ?_; refine go TL_ok 200 rfl ?_))
    refine call rfl rfl rfl (ok _ (by decide) rfl) (SameCells_any (best m.a m.a.days m.a.b) (best m.a m.a.days m.a.b) A5 A8 c5 c8 _ _ _ S5 S8 (by rw [Go.Camp.best_len]; omega)) ?_
    rintro x w ⟨rfl, qk⟩
    have B1 := B1.no qk
    have Hm := Hm.no qk
    have S5 := S5.no qk
    have q := q.trans qk
    rw [show (best m.a m.a.days m.a.b == best m.a m.a.days m.a.b) = true by simp]
    refine go TL_ok 200 rfl ?_
    repeat (first | (refine ldA TL_ok rfl rfl rfl rfl rfl (Bk.all B1) ?_; refine go TL_ok 200 rfl ?_) | (refine ld TL_ok rfl rfl rfl rfl (Bk.get B1 rfl) ?_; refine go TL_ok 200 rfl ?_) | (refine guardA (b := true) rfl rfl rfl rfl (fun _ => ?_) (fun e => by cases e); refine go TL_ok 200 rfl ?_) | (refine guardA (b := false) rfl rfl rfl rfl (fun e => by cases e) (fun _ => ?_); refine go TL_ok 200 rfl ?_) | (refine condT rfl rfl ?_; refine go TL_ok 200 rfl ?_) | (refine condF rfl rfl ?_; refine go TL_ok 200 rfl ?_))
    refine call rfl rfl rfl (ok _ (by decide) rfl) (known_any _) ?_
    rintro v wk ⟨rfl, qk⟩
    refine go TL_ok 200 rfl ?_
    exact ret (ret1 (v := .bool true) Try.results4 rfl ⟨rfl, q.trans qk⟩)
end Go.Proofs.Yteenhfnamjbaiaa
