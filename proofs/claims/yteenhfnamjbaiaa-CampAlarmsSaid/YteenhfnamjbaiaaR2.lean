/- The contracts of supplies and schedules in the specification; of Safe. -/
import Derived.Test.YteenhfnamjbaiaaR1
namespace Go.Proofs.Yteenhfnamjbaiaa
open Go.Ev Go.Proofs
open Go.Camp (Stk Sup SupOk DyOk okN nextN safeN runs sooner)
attribute [local irreducible] At AtH
theorem Sl_elB {w : World} {B : Nat} {l : List Bool} {A : Option Addr} (h : Sl w B 1 A l.length (bL l)) {j : Nat} {x : Bool} (hx : l[j]? = some x) :
  ∃ b o, A = some ⟨b, o, none⟩ ∧ b < B ∧ w.cell? ⟨b, o + j * 1, none⟩ = some (.bool x) := by
 have hj := (List.getElem?_eq_some_iff.1 hx).1
 obtain ⟨b, o, hA, hb, hc⟩ := h.2.2 (by omega)
 exact ⟨b, o, hA, hb, by rw [Nat.mul_one]; exact hc j _ (by unfold bL; rw [List.getElem?_map, hx]; rfl)⟩
theorem runs_snoc (l : List Bool) (b : Bool) : runs (l ++ [b]) = runs l + (if b then 1 else 0) := by
 induction l with
 | nil => cases b <;> rfl
 | cons a l ih => cases a <;> simp only [List.cons_append, runs, ih] <;> omega
theorem runs_le (l : List Bool) : runs l ≤ l.length := by
 induction l with
 | nil => exact Nat.le_refl _
 | cons a l ih => cases a <;> simp only [runs, List.length_cons] <;> omega
theorem rIn_any (x lo hi : Int) (w : World) : Ret Try.prog 67 [I x, I lo, I hi] w fun v w' => v = .bool (decide (lo ≤ x ∧ x ≤ hi)) ∧ w = w' := by
 refine enter Try.func67 rfl Try.ntmps67 rfl ?_
 refine go TK_ok 200 rfl ?_
 by_cases h1 : lo ≤ x
 ·rw [decide_eq_true h1]
  refine go TK_ok 200 rfl ?_
  repeat (first | (refine gT rfl rfl rfl rfl ?_; refine go TK_ok 200 rfl ?_) | (refine gF rfl rfl rfl rfl ?_; refine go TK_ok 200 rfl ?_) | (refine condT rfl rfl ?_; refine go TK_ok 200 rfl ?_) | (refine condF rfl rfl ?_; refine go TK_ok 200 rfl ?_))
  by_cases h2 : x ≤ hi
  ·rw [decide_eq_true h2]
   refine go TK_ok 200 rfl ?_
   repeat (first | (refine gT rfl rfl rfl rfl ?_; refine go TK_ok 200 rfl ?_) | (refine gF rfl rfl rfl rfl ?_; refine go TK_ok 200 rfl ?_) | (refine condT rfl rfl ?_; refine go TK_ok 200 rfl ?_) | (refine condF rfl rfl ?_; refine go TK_ok 200 rfl ?_))
   exact ret (ret1 (v := .bool _) Try.results67 rfl ⟨by rw [decide_eq_true ⟨h1, h2⟩], rfl⟩)
  ·rw [decide_eq_false h2]
   refine go TK_ok 200 rfl ?_
   repeat (first | (refine gT rfl rfl rfl rfl ?_; refine go TK_ok 200 rfl ?_) | (refine gF rfl rfl rfl rfl ?_; refine go TK_ok 200 rfl ?_) | (refine condT rfl rfl ?_; refine go TK_ok 200 rfl ?_) | (refine condF rfl rfl ?_; refine go TK_ok 200 rfl ?_))
   exact ret (ret1 (v := .bool _) Try.results67 rfl ⟨by rw [decide_eq_false (fun h => h2 h.2)], rfl⟩)
 ·rw [decide_eq_false h1]
  refine go TK_ok 200 rfl ?_
  repeat (first | (refine gT rfl rfl rfl rfl ?_; refine go TK_ok 200 rfl ?_) | (refine gF rfl rfl rfl rfl ?_; refine go TK_ok 200 rfl ?_) | (refine condT rfl rfl ?_; refine go TK_ok 200 rfl ?_) | (refine condF rfl rfl ?_; refine go TK_ok 200 rfl ?_))
  exact ret (ret1 (v := .bool _) Try.results67 rfl ⟨by rw [decide_eq_false (fun h => h1 h.1)], rfl⟩)
theorem rSpan_any (a b l h : Int) (w0 : World) : Ret Try.prog 80 [.agg (spL a b).toArray, I l, I h] w0 fun v w' => v = .bool (decide ((l ≤ a ∧ a ≤ b) ∧ b ≤ h)) ∧ Chg No w0 w' := by
 refine enter Try.func80 rfl Try.ntmps80 rfl ?_
 refine go TK_ok 200 rfl ?_
 refine bx rfl rfl rfl (cs := spL a b) rfl ?_
 intro g3 u3 hg3 hs3 q3 B3
 have q := q3
 refine go TK_ok 200 rfl ?_
 repeat ((first | refine ldA TK_ok rfl rfl rfl rfl rfl (Bk.all B3) ?_ | refine ld TK_ok rfl rfl rfl rfl (Bk.get B3 rfl) ?_ | refine gT rfl rfl rfl rfl ?_ | refine gF rfl rfl rfl rfl ?_ | refine condT rfl rfl ?_ | refine condF rfl rfl ?_); refine go TK_ok 200 rfl ?_)
 by_cases h1 : l ≤ a
 case neg =>
  rw [decide_eq_false h1]
  refine go TK_ok 200 rfl ?_
  repeat ((first | refine ldA TK_ok rfl rfl rfl rfl rfl (Bk.all B3) ?_ | refine ld TK_ok rfl rfl rfl rfl (Bk.get B3 rfl) ?_ | refine gT rfl rfl rfl rfl ?_ | refine gF rfl rfl rfl rfl ?_ | refine condT rfl rfl ?_ | refine condF rfl rfl ?_); refine go TK_ok 200 rfl ?_)
  exact ret (ret1 (v := .bool _) Try.results80 rfl ⟨by rw [decide_eq_false (fun h => h1 h.1.1)], q⟩)
 rw [decide_eq_true h1]
 refine go TK_ok 200 rfl ?_
 repeat ((first | refine ldA TK_ok rfl rfl rfl rfl rfl (Bk.all B3) ?_ | refine ld TK_ok rfl rfl rfl rfl (Bk.get B3 rfl) ?_ | refine gT rfl rfl rfl rfl ?_ | refine gF rfl rfl rfl rfl ?_ | refine condT rfl rfl ?_ | refine condF rfl rfl ?_); refine go TK_ok 200 rfl ?_)
 by_cases h2 : a ≤ b
 case neg =>
  rw [decide_eq_false h2]
  refine go TK_ok 200 rfl ?_
  repeat ((first | refine ldA TK_ok rfl rfl rfl rfl rfl (Bk.all B3) ?_ | refine ld TK_ok rfl rfl rfl rfl (Bk.get B3 rfl) ?_ | refine gT rfl rfl rfl rfl ?_ | refine gF rfl rfl rfl rfl ?_ | refine condT rfl rfl ?_ | refine condF rfl rfl ?_); refine go TK_ok 200 rfl ?_)
  exact ret (ret1 (v := .bool _) Try.results80 rfl ⟨by rw [decide_eq_false (fun h => h2 h.1.2)], q⟩)
 rw [decide_eq_true h2]
 refine go TK_ok 200 rfl ?_
 repeat ((first | refine ldA TK_ok rfl rfl rfl rfl rfl (Bk.all B3) ?_ | refine ld TK_ok rfl rfl rfl rfl (Bk.get B3 rfl) ?_ | refine gT rfl rfl rfl rfl ?_ | refine gF rfl rfl rfl rfl ?_ | refine condT rfl rfl ?_ | refine condF rfl rfl ?_); refine go TK_ok 200 rfl ?_)
 by_cases h3 : b ≤ h
 case neg =>
  rw [decide_eq_false h3]
  refine go TK_ok 200 rfl ?_
  repeat ((first | refine ldA TK_ok rfl rfl rfl rfl rfl (Bk.all B3) ?_ | refine ld TK_ok rfl rfl rfl rfl (Bk.get B3 rfl) ?_ | refine gT rfl rfl rfl rfl ?_ | refine gF rfl rfl rfl rfl ?_ | refine condT rfl rfl ?_ | refine condF rfl rfl ?_); refine go TK_ok 200 rfl ?_)
  exact ret (ret1 (v := .bool _) Try.results80 rfl ⟨by rw [decide_eq_false (fun h => h3 h.2)], q⟩)
 rw [decide_eq_true h3]
 refine go TK_ok 200 rfl ?_
 repeat ((first | refine ldA TK_ok rfl rfl rfl rfl rfl (Bk.all B3) ?_ | refine ld TK_ok rfl rfl rfl rfl (Bk.get B3 rfl) ?_ | refine gT rfl rfl rfl rfl ?_ | refine gF rfl rfl rfl rfl ?_ | refine condT rfl rfl ?_ | refine condF rfl rfl ?_); refine go TK_ok 200 rfl ?_)
 exact ret (ret1 (v := .bool _) Try.results80 rfl ⟨by rw [decide_eq_true ⟨⟨h1, h2⟩, h3⟩], q⟩)
set_option maxRecDepth 20000 in
set_option maxHeartbeats 8000000 in
theorem rSupply_any (m : Sm) (w0 : World) (H : SuM w0 m) : Ret Try.prog 28 [.agg (suL m).toArray] w0 fun v w' => (∃ b, v = .bool b ∧ (b = true ↔ SupOk m.a)) ∧ Chg No w0 w' := by
 have hlen := H.len
 refine enter Try.func28 rfl Try.ntmps28 rfl ?_
 refine go TK_ok 200 rfl ?_
 refine bx rfl rfl rfl (cs := suL m) rfl ?_
 intro g1 u1 hg1 hs1 q1 B1
 have q := q1
 refine go TK_ok 200 rfl ?_
 repeat ((first | refine ldA TK_ok rfl rfl rfl rfl rfl (Bk.all B1) ?_ | refine ld TK_ok rfl rfl rfl rfl (Bk.get B1 rfl) ?_ | refine gT rfl rfl rfl rfl ?_ | refine gF rfl rfl rfl rfl ?_ | refine condT rfl rfl ?_ | refine condF rfl rfl ?_); refine go TK_ok 200 rfl ?_)
 refine call rfl rfl rfl (ok _ (by decide) rfl) (rIn_any m.a.room 0 50 _) ?_
 rintro x w ⟨rfl, rfl⟩
 by_cases h1 : 0 ≤ m.a.room ∧ m.a.room ≤ 50
 case neg =>
  rw [decide_eq_false h1]
  refine go TK_ok 200 rfl ?_
  repeat ((first | refine ldA TK_ok rfl rfl rfl rfl rfl (Bk.all B1) ?_ | refine ld TK_ok rfl rfl rfl rfl (Bk.get B1 rfl) ?_ | refine gT rfl rfl rfl rfl ?_ | refine gF rfl rfl rfl rfl ?_ | refine condT rfl rfl ?_ | refine condF rfl rfl ?_); refine go TK_ok 200 rfl ?_)
  exact ret (ret1 (v := .bool false) Try.results28 rfl ⟨⟨false, rfl, by simp; exact fun h => h1 ⟨h.r0, h.r1⟩⟩, q⟩)
 rw [decide_eq_true h1]
 refine go TK_ok 200 rfl ?_
 repeat ((first | refine ldA TK_ok rfl rfl rfl rfl rfl (Bk.all B1) ?_ | refine ld TK_ok rfl rfl rfl rfl (Bk.get B1 rfl) ?_ | refine gT rfl rfl rfl rfl ?_ | refine gF rfl rfl rfl rfl ?_ | refine condT rfl rfl ?_ | refine condF rfl rfl ?_); refine go TK_ok 200 rfl ?_)
 refine call rfl rfl rfl (ok _ (by decide) rfl) (rIn_any m.a.store 0 50 _) ?_
 rintro x w ⟨rfl, rfl⟩
 by_cases h2 : 0 ≤ m.a.store ∧ m.a.store ≤ 50
 case neg =>
  rw [decide_eq_false h2]
  refine go TK_ok 200 rfl ?_
  repeat ((first | refine ldA TK_ok rfl rfl rfl rfl rfl (Bk.all B1) ?_ | refine ld TK_ok rfl rfl rfl rfl (Bk.get B1 rfl) ?_ | refine gT rfl rfl rfl rfl ?_ | refine gF rfl rfl rfl rfl ?_ | refine condT rfl rfl ?_ | refine condF rfl rfl ?_); refine go TK_ok 200 rfl ?_)
  exact ret (ret1 (v := .bool false) Try.results28 rfl ⟨⟨false, rfl, by simp; exact fun h => h2 ⟨h.t0, h.t1⟩⟩, q⟩)
 rw [decide_eq_true h2]
 refine go TK_ok 200 rfl ?_
 repeat ((first | refine ldA TK_ok rfl rfl rfl rfl rfl (Bk.all B1) ?_ | refine ld TK_ok rfl rfl rfl rfl (Bk.get B1 rfl) ?_ | refine gT rfl rfl rfl rfl ?_ | refine gF rfl rfl rfl rfl ?_ | refine condT rfl rfl ?_ | refine condF rfl rfl ?_); refine go TK_ok 200 rfl ?_)
 refine call rfl rfl rfl (ok _ (by decide) rfl) (rIn_any m.a.b.ch 0 m.a.room _) ?_
 rintro x w ⟨rfl, rfl⟩
 by_cases h3 : 0 ≤ m.a.b.ch ∧ m.a.b.ch ≤ m.a.room
 case neg =>
  rw [decide_eq_false h3]
  refine go TK_ok 200 rfl ?_
  repeat ((first | refine ldA TK_ok rfl rfl rfl rfl rfl (Bk.all B1) ?_ | refine ld TK_ok rfl rfl rfl rfl (Bk.get B1 rfl) ?_ | refine gT rfl rfl rfl rfl ?_ | refine gF rfl rfl rfl rfl ?_ | refine condT rfl rfl ?_ | refine condF rfl rfl ?_); refine go TK_ok 200 rfl ?_)
  exact ret (ret1 (v := .bool false) Try.results28 rfl ⟨⟨false, rfl, by simp; exact fun h => h3 ⟨h.c0, h.c1⟩⟩, q⟩)
 rw [decide_eq_true h3]
 refine go TK_ok 200 rfl ?_
 repeat ((first | refine ldA TK_ok rfl rfl rfl rfl rfl (Bk.all B1) ?_ | refine ld TK_ok rfl rfl rfl rfl (Bk.get B1 rfl) ?_ | refine gT rfl rfl rfl rfl ?_ | refine gF rfl rfl rfl rfl ?_ | refine condT rfl rfl ?_ | refine condF rfl rfl ?_); refine go TK_ok 200 rfl ?_)
 refine call rfl rfl rfl (ok _ (by decide) rfl) (rIn_any m.a.b.gas 0 1000 _) ?_
 rintro x w ⟨rfl, rfl⟩
 by_cases h4 : 0 ≤ m.a.b.gas ∧ m.a.b.gas ≤ 1000
 case neg =>
  rw [decide_eq_false h4]
  refine go TK_ok 200 rfl ?_
  repeat ((first | refine ldA TK_ok rfl rfl rfl rfl rfl (Bk.all B1) ?_ | refine ld TK_ok rfl rfl rfl rfl (Bk.get B1 rfl) ?_ | refine gT rfl rfl rfl rfl ?_ | refine gF rfl rfl rfl rfl ?_ | refine condT rfl rfl ?_ | refine condF rfl rfl ?_); refine go TK_ok 200 rfl ?_)
  exact ret (ret1 (v := .bool false) Try.results28 rfl ⟨⟨false, rfl, by simp; exact fun h => h4 ⟨h.g0, h.g1⟩⟩, q⟩)
 rw [decide_eq_true h4]
 refine go TK_ok 200 rfl ?_
 repeat ((first | refine ldA TK_ok rfl rfl rfl rfl rfl (Bk.all B1) ?_ | refine ld TK_ok rfl rfl rfl rfl (Bk.get B1 rfl) ?_ | refine gT rfl rfl rfl rfl ?_ | refine gF rfl rfl rfl rfl ?_ | refine condT rfl rfl ?_ | refine condF rfl rfl ?_); refine go TK_ok 200 rfl ?_)
 refine call rfl rfl rfl (ok _ (by decide) rfl) (rIn_any m.a.b.dat 0 m.a.store _) ?_
 rintro x w ⟨rfl, rfl⟩
 by_cases h5 : 0 ≤ m.a.b.dat ∧ m.a.b.dat ≤ m.a.store
 case neg =>
  rw [decide_eq_false h5]
  refine go TK_ok 200 rfl ?_
  repeat ((first | refine ldA TK_ok rfl rfl rfl rfl rfl (Bk.all B1) ?_ | refine ld TK_ok rfl rfl rfl rfl (Bk.get B1 rfl) ?_ | refine gT rfl rfl rfl rfl ?_ | refine gF rfl rfl rfl rfl ?_ | refine condT rfl rfl ?_ | refine condF rfl rfl ?_); refine go TK_ok 200 rfl ?_)
  exact ret (ret1 (v := .bool false) Try.results28 rfl ⟨⟨false, rfl, by simp; exact fun h => h5 ⟨h.d0, h.d1⟩⟩, q⟩)
 rw [decide_eq_true h5]
 refine go TK_ok 200 rfl ?_
 repeat ((first | refine ldA TK_ok rfl rfl rfl rfl rfl (Bk.all B1) ?_ | refine ld TK_ok rfl rfl rfl rfl (Bk.get B1 rfl) ?_ | refine gT rfl rfl rfl rfl ?_ | refine gF rfl rfl rfl rfl ?_ | refine condT rfl rfl ?_ | refine condF rfl rfl ?_); refine go TK_ok 200 rfl ?_)
 by_cases h6 : m.a.idle < 0
 case pos =>
  rw [decide_eq_true h6]
  refine go TK_ok 200 rfl ?_
  repeat ((first | refine ldA TK_ok rfl rfl rfl rfl rfl (Bk.all B1) ?_ | refine ld TK_ok rfl rfl rfl rfl (Bk.get B1 rfl) ?_ | refine gT rfl rfl rfl rfl ?_ | refine gF rfl rfl rfl rfl ?_ | refine condT rfl rfl ?_ | refine condF rfl rfl ?_); refine go TK_ok 200 rfl ?_)
  exact ret (ret1 (v := .bool false) Try.results28 rfl ⟨⟨false, rfl, by simp; exact fun h => (by have := h.i0; omega)⟩, q⟩)
 rw [decide_eq_false h6]
 refine go TK_ok 200 rfl ?_
 repeat ((first | refine ldA TK_ok rfl rfl rfl rfl rfl (Bk.all B1) ?_ | refine ld TK_ok rfl rfl rfl rfl (Bk.get B1 rfl) ?_ | refine gT rfl rfl rfl rfl ?_ | refine gF rfl rfl rfl rfl ?_ | refine condT rfl rfl ?_ | refine condF rfl rfl ?_); refine go TK_ok 200 rfl ?_)
 by_cases h7 : m.a.run < m.a.idle
 case pos =>
  rw [decide_eq_true h7]
  refine go TK_ok 200 rfl ?_
  repeat ((first | refine ldA TK_ok rfl rfl rfl rfl rfl (Bk.all B1) ?_ | refine ld TK_ok rfl rfl rfl rfl (Bk.get B1 rfl) ?_ | refine gT rfl rfl rfl rfl ?_ | refine gF rfl rfl rfl rfl ?_ | refine condT rfl rfl ?_ | refine condF rfl rfl ?_); refine go TK_ok 200 rfl ?_)
  exact ret (ret1 (v := .bool false) Try.results28 rfl ⟨⟨false, rfl, by simp; exact fun h => (by have := h.i1; omega)⟩, q⟩)
 rw [decide_eq_false h7]
 refine go TK_ok 200 rfl ?_
 repeat ((first | refine ldA TK_ok rfl rfl rfl rfl rfl (Bk.all B1) ?_ | refine ld TK_ok rfl rfl rfl rfl (Bk.get B1 rfl) ?_ | refine gT rfl rfl rfl rfl ?_ | refine gF rfl rfl rfl rfl ?_ | refine condT rfl rfl ?_ | refine condF rfl rfl ?_); refine go TK_ok 200 rfl ?_)
 by_cases h8 : 50 < m.a.run
 case pos =>
  rw [decide_eq_true h8]
  refine go TK_ok 200 rfl ?_
  repeat ((first | refine ldA TK_ok rfl rfl rfl rfl rfl (Bk.all B1) ?_ | refine ld TK_ok rfl rfl rfl rfl (Bk.get B1 rfl) ?_ | refine gT rfl rfl rfl rfl ?_ | refine gF rfl rfl rfl rfl ?_ | refine condT rfl rfl ?_ | refine condF rfl rfl ?_); refine go TK_ok 200 rfl ?_)
  exact ret (ret1 (v := .bool false) Try.results28 rfl ⟨⟨false, rfl, by simp; exact fun h => (by have := h.u1; omega)⟩, q⟩)
 rw [decide_eq_false h8]
 refine go TK_ok 200 rfl ?_
 repeat ((first | refine ldA TK_ok rfl rfl rfl rfl rfl (Bk.all B1) ?_ | refine ld TK_ok rfl rfl rfl rfl (Bk.get B1 rfl) ?_ | refine gT rfl rfl rfl rfl ?_ | refine gF rfl rfl rfl rfl ?_ | refine condT rfl rfl ?_ | refine condF rfl rfl ?_); refine go TK_ok 200 rfl ?_)
 refine call rfl rfl rfl (ok _ (by decide) rfl) (rIn_any m.a.burn 0 50 _) ?_
 rintro x w ⟨rfl, rfl⟩
 by_cases h9 : 0 ≤ m.a.burn ∧ m.a.burn ≤ 50
 case neg =>
  rw [decide_eq_false h9]
  refine go TK_ok 200 rfl ?_
  repeat ((first | refine ldA TK_ok rfl rfl rfl rfl rfl (Bk.all B1) ?_ | refine ld TK_ok rfl rfl rfl rfl (Bk.get B1 rfl) ?_ | refine gT rfl rfl rfl rfl ?_ | refine gF rfl rfl rfl rfl ?_ | refine condT rfl rfl ?_ | refine condF rfl rfl ?_); refine go TK_ok 200 rfl ?_)
  exact ret (ret1 (v := .bool false) Try.results28 rfl ⟨⟨false, rfl, by simp; exact fun h => h9 ⟨h.b0, h.b1⟩⟩, q⟩)
 rw [decide_eq_true h9]
 refine go TK_ok 200 rfl ?_
 repeat ((first | refine ldA TK_ok rfl rfl rfl rfl rfl (Bk.all B1) ?_ | refine ld TK_ok rfl rfl rfl rfl (Bk.get B1 rfl) ?_ | refine gT rfl rfl rfl rfl ?_ | refine gF rfl rfl rfl rfl ?_ | refine condT rfl rfl ?_ | refine condF rfl rfl ?_); refine go TK_ok 200 rfl ?_)
 refine call rfl rfl rfl (ok _ (by decide) rfl) (rIn_any m.a.dat 0 50 _) ?_
 rintro x w ⟨rfl, rfl⟩
 by_cases hA : 0 ≤ m.a.dat ∧ m.a.dat ≤ 50
 case neg =>
  rw [decide_eq_false hA]
  refine go TK_ok 200 rfl ?_
  repeat ((first | refine ldA TK_ok rfl rfl rfl rfl rfl (Bk.all B1) ?_ | refine ld TK_ok rfl rfl rfl rfl (Bk.get B1 rfl) ?_ | refine gT rfl rfl rfl rfl ?_ | refine gF rfl rfl rfl rfl ?_ | refine condT rfl rfl ?_ | refine condF rfl rfl ?_); refine go TK_ok 200 rfl ?_)
  exact ret (ret1 (v := .bool false) Try.results28 rfl ⟨⟨false, rfl, by simp; exact fun h => hA ⟨h.a0, h.a1⟩⟩, q⟩)
 rw [decide_eq_true hA]
 refine go TK_ok 200 rfl ?_
 repeat ((first | refine ldA TK_ok rfl rfl rfl rfl rfl (Bk.all B1) ?_ | refine ld TK_ok rfl rfl rfl rfl (Bk.get B1 rfl) ?_ | refine gT rfl rfl rfl rfl ?_ | refine gF rfl rfl rfl rfl ?_ | refine condT rfl rfl ?_ | refine condF rfl rfl ?_); refine go TK_ok 200 rfl ?_)
 by_cases hB : 30 < (m.a.days.length : Int)
 case pos =>
  rw [decide_eq_true hB]
  refine go TK_ok 200 rfl ?_
  repeat ((first | refine ldA TK_ok rfl rfl rfl rfl rfl (Bk.all B1) ?_ | refine ld TK_ok rfl rfl rfl rfl (Bk.get B1 rfl) ?_ | refine gT rfl rfl rfl rfl ?_ | refine gF rfl rfl rfl rfl ?_ | refine condT rfl rfl ?_ | refine condF rfl rfl ?_); refine go TK_ok 200 rfl ?_)
  exact ret (ret1 (v := .bool false) Try.results28 rfl ⟨⟨false, rfl, by simp; exact fun h => (by have := h.len; omega)⟩, q⟩)
 rw [decide_eq_false hB]
 refine go TK_ok 200 rfl ?_
 repeat ((first | refine ldA TK_ok rfl rfl rfl rfl rfl (Bk.all B1) ?_ | refine ld TK_ok rfl rfl rfl rfl (Bk.get B1 rfl) ?_ | refine gT rfl rfl rfl rfl ?_ | refine gF rfl rfl rfl rfl ?_ | refine condT rfl rfl ?_ | refine condF rfl rfl ?_); refine go TK_ok 200 rfl ?_)
 refine loop [1, 3] (fun j : Nat => [.pointer (some ⟨g1, 0, none⟩), .int .i64 (j : Int)])
  (fun j w' => j ≤ m.a.days.length ∧ Chg No w0 w' ∧ Bk w' g1 44 (suL m) ∧ ∀ i d, i < j → m.a.days[i]? = some d → DyOk d) (fun j => m.a.days.length - j) 0 (fun _ => rfl) rfl ⟨Nat.zero_le _, q, B1, fun i d h => absurd h (Nat.not_lt_zero _)⟩ ?_
 rintro j τ w ⟨hj, q, B1, hm⟩
 have H1 := H.no q
 refine go TK_ok 200 rfl ?_
 repeat ((first | refine ldA TK_ok rfl rfl rfl rfl rfl (Bk.all B1) ?_ | refine ld TK_ok rfl rfl rfl rfl (Bk.get B1 rfl) ?_ | refine gT rfl rfl rfl rfl ?_ | refine gF rfl rfl rfl rfl ?_ | refine condT rfl rfl ?_ | refine condF rfl rfl ?_); refine go TK_ok 200 rfl ?_)
 refine condD rfl (fun hlt => ?_) (fun hlt => ?_)
 ·have hlt : j < m.a.days.length := by omega
  obtain ⟨d, hd⟩ := getA_of hlt
  obtain ⟨b1, o1, hA1, hb1, hc1⟩ := Sl.el H1.sl dyL_len hd
  have e3 : w64 ((j : Int) + 1) = ((j + 1 : Nat) : Int) := w64_id (by omega) (by omega)
  refine go TK_ok 200 rfl ?_
  repeat ((first | refine ldA TK_ok rfl rfl rfl rfl rfl (Bk.all B1) ?_ | refine ld TK_ok rfl rfl rfl rfl (Bk.get B1 rfl) ?_ | refine gT rfl rfl rfl rfl ?_ | refine gF rfl rfl rfl rfl ?_ | refine condT rfl rfl ?_ | refine condF rfl rfl ?_); refine go TK_ok 200 rfl ?_)
  rw [hA1]
  refine idx TK_ok rfl rfl rfl rfl rfl j rfl hlt ?_
  refine go TK_ok 200 rfl ?_
  refine ldA TK_ok rfl rfl rfl rfl rfl hc1 ?_
  refine go TK_ok 200 rfl ?_
  rw [← hA1]
  have yB1 := B1.lt
  have yq := q.size
  refine nw rfl rfl (z := .agg #[I 0, I 0, I 0, I 0, I 0]) (by kernel_rfl) (cs := [I 0, I 0, I 0, I 0, I 0]) rfl ?_
  intro g4 w hg4 hs4 qk B4
  have B1 := B1.no qk
  have q := q.trans qk
  refine go TK_ok 200 rfl ?_
  refine stA TK_ok rfl rfl rfl rfl (vs := dyL d) rfl rfl rfl B4 rfl ?_
  intro w qk B4 hz4
  have B4 : Bk w g4 95 (dyL d) := B4
  have B1 := Bk.keep B1 qk (by omega)
  have q := q.step qk (fun k hk e => by omega)
  refine go TK_ok 200 rfl ?_
  repeat ((first | refine ldA TK_ok rfl rfl rfl rfl rfl (Bk.all B1) ?_ | refine ldA TK_ok rfl rfl rfl rfl rfl (Bk.all B4) ?_ | refine ld TK_ok rfl rfl rfl rfl (Bk.get B1 rfl) ?_ | refine ld TK_ok rfl rfl rfl rfl (Bk.get B4 rfl) ?_ | refine gT rfl rfl rfl rfl ?_ | refine gF rfl rfl rfl rfl ?_ | refine condT rfl rfl ?_ | refine condF rfl rfl ?_); refine go TK_ok 200 rfl ?_)
  refine ldA TK_ok rfl rfl rfl rfl rfl (bk_at (ds := spL d.slo d.shi) B4 rfl) ?_
  refine go TK_ok 200 rfl ?_
  repeat ((first | refine ldA TK_ok rfl rfl rfl rfl rfl (Bk.all B1) ?_ | refine ldA TK_ok rfl rfl rfl rfl rfl (Bk.all B4) ?_ | refine ld TK_ok rfl rfl rfl rfl (Bk.get B1 rfl) ?_ | refine ld TK_ok rfl rfl rfl rfl (Bk.get B4 rfl) ?_ | refine gT rfl rfl rfl rfl ?_ | refine gF rfl rfl rfl rfl ?_ | refine condT rfl rfl ?_ | refine condF rfl rfl ?_); refine go TK_ok 200 rfl ?_)
  refine call rfl rfl rfl (ok _ (by decide) rfl) (rSpan_any d.slo d.shi 0 50 _) ?_
  rintro x w ⟨rfl, qk⟩
  have B1 := B1.no qk
  have B4 := B4.no qk
  have q := q.trans qk
  by_cases h1 : (0 ≤ d.slo ∧ d.slo ≤ d.shi) ∧ d.shi ≤ 50
  case neg =>
   rw [decide_eq_false h1]
   refine go TK_ok 200 rfl ?_
   repeat ((first | refine ldA TK_ok rfl rfl rfl rfl rfl (Bk.all B1) ?_ | refine ldA TK_ok rfl rfl rfl rfl rfl (Bk.all B4) ?_ | refine ld TK_ok rfl rfl rfl rfl (Bk.get B1 rfl) ?_ | refine ld TK_ok rfl rfl rfl rfl (Bk.get B4 rfl) ?_ | refine gT rfl rfl rfl rfl ?_ | refine gF rfl rfl rfl rfl ?_ | refine condT rfl rfl ?_ | refine condF rfl rfl ?_); refine go TK_ok 200 rfl ?_)
   exact ret (ret1 (v := .bool false) Try.results28 rfl ⟨⟨false, rfl, by simp; exact fun h => absurd ((dyOk_iff d).1 (h.days d (List.mem_of_getElem? hd))) (fun h => h1 h.1)⟩, q⟩)
  rw [decide_eq_true h1]
  refine go TK_ok 200 rfl ?_
  repeat ((first | refine ldA TK_ok rfl rfl rfl rfl rfl (Bk.all B1) ?_ | refine ldA TK_ok rfl rfl rfl rfl rfl (Bk.all B4) ?_ | refine ld TK_ok rfl rfl rfl rfl (Bk.get B1 rfl) ?_ | refine ld TK_ok rfl rfl rfl rfl (Bk.get B4 rfl) ?_ | refine gT rfl rfl rfl rfl ?_ | refine gF rfl rfl rfl rfl ?_ | refine condT rfl rfl ?_ | refine condF rfl rfl ?_); refine go TK_ok 200 rfl ?_)
  refine ldA TK_ok rfl rfl rfl rfl rfl (bk_at (ds := spL d.llo d.lhi) B4 rfl) ?_
  refine go TK_ok 200 rfl ?_
  repeat ((first | refine ldA TK_ok rfl rfl rfl rfl rfl (Bk.all B1) ?_ | refine ldA TK_ok rfl rfl rfl rfl rfl (Bk.all B4) ?_ | refine ld TK_ok rfl rfl rfl rfl (Bk.get B1 rfl) ?_ | refine ld TK_ok rfl rfl rfl rfl (Bk.get B4 rfl) ?_ | refine gT rfl rfl rfl rfl ?_ | refine gF rfl rfl rfl rfl ?_ | refine condT rfl rfl ?_ | refine condF rfl rfl ?_); refine go TK_ok 200 rfl ?_)
  refine call rfl rfl rfl (ok _ (by decide) rfl) (rSpan_any d.llo d.lhi 0 50 _) ?_
  rintro x w ⟨rfl, qk⟩
  have B1 := B1.no qk
  have B4 := B4.no qk
  have q := q.trans qk
  by_cases h2 : (0 ≤ d.llo ∧ d.llo ≤ d.lhi) ∧ d.lhi ≤ 50
  case neg =>
   rw [decide_eq_false h2]
   refine go TK_ok 200 rfl ?_
   repeat ((first | refine ldA TK_ok rfl rfl rfl rfl rfl (Bk.all B1) ?_ | refine ldA TK_ok rfl rfl rfl rfl rfl (Bk.all B4) ?_ | refine ld TK_ok rfl rfl rfl rfl (Bk.get B1 rfl) ?_ | refine ld TK_ok rfl rfl rfl rfl (Bk.get B4 rfl) ?_ | refine gT rfl rfl rfl rfl ?_ | refine gF rfl rfl rfl rfl ?_ | refine condT rfl rfl ?_ | refine condF rfl rfl ?_); refine go TK_ok 200 rfl ?_)
   exact ret (ret1 (v := .bool false) Try.results28 rfl ⟨⟨false, rfl, by simp; exact fun h => absurd ((dyOk_iff d).1 (h.days d (List.mem_of_getElem? hd))) (fun h => h2 h.2.1)⟩, q⟩)
  rw [decide_eq_true h2]
  refine go TK_ok 200 rfl ?_
  repeat ((first | refine ldA TK_ok rfl rfl rfl rfl rfl (Bk.all B1) ?_ | refine ldA TK_ok rfl rfl rfl rfl rfl (Bk.all B4) ?_ | refine ld TK_ok rfl rfl rfl rfl (Bk.get B1 rfl) ?_ | refine ld TK_ok rfl rfl rfl rfl (Bk.get B4 rfl) ?_ | refine gT rfl rfl rfl rfl ?_ | refine gF rfl rfl rfl rfl ?_ | refine condT rfl rfl ?_ | refine condF rfl rfl ?_); refine go TK_ok 200 rfl ?_)
  refine call rfl rfl rfl (ok _ (by decide) rfl) (rIn_any d.gas 0 1000 _) ?_
  rintro x w ⟨rfl, rfl⟩
  by_cases h3 : 0 ≤ d.gas ∧ d.gas ≤ 1000
  case neg =>
   rw [decide_eq_false h3]
   refine go TK_ok 200 rfl ?_
   repeat ((first | refine ldA TK_ok rfl rfl rfl rfl rfl (Bk.all B1) ?_ | refine ldA TK_ok rfl rfl rfl rfl rfl (Bk.all B4) ?_ | refine ld TK_ok rfl rfl rfl rfl (Bk.get B1 rfl) ?_ | refine ld TK_ok rfl rfl rfl rfl (Bk.get B4 rfl) ?_ | refine gT rfl rfl rfl rfl ?_ | refine gF rfl rfl rfl rfl ?_ | refine condT rfl rfl ?_ | refine condF rfl rfl ?_); refine go TK_ok 200 rfl ?_)
   exact ret (ret1 (v := .bool false) Try.results28 rfl ⟨⟨false, rfl, by simp; exact fun h => absurd ((dyOk_iff d).1 (h.days d (List.mem_of_getElem? hd))) (fun h => h3 h.2.2)⟩, q⟩)
  rw [decide_eq_true h3]
  refine go TK_ok 200 rfl ?_
  repeat ((first | refine ldA TK_ok rfl rfl rfl rfl rfl (Bk.all B1) ?_ | refine ldA TK_ok rfl rfl rfl rfl rfl (Bk.all B4) ?_ | refine ld TK_ok rfl rfl rfl rfl (Bk.get B1 rfl) ?_ | refine ld TK_ok rfl rfl rfl rfl (Bk.get B4 rfl) ?_ | refine gT rfl rfl rfl rfl ?_ | refine gF rfl rfl rfl rfl ?_ | refine condT rfl rfl ?_ | refine condF rfl rfl ?_); refine go TK_ok 200 rfl ?_)
  rw [e3]
  refine round ⟨j + 1, rfl, ⟨by omega, q, B1, fun i d' hi hd' => ?_⟩, by omega⟩
  rcases Nat.lt_or_ge i j with h' | h'
  ·exact hm i d' h' hd'
  ·obtain rfl : i = j := by omega
   rw [hd] at hd'; cases hd'
   exact (dyOk_iff d).2 ⟨h1, h2, h3⟩
 ·obtain rfl : j = m.a.days.length := by omega
  have hall : ∀ d ∈ m.a.days, DyOk d := fun d hd => by
   obtain ⟨i, hi, rfl⟩ := List.getElem_of_mem hd
   exact hm i _ hi (List.getElem?_eq_getElem hi)
  refine go TK_ok 200 rfl ?_
  repeat ((first | refine ldA TK_ok rfl rfl rfl rfl rfl (Bk.all B1) ?_ | refine ldA TK_ok rfl rfl rfl rfl rfl (Bk.all B4) ?_ | refine ld TK_ok rfl rfl rfl rfl (Bk.get B1 rfl) ?_ | refine ld TK_ok rfl rfl rfl rfl (Bk.get B4 rfl) ?_ | refine gT rfl rfl rfl rfl ?_ | refine gF rfl rfl rfl rfl ?_ | refine condT rfl rfl ?_ | refine condF rfl rfl ?_); refine go TK_ok 200 rfl ?_)
  refine ret (ret1 (v := .bool true) Try.results28 rfl ⟨⟨true, rfl, by simp; exact ⟨h1.1, h1.2, h2.1, h2.2, h3.1, h3.2, h4.1, h4.2, h5.1, h5.2, by omega, by omega, by omega, h9.1, h9.2, hA.1, hA.2, hall, by omega⟩⟩, q⟩)
set_option maxRecDepth 20000 in
set_option maxHeartbeats 8000000 in
theorem Runs_any (l : List Bool) (A : Option Addr) (c B : Nat) (w0 : World) (S : Sl w0 B 1 A l.length (bL l)) (hl : l.length ≤ 1000000) : Ret Try.prog 37 [.slice A l.length c] w0 fun v w' => v = I (runs l : Int) ∧ w0 = w' := by
 refine enter Try.func37 rfl Try.ntmps37 rfl ?_
 refine go TK_ok 200 rfl ?_
 refine loop [0, 3, 4] (fun i : Nat => [.slice A l.length c, .int .i64 (runs (l.take i) : Int), .int .i64 (i : Int)]) (fun i w' => i ≤ l.length ∧ w' = w0) (fun i => l.length - i) 0 (fun _ => rfl) rfl ⟨by omega, rfl⟩ ?_
 rintro i τ w ⟨hi, rfl⟩
 refine go TK_ok 200 rfl ?_
 refine condD rfl (fun hlt => ?_) (fun hlt => ?_)
 ·have hlt : i < l.length := by omega
  obtain ⟨b, hb⟩ := getA_of hlt
  obtain ⟨b1, o1, hA1, hb1, hc1⟩ := Sl_elB S hb
  have hrs : runs (l.take (i + 1)) = runs (l.take i) + (if b then 1 else 0) := by rw [List.take_add_one, hb]; exact runs_snoc _ _
  have hrl := runs_le (l.take i)
  rw [List.length_take] at hrl
  rw [hA1]
  refine go TK_ok 200 rfl ?_
  refine idx TK_ok rfl rfl rfl rfl rfl i rfl hlt ?_
  refine go TK_ok 200 rfl ?_
  refine ld TK_ok rfl rfl rfl rfl (hc1) ?_
  refine go TK_ok 200 rfl ?_
  rw [← hA1]
  cases b with
  | true =>
   refine go TK_ok 200 rfl ?_
   repeat (first | (refine gT rfl rfl rfl rfl ?_; refine go TK_ok 200 rfl ?_) | (refine gF rfl rfl rfl rfl ?_; refine go TK_ok 200 rfl ?_) | (refine condT rfl rfl ?_; refine go TK_ok 200 rfl ?_) | (refine condF rfl rfl ?_; refine go TK_ok 200 rfl ?_))
   rw [w64_id (x := (runs (l.take i) : Int) + 1) (by omega) (by omega), w64_id (x := (i : Int) + 1) (by omega) (by omega)]
   exact round ⟨i + 1, by rw [hrs]; push_cast; rfl, ⟨by omega, rfl⟩, by omega⟩
  | false =>
   refine go TK_ok 200 rfl ?_
   repeat (first | (refine gT rfl rfl rfl rfl ?_; refine go TK_ok 200 rfl ?_) | (refine gF rfl rfl rfl rfl ?_; refine go TK_ok 200 rfl ?_) | (refine condT rfl rfl ?_; refine go TK_ok 200 rfl ?_) | (refine condF rfl rfl ?_; refine go TK_ok 200 rfl ?_))
   rw [w64_id (x := (i : Int) + 1) (by omega) (by omega)]
   exact round ⟨i + 1, by rw [hrs]; rfl, ⟨by omega, rfl⟩, by omega⟩
 ·obtain rfl : i = l.length := by omega
  refine go TK_ok 200 rfl ?_
  exact ret (ret1 (v := I _) Try.results37 rfl ⟨by rw [List.take_length], rfl⟩)
set_option maxRecDepth 20000 in
set_option maxHeartbeats 8000000 in
theorem Sooner_any (l m : List Bool) (A A2 : Option Addr) (c c2 B B2 : Nat) (w0 : World) (S : Sl w0 B 1 A l.length (bL l)) (S2 : Sl w0 B2 1 A2 m.length (bL m)) (hl : l.length ≤ 1000000) : Ret Try.prog 38 [.slice A l.length c, .slice A2 m.length c2] w0 fun v w' => v = .bool (sooner l m) ∧ Chg No w0 w' := by
 refine enter Try.func38 rfl Try.ntmps38 rfl ?_
 refine go TK_ok 200 rfl ?_
 refine loop [0, 1, 5] (fun i : Nat => [.slice A l.length c, .slice A2 m.length c2, .int .i64 (i : Int)]) (fun i w' => i ≤ l.length ∧ i ≤ m.length ∧ Chg No w0 w' ∧ sooner l m = sooner (l.drop i) (m.drop i)) (fun i => l.length - i) 0 (fun _ => rfl) rfl ⟨by omega, by omega, Chg.refl _ _, rfl⟩ ?_
 rintro i τ w ⟨hi, hi2, q, hs⟩
 refine go TK_ok 200 rfl ?_
 by_cases h1 : (i : Int) < (l.length : Int)
 case neg =>
  obtain rfl : i = l.length := by omega
  rw [decide_eq_false h1]
  refine go TK_ok 200 rfl ?_
  repeat (first | (refine gT rfl rfl rfl rfl ?_; refine go TK_ok 200 rfl ?_) | (refine gF rfl rfl rfl rfl ?_; refine go TK_ok 200 rfl ?_) | (refine condT rfl rfl ?_; refine go TK_ok 200 rfl ?_) | (refine condF rfl rfl ?_; refine go TK_ok 200 rfl ?_))
  refine ret (ret1 (v := .bool false) Try.results38 rfl ⟨?_, q⟩)
  rw [hs, List.drop_length]
  rfl
 rw [decide_eq_true h1]
 refine go TK_ok 200 rfl ?_
 repeat (first | (refine gT rfl rfl rfl rfl ?_; refine go TK_ok 200 rfl ?_) | (refine gF rfl rfl rfl rfl ?_; refine go TK_ok 200 rfl ?_) | (refine condT rfl rfl ?_; refine go TK_ok 200 rfl ?_) | (refine condF rfl rfl ?_; refine go TK_ok 200 rfl ?_))
 by_cases h2 : (i : Int) < (m.length : Int)
 case neg =>
  obtain rfl : i = m.length := by omega
  rw [decide_eq_false h2]
  refine go TK_ok 200 rfl ?_
  repeat (first | (refine gT rfl rfl rfl rfl ?_; refine go TK_ok 200 rfl ?_) | (refine gF rfl rfl rfl rfl ?_; refine go TK_ok 200 rfl ?_) | (refine condT rfl rfl ?_; refine go TK_ok 200 rfl ?_) | (refine condF rfl rfl ?_; refine go TK_ok 200 rfl ?_))
  refine ret (ret1 (v := .bool false) Try.results38 rfl ⟨?_, q⟩)
  rw [hs, List.drop_length]
  cases l.drop m.length <;> rfl
 rw [decide_eq_true h2]
 refine go TK_ok 200 rfl ?_
 repeat (first | (refine gT rfl rfl rfl rfl ?_; refine go TK_ok 200 rfl ?_) | (refine gF rfl rfl rfl rfl ?_; refine go TK_ok 200 rfl ?_) | (refine condT rfl rfl ?_; refine go TK_ok 200 rfl ?_) | (refine condF rfl rfl ?_; refine go TK_ok 200 rfl ?_))
 obtain ⟨a, ha⟩ := getA_of (l := l) (i := i) (by omega)
 obtain ⟨b, hb⟩ := getA_of (l := m) (i := i) (by omega)
 obtain ⟨b1, o1, hA1, hb1, hc1⟩ := Sl_elB (S.no q) ha
 obtain ⟨b2, o2, hA2, hb2, hc2⟩ := Sl_elB (S2.no q) hb
 have hBB := (S.no q).2.1
 have hBB2 := (S2.no q).2.1
 have hd : l.drop i = a :: l.drop (i + 1) := by
  have := List.drop_eq_getElem_cons (l := l) (i := i) (by omega)
  rw [List.getElem?_eq_getElem (by omega)] at ha
  injection ha with ha
  rw [this, ha]
 have hd2 : m.drop i = b :: m.drop (i + 1) := by
  have := List.drop_eq_getElem_cons (l := m) (i := i) (by omega)
  rw [List.getElem?_eq_getElem (by omega)] at hb
  injection hb with hb
  rw [this, hb]
 have hso : sooner l m = if a != b then a else sooner (l.drop (i + 1)) (m.drop (i + 1)) := by rw [hs, hd, hd2]; rfl
 refine go TK_ok 200 rfl ?_
 refine draw mixed (fun w' => Chg No w w') ((List.range 9).map fun i => (i, true)) rfl (by kernel_rfl) (Chg.drew _) ?_
 refine goH TK_ok 200 rfl ?_
 rw [hA1]
 refine quietH rfl (fun w' hS => r_idx TK_ok rfl rfl rfl rfl i rfl (by omega)) ?_
 refine goH TK_ok 200 rfl ?_
 refine quietH rfl (fun w' hS => r_load TK_ok rfl rfl rfl ((hS.cell (a := ⟨b1, o1 + i * 1, none⟩) (by show b1 < _; omega) (fun h => h)).trans hc1)) ?_
 rw [← hA1]
 refine goH TK_ok 200 rfl ?_
 rw [hA2]
 refine quietH rfl (fun w' hS => r_idx TK_ok rfl rfl rfl rfl i rfl (by omega)) ?_
 refine goH TK_ok 200 rfl ?_
 refine quietH rfl (fun w' hS => r_load TK_ok rfl rfl rfl ((hS.cell (a := ⟨b2, o2 + i * 1, none⟩) (by show b2 < _; omega) (fun h => h)).trans hc2)) ?_
 rw [← hA2]
 refine goH TK_ok 200 rfl ?_
 refine quietH rfl (fun w' hS => r_neqB rfl Try.underlying4 rfl rfl) ?_
 refine goH TK_ok 200 rfl ?_
 refine endH ?_
 have q := q.trans (Chg.drew w)
 have hc1 : w.drew.cell? ⟨b1, o1 + i * 1, none⟩ = some (.bool a) := ((Chg.drew w).cell (a := ⟨b1, o1 + i * 1, none⟩) (by show b1 < _; omega) (fun h => h)).trans hc1
 generalize w.drew = w2 at *
 cases hab : (a != b) with
 | true =>
  rw [hab, if_pos rfl] at hso
  refine go TK_ok 200 rfl ?_
  repeat (first | (refine gT rfl rfl rfl rfl ?_; refine go TK_ok 200 rfl ?_) | (refine gF rfl rfl rfl rfl ?_; refine go TK_ok 200 rfl ?_) | (refine condT rfl rfl ?_; refine go TK_ok 200 rfl ?_) | (refine condF rfl rfl ?_; refine go TK_ok 200 rfl ?_))
  rw [hA1]
  refine idx TK_ok rfl rfl rfl rfl rfl i rfl (by omega) ?_
  refine go TK_ok 200 rfl ?_
  refine ld TK_ok rfl rfl rfl rfl (hc1) ?_
  refine go TK_ok 200 rfl ?_
  exact ret (ret1 (v := .bool _) Try.results38 rfl ⟨by rw [hso], q⟩)
 | false =>
  rw [hab, if_neg (by simp)] at hso
  refine go TK_ok 200 rfl ?_
  repeat (first | (refine gT rfl rfl rfl rfl ?_; refine go TK_ok 200 rfl ?_) | (refine gF rfl rfl rfl rfl ?_; refine go TK_ok 200 rfl ?_) | (refine condT rfl rfl ?_; refine go TK_ok 200 rfl ?_) | (refine condF rfl rfl ?_; refine go TK_ok 200 rfl ?_))
  rw [w64_id (x := (i : Int) + 1) (by omega) (by omega)]
  exact round ⟨i + 1, rfl, ⟨by omega, by omega, q, hso⟩, by omega⟩
set_option maxRecDepth 20000 in
set_option maxHeartbeats 8000000 in
theorem Safe_any (m : Sm) (l : List Bool) (A : Option Addr) (c B : Nat) (w0 : World) (H : SuM w0 m) (S : Sl w0 B 1 A l.length (bL l)) : Ret Try.prog 36 [.agg (suL m).toArray, .slice A l.length c] w0 fun v w' => Chg No w0 w' ∧
  ((¬ (SupOk m.a ∧ l.length = m.a.days.length) ∧ v = .tuple #[.bool false, I 2]) ∨ ((SupOk m.a ∧ l.length = m.a.days.length) ∧ v = .tuple #[.bool (safeN m.a m.a.days l m.a.b), I 0])) := by
 have hlen := H.len
 refine enter Try.func36 rfl Try.ntmps36 rfl ?_
 refine go TK_ok 200 rfl ?_
 refine bx rfl rfl rfl (cs := suL m) rfl ?_
 intro g2 u2 hg2 hs2 q2 B2
 have q := q2
 refine go TK_ok 200 rfl ?_
 repeat ((first | refine ldA TK_ok rfl rfl rfl rfl rfl (Bk.all B2) ?_ | refine ld TK_ok rfl rfl rfl rfl (Bk.get B2 rfl) ?_ | refine gT rfl rfl rfl rfl ?_ | refine gF rfl rfl rfl rfl ?_ | refine condT rfl rfl ?_ | refine condF rfl rfl ?_); refine go TK_ok 200 rfl ?_)
 refine call rfl rfl rfl (ok _ (by decide) rfl) (supplied_any m _ (H.no q)) ?_
 rintro x w ⟨⟨b, rfl, hb⟩, qk⟩
 have B2 := B2.no qk
 have q := q.trans qk
 by_cases hbb : b = true
 case neg =>
  have e := Bool.eq_false_iff.2 hbb
  subst e
  refine go TK_ok 200 rfl ?_
  repeat ((first | refine ldA TK_ok rfl rfl rfl rfl rfl (Bk.all B2) ?_ | refine ld TK_ok rfl rfl rfl rfl (Bk.get B2 rfl) ?_ | refine gT rfl rfl rfl rfl ?_ | refine gF rfl rfl rfl rfl ?_ | refine condT rfl rfl ?_ | refine condF rfl rfl ?_); refine go TK_ok 200 rfl ?_)
  exact ret (ret2 (v := .bool false) (x := I 2) Try.results36 rfl rfl ⟨q, .inl ⟨fun h => hbb (hb.2 h.1), rfl⟩⟩)
 subst hbb
 have ha := hb.1 rfl
 have h30 := ha.len
 refine go TK_ok 200 rfl ?_
 repeat ((first | refine ldA TK_ok rfl rfl rfl rfl rfl (Bk.all B2) ?_ | refine ld TK_ok rfl rfl rfl rfl (Bk.get B2 rfl) ?_ | refine gT rfl rfl rfl rfl ?_ | refine gF rfl rfl rfl rfl ?_ | refine condT rfl rfl ?_ | refine condF rfl rfl ?_); refine go TK_ok 200 rfl ?_)
 by_cases hL : l.length = m.a.days.length
 case neg =>
  have e : ((l.length : Int) != (m.a.days.length : Int)) = true := bne_iff_ne.2 (by omega)
  rw [e]
  refine go TK_ok 200 rfl ?_
  repeat ((first | refine ldA TK_ok rfl rfl rfl rfl rfl (Bk.all B2) ?_ | refine ld TK_ok rfl rfl rfl rfl (Bk.get B2 rfl) ?_ | refine gT rfl rfl rfl rfl ?_ | refine gF rfl rfl rfl rfl ?_ | refine condT rfl rfl ?_ | refine condF rfl rfl ?_); refine go TK_ok 200 rfl ?_)
  exact ret (ret2 (v := .bool false) (x := I 2) Try.results36 rfl rfl ⟨q, .inl ⟨fun h => hL h.2, rfl⟩⟩)
 have e : ((l.length : Int) != (m.a.days.length : Int)) = false := bne_eq_false_iff_eq.2 (by omega)
 rw [e]
 refine go TK_ok 200 rfl ?_
 repeat ((first | refine ldA TK_ok rfl rfl rfl rfl rfl (Bk.all B2) ?_ | refine ld TK_ok rfl rfl rfl rfl (Bk.get B2 rfl) ?_ | refine gT rfl rfl rfl rfl ?_ | refine gF rfl rfl rfl rfl ?_ | refine condT rfl rfl ?_ | refine condF rfl rfl ?_); refine go TK_ok 200 rfl ?_)
 refine ldA TK_ok rfl rfl rfl rfl rfl (bk_at (ds := skL m.a.b) B2 rfl) ?_
 refine go TK_ok 200 rfl ?_
 have yB2 := B2.lt
 have yq := q.size
 refine nw rfl rfl (z := .agg #[I 0, I 0, I 0, I 0]) (by kernel_rfl) (cs := [I 0, I 0, I 0, I 0]) rfl ?_
 intro g6 w hg6 hs6 qk B6
 have B2 := B2.no qk
 have q := q.trans qk
 refine go TK_ok 200 rfl ?_
 refine stA TK_ok rfl rfl rfl rfl (vs := stL m.a.b 0) rfl rfl rfl B6 rfl ?_
 intro w qk B6 hz6
 have B6 : Bk w g6 135 (stL m.a.b 0) := B6
 have B2 := Bk.keep B2 qk (by omega)
 have q := q.step qk (fun k hk e => by omega)
 refine go TK_ok 200 rfl ?_
 repeat ((first | refine ldA TK_ok rfl rfl rfl rfl rfl (Bk.all B2) ?_ | refine ldA TK_ok rfl rfl rfl rfl rfl (Bk.all B6) ?_ | refine ld TK_ok rfl rfl rfl rfl (Bk.get B2 rfl) ?_ | refine ld TK_ok rfl rfl rfl rfl (Bk.get B6 rfl) ?_ | refine gT rfl rfl rfl rfl ?_ | refine gF rfl rfl rfl rfl ?_ | refine condT rfl rfl ?_ | refine condF rfl rfl ?_); refine go TK_ok 200 rfl ?_)
 have hS0 : StD 0 m.a.b := ⟨ha.c0, by have := ha.c1; have := ha.r1; omega, ha.g0, by have := ha.g1; omega, ha.d0, by have := ha.d1; have := ha.t1; omega⟩
 refine loop [2, 6, 24, 25, 26] (fun x : Nat × Stk => [.pointer (some ⟨g2, 0, none⟩), .pointer (some ⟨g6, 0, none⟩), .slice A l.length c, .int .i64 (l.length : Int), .int .i64 (x.1 : Int)])
  (fun x w' => x.1 ≤ l.length ∧ Chg No w0 w' ∧ Bk w' g2 44 (suL m) ∧ Bk w' g6 135 (stL x.2 x.1) ∧ StD x.1 x.2 ∧ safeN m.a m.a.days l m.a.b = safeN m.a (m.a.days.drop x.1) (l.drop x.1) x.2) (fun x => l.length - x.1) (0, m.a.b) (fun _ => rfl) rfl ⟨by simp, q, B2, B6, hS0, rfl⟩ ?_
 rintro ⟨j, x⟩ τ w ⟨hj, q, B2, B6, hD, hs⟩
 simp only at hj B6 hD hs
 refine go TK_ok 200 rfl ?_
 refine condD rfl (fun hlt => ?_) (fun hlt => ?_)
 ·have hlt : j < l.length := by have : (j : Int) < (l.length : Int) := hlt; omega
  obtain ⟨b, hb⟩ := getA_of hlt
  obtain ⟨d, hd⟩ := getA_of (l := m.a.days) (i := j) (by omega)
  obtain ⟨b1, o1, hA1, hb1, hc1⟩ := Sl_elB (S.no q) hb
  have hdo := ha.days d (List.mem_of_getElem? hd)
  have hdl : l.drop j = b :: l.drop (j + 1) := by
   have := List.drop_eq_getElem_cons (l := l) (i := j) (by omega)
   rw [List.getElem?_eq_getElem (by omega)] at hb
   injection hb with hb
   rw [this, hb]
  have hso : safeN m.a m.a.days l m.a.b = (okN m.a d x b d.slo d.llo && safeN m.a (m.a.days.drop (j + 1)) (l.drop (j + 1)) (nextN m.a d x b d.slo d.llo)) := by rw [hs, drop_day hd, hdl]; rfl
  rw [hA1]
  refine go TK_ok 200 rfl ?_
  refine idx TK_ok rfl rfl rfl rfl rfl j rfl hlt ?_
  refine go TK_ok 200 rfl ?_
  refine ld TK_ok rfl rfl rfl rfl (hc1) ?_
  refine go TK_ok 200 rfl ?_
  rw [← hA1]
  refine go TK_ok 200 rfl ?_
  repeat ((first | refine ldA TK_ok rfl rfl rfl rfl rfl (Bk.all B2) ?_ | refine ldA TK_ok rfl rfl rfl rfl rfl (Bk.all B6) ?_ | refine ld TK_ok rfl rfl rfl rfl (Bk.get B2 rfl) ?_ | refine ld TK_ok rfl rfl rfl rfl (Bk.get B6 rfl) ?_ | refine gT rfl rfl rfl rfl ?_ | refine gF rfl rfl rfl rfl ?_ | refine condT rfl rfl ?_ | refine condF rfl rfl ?_); refine go TK_ok 200 rfl ?_)
  refine call rfl rfl rfl (ok _ (by decide) rfl) (worst_any m x j d b _ (H.no q) ha hd (hD.b (by omega))) ?_
  rintro v w ⟨rfl, qk⟩
  have B2 := B2.no qk
  have B6 := B6.no qk
  have q := q.trans qk
  have lq := q.size
  have l2 := B2.lt
  have l6 := B6.lt
  refine go TK_ok 200 rfl ?_
  refine stA TK_ok rfl rfl rfl rfl (vs := stL (nextN m.a d x b d.slo d.llo) (j + 1)) rfl rfl rfl B6 rfl ?_
  intro w3 qk B6 hz
  have B6 : Bk w3 g6 135 (stL (nextN m.a d x b d.slo d.llo) (j + 1)) := B6
  have B2 := B2.keep qk (fun e => by omega)
  have q := q.step qk (fun k hk e => by omega)
  cases hok : okN m.a d x b d.slo d.llo with
  | false =>
   rw [hok, Bool.false_and] at hso
   refine go TK_ok 200 rfl ?_
   repeat ((first | refine ldA TK_ok rfl rfl rfl rfl rfl (Bk.all B2) ?_ | refine ldA TK_ok rfl rfl rfl rfl rfl (Bk.all B6) ?_ | refine ld TK_ok rfl rfl rfl rfl (Bk.get B2 rfl) ?_ | refine ld TK_ok rfl rfl rfl rfl (Bk.get B6 rfl) ?_ | refine gT rfl rfl rfl rfl ?_ | refine gF rfl rfl rfl rfl ?_ | refine condT rfl rfl ?_ | refine condF rfl rfl ?_); refine go TK_ok 200 rfl ?_)
   exact ret (ret2 (v := .bool false) (x := I 0) Try.results36 rfl rfl ⟨q, .inr ⟨⟨ha, hL⟩, by rw [hso]⟩⟩)
  | true =>
   rw [hok, Bool.true_and] at hso
   refine go TK_ok 200 rfl ?_
   repeat ((first | refine ldA TK_ok rfl rfl rfl rfl rfl (Bk.all B2) ?_ | refine ldA TK_ok rfl rfl rfl rfl rfl (Bk.all B6) ?_ | refine ld TK_ok rfl rfl rfl rfl (Bk.get B2 rfl) ?_ | refine ld TK_ok rfl rfl rfl rfl (Bk.get B6 rfl) ?_ | refine gT rfl rfl rfl rfl ?_ | refine gF rfl rfl rfl rfl ?_ | refine condT rfl rfl ?_ | refine condF rfl rfl ?_); refine go TK_ok 200 rfl ?_)
   rw [w64_id (x := (j : Int) + 1) (by omega) (by omega)]
   have d1 := hdo.s0; have d4 := hdo.l0
   exact round ⟨(j + 1, nextN m.a d x b d.slo d.llo), rfl, ⟨by simp only; omega, q, B2, B6, hD.next ha hdo d1 d4 hok, hso⟩, by simp only; omega⟩
 ·obtain rfl : j = l.length := by have : ¬ (j : Int) < (l.length : Int) := hlt; omega
  refine go TK_ok 200 rfl ?_
  refine ret (ret2 (v := .bool true) (x := I 0) Try.results36 rfl rfl ⟨q, .inr ⟨⟨ha, hL⟩, ?_⟩⟩)
  rw [hs, List.drop_length]
  cases m.a.days.drop l.length <;> rfl
end Go.Proofs.Yteenhfnamjbaiaa
