/- The walk of CampCourses. -/
import Derived.Test.YteenhfnamjbaiaaK1
import Derived.Test.YteenhfnamjbaiaaR5
import Derived.Test.YteenhfnamjbaiaaE4
namespace Go.Proofs.Yteenhfnamjbaiaa
open Go.Ev Go.Proofs
open Go.Camp (Stk Sup SupOk DyOk okN nextN safeN runs sooner best most runC dayC)
attribute [local irreducible] At AtH
theorem DaysIn.bd {a : Sup} {sun link : List Int} (h : DaysIn a sun link) (ha : SupOk a) : (∀ s ∈ sun, 0 ≤ s ∧ s ≤ 50) ∧ ∀ s ∈ link, 0 ≤ s ∧ s ≤ 50 := by
  have l1 := h.l1
  have l2 := h.l2
  constructor
  · intro s hs
    obtain ⟨j, hj⟩ := List.getElem?_of_mem hs
    have hjl := (List.getElem?_eq_some_iff.1 hj).1
    obtain ⟨d, hd⟩ := getA_of (l := a.days) (i := j) (by omega)
    obtain ⟨l, hl⟩ := getA_of (l := link) (i := j) (by omega)
    have h1 := h.d j d s l hd hj hl
    have h2 := ha.days d (List.mem_of_getElem? hd)
    have := h2.s0; have := h2.s2
    omega
  · intro s hs
    obtain ⟨j, hj⟩ := List.getElem?_of_mem hs
    have hjl := (List.getElem?_eq_some_iff.1 hj).1
    obtain ⟨d, hd⟩ := getA_of (l := a.days) (i := j) (by omega)
    obtain ⟨l, hl⟩ := getA_of (l := sun) (i := j) (by omega)
    have h1 := h.d j d l s hd hl hj
    have h2 := ha.days d (List.mem_of_getElem? hd)
    have := h2.l0; have := h2.l2
    omega
theorem runC_len (a : Sup) : ∀ (xs : List (Go.Camp.Dy × Bool × Int × Int)) (x : Stk), (runC a xs x).1.length ≤ xs.length := by
  intro xs
  induction xs with
  | nil => intro x; exact Nat.zero_le _
  | cons p xs ih =>
    intro x
    obtain ⟨d, r, s, l⟩ := p
    unfold runC
    split
    · simp only [List.length_cons]
      have := ih (nextN a d x r s l)
      omega
    · exact Nat.zero_le _
set_option maxRecDepth 20000 in
set_option maxHeartbeats 16000000 in
theorem walk_CampCourses (m : Sm) (o : Sli Bool) (u l : Sli Int) (w0 : World) (hm : InS w0 m) (ho : InB w0 o) (hu : InI w0 u) (hl : InI w0 l) :
    Ret Try.prog 14 [.agg (suL m).toArray, .slice o.A o.l.length o.c, .slice u.A u.l.length u.c, .slice l.A l.l.length l.c] w0 fun x w' => x = .bool true ∧ Chg No w0 w' := by
  have So := ho.sl
  have Su := hu.sl
  have Sv := hl.sl
  have Hm := hm.m
  refine enter Try.func14 rfl Try.ntmps14 rfl ?_
  refine go TL_ok 200 rfl ?_
  refine bx rfl rfl rfl (cs := suL m) rfl ?_
  intro g4 u4 hg4 hs4 q4 B4
  have q := q4
  have So := So.no q
  have Su := Su.no q
  have Sv := Sv.no q
  have Hm := Hm.no q
  refine go TL_ok 200 rfl ?_
  repeat (first | (refine ldA TL_ok rfl rfl rfl rfl rfl (Bk.all B4) ?_; refine go TL_ok 200 rfl ?_) | (refine ld TL_ok rfl rfl rfl rfl (Bk.get B4 rfl) ?_; refine go TL_ok 200 rfl ?_) | (refine guardA (b := true) rfl rfl rfl rfl (fun _ => ?_) (fun e => by cases e); refine go TL_ok 200 rfl ?_) | (refine guardA (b := false) rfl rfl rfl rfl (fun e => by cases e) (fun _ => ?_); refine go TL_ok 200 rfl ?_) | (refine condT rfl rfl ?_; refine go TL_ok 200 rfl ?_) | (refine condF rfl rfl ?_; refine go TL_ok 200 rfl ?_))
  refine call rfl rfl rfl (ok _ (by decide) rfl) (days26_any m 30 _) ?_
  rintro x w ⟨⟨b, rfl, hb⟩, qk⟩
  have B4 := B4.no qk
  have So := So.no qk
  have Su := Su.no qk
  have Sv := Sv.no qk
  have Hm := Hm.no qk
  have q := q.trans qk
  cases b with
  | false =>
    refine go TL_ok 200 rfl ?_
    repeat (first | (refine ldA TL_ok rfl rfl rfl rfl rfl (Bk.all B4) ?_; refine go TL_ok 200 rfl ?_) | (refine ld TL_ok rfl rfl rfl rfl (Bk.get B4 rfl) ?_; refine go TL_ok 200 rfl ?_) | (refine guardA (b := true) rfl rfl rfl rfl (fun _ => ?_) (fun e => by cases e); refine go TL_ok 200 rfl ?_) | (refine guardA (b := false) rfl rfl rfl rfl (fun e => by cases e) (fun _ => ?_); refine go TL_ok 200 rfl ?_) | (refine condT rfl rfl ?_; refine go TL_ok 200 rfl ?_) | (refine condF rfl rfl ?_; refine go TL_ok 200 rfl ?_))
    refine call rfl rfl rfl (ok _ (by decide) rfl) (known_any _) ?_
    rintro v wk ⟨rfl, qk⟩
    refine go TL_ok 200 rfl ?_
    exact ret (ret1 (v := .bool true) Try.results14 rfl ⟨rfl, q.trans qk⟩)
  | true =>
  clear hb
  refine go TL_ok 200 rfl ?_
  repeat (first | (refine ldA TL_ok rfl rfl rfl rfl rfl (Bk.all B4) ?_; refine go TL_ok 200 rfl ?_) | (refine ld TL_ok rfl rfl rfl rfl (Bk.get B4 rfl) ?_; refine go TL_ok 200 rfl ?_) | (refine guardA (b := true) rfl rfl rfl rfl (fun _ => ?_) (fun e => by cases e); refine go TL_ok 200 rfl ?_) | (refine guardA (b := false) rfl rfl rfl rfl (fun e => by cases e) (fun _ => ?_); refine go TL_ok 200 rfl ?_) | (refine condT rfl rfl ?_; refine go TL_ok 200 rfl ?_) | (refine condF rfl rfl ?_; refine go TL_ok 200 rfl ?_))
  by_cases f1 : 40 < (o.l.length : Int)
  case pos =>
    rw [decide_eq_true f1]
    refine go TL_ok 200 rfl ?_
    repeat (first | (refine ldA TL_ok rfl rfl rfl rfl rfl (Bk.all B4) ?_; refine go TL_ok 200 rfl ?_) | (refine ld TL_ok rfl rfl rfl rfl (Bk.get B4 rfl) ?_; refine go TL_ok 200 rfl ?_) | (refine guardA (b := true) rfl rfl rfl rfl (fun _ => ?_) (fun e => by cases e); refine go TL_ok 200 rfl ?_) | (refine guardA (b := false) rfl rfl rfl rfl (fun e => by cases e) (fun _ => ?_); refine go TL_ok 200 rfl ?_) | (refine condT rfl rfl ?_; refine go TL_ok 200 rfl ?_) | (refine condF rfl rfl ?_; refine go TL_ok 200 rfl ?_))
    refine call rfl rfl rfl (ok _ (by decide) rfl) (known_any _) ?_
    rintro v wk ⟨rfl, qk⟩
    refine go TL_ok 200 rfl ?_
    exact ret (ret1 (v := .bool true) Try.results14 rfl ⟨rfl, q.trans qk⟩)
  rw [decide_eq_false f1]
  refine go TL_ok 200 rfl ?_
  repeat (first | (refine ldA TL_ok rfl rfl rfl rfl rfl (Bk.all B4) ?_; refine go TL_ok 200 rfl ?_) | (refine ld TL_ok rfl rfl rfl rfl (Bk.get B4 rfl) ?_; refine go TL_ok 200 rfl ?_) | (refine guardA (b := true) rfl rfl rfl rfl (fun _ => ?_) (fun e => by cases e); refine go TL_ok 200 rfl ?_) | (refine guardA (b := false) rfl rfl rfl rfl (fun e => by cases e) (fun _ => ?_); refine go TL_ok 200 rfl ?_) | (refine condT rfl rfl ?_; refine go TL_ok 200 rfl ?_) | (refine condF rfl rfl ?_; refine go TL_ok 200 rfl ?_))
  by_cases f2 : 40 < (u.l.length : Int)
  case pos =>
    rw [decide_eq_true f2]
    refine go TL_ok 200 rfl ?_
    repeat (first | (refine ldA TL_ok rfl rfl rfl rfl rfl (Bk.all B4) ?_; refine go TL_ok 200 rfl ?_) | (refine ld TL_ok rfl rfl rfl rfl (Bk.get B4 rfl) ?_; refine go TL_ok 200 rfl ?_) | (refine guardA (b := true) rfl rfl rfl rfl (fun _ => ?_) (fun e => by cases e); refine go TL_ok 200 rfl ?_) | (refine guardA (b := false) rfl rfl rfl rfl (fun e => by cases e) (fun _ => ?_); refine go TL_ok 200 rfl ?_) | (refine condT rfl rfl ?_; refine go TL_ok 200 rfl ?_) | (refine condF rfl rfl ?_; refine go TL_ok 200 rfl ?_))
    refine call rfl rfl rfl (ok _ (by decide) rfl) (known_any _) ?_
    rintro v wk ⟨rfl, qk⟩
    refine go TL_ok 200 rfl ?_
    exact ret (ret1 (v := .bool true) Try.results14 rfl ⟨rfl, q.trans qk⟩)
  rw [decide_eq_false f2]
  refine go TL_ok 200 rfl ?_
  repeat (first | (refine ldA TL_ok rfl rfl rfl rfl rfl (Bk.all B4) ?_; refine go TL_ok 200 rfl ?_) | (refine ld TL_ok rfl rfl rfl rfl (Bk.get B4 rfl) ?_; refine go TL_ok 200 rfl ?_) | (refine guardA (b := true) rfl rfl rfl rfl (fun _ => ?_) (fun e => by cases e); refine go TL_ok 200 rfl ?_) | (refine guardA (b := false) rfl rfl rfl rfl (fun e => by cases e) (fun _ => ?_); refine go TL_ok 200 rfl ?_) | (refine condT rfl rfl ?_; refine go TL_ok 200 rfl ?_) | (refine condF rfl rfl ?_; refine go TL_ok 200 rfl ?_))
  by_cases f3 : 40 < (l.l.length : Int)
  case pos =>
    rw [decide_eq_true f3]
    refine go TL_ok 200 rfl ?_
    repeat (first | (refine ldA TL_ok rfl rfl rfl rfl rfl (Bk.all B4) ?_; refine go TL_ok 200 rfl ?_) | (refine ld TL_ok rfl rfl rfl rfl (Bk.get B4 rfl) ?_; refine go TL_ok 200 rfl ?_) | (refine guardA (b := true) rfl rfl rfl rfl (fun _ => ?_) (fun e => by cases e); refine go TL_ok 200 rfl ?_) | (refine guardA (b := false) rfl rfl rfl rfl (fun e => by cases e) (fun _ => ?_); refine go TL_ok 200 rfl ?_) | (refine condT rfl rfl ?_; refine go TL_ok 200 rfl ?_) | (refine condF rfl rfl ?_; refine go TL_ok 200 rfl ?_))
    refine call rfl rfl rfl (ok _ (by decide) rfl) (known_any _) ?_
    rintro v wk ⟨rfl, qk⟩
    refine go TL_ok 200 rfl ?_
    exact ret (ret1 (v := .bool true) Try.results14 rfl ⟨rfl, q.trans qk⟩)
  rw [decide_eq_false f3]
  refine go TL_ok 200 rfl ?_
  repeat (first | (refine ldA TL_ok rfl rfl rfl rfl rfl (Bk.all B4) ?_; refine go TL_ok 200 rfl ?_) | (refine ld TL_ok rfl rfl rfl rfl (Bk.get B4 rfl) ?_; refine go TL_ok 200 rfl ?_) | (refine guardA (b := true) rfl rfl rfl rfl (fun _ => ?_) (fun e => by cases e); refine go TL_ok 200 rfl ?_) | (refine guardA (b := false) rfl rfl rfl rfl (fun e => by cases e) (fun _ => ?_); refine go TL_ok 200 rfl ?_) | (refine condT rfl rfl ?_; refine go TL_ok 200 rfl ?_) | (refine condF rfl rfl ?_; refine go TL_ok 200 rfl ?_))
  refine call rfl rfl rfl (ok _ (by decide) rfl) (Course_any m o.l u.l l.l o.A u.A l.A o.c u.c l.c _ _ _ _ Hm So Su Sv) ?_
  rintro x w ⟨qk, hC⟩
  have B4 := B4.no qk
  have So := So.no qk
  have Su := Su.no qk
  have Sv := Sv.no qk
  have Hm := Hm.no qk
  have q := q.trans qk
  by_cases ha : SupOk m.a
  case neg =>
    obtain rfl : x = .tuple #[.slice none 0 0, I 0, I 2] := by
      rcases hC with ⟨_, h⟩ | ⟨h, _⟩
      · exact h
      · exact absurd h.1 ha
    refine go TL_ok 200 rfl ?_
    repeat (first | (refine ldA TL_ok rfl rfl rfl rfl rfl (Bk.all B4) ?_; refine go TL_ok 200 rfl ?_) | (refine ld TL_ok rfl rfl rfl rfl (Bk.get B4 rfl) ?_; refine go TL_ok 200 rfl ?_) | (refine guardA (b := true) rfl rfl rfl rfl (fun _ => ?_) (fun e => by cases e); refine go TL_ok 200 rfl ?_) | (refine guardA (b := false) rfl rfl rfl rfl (fun e => by cases e) (fun _ => ?_); refine go TL_ok 200 rfl ?_) | (refine condT rfl rfl ?_; refine go TL_ok 200 rfl ?_) | (refine condF rfl rfl ?_; refine go TL_ok 200 rfl ?_))
    refine call rfl rfl rfl (ok _ (by decide) rfl) (Safe_any m o.l o.A o.c _ _ Hm So) ?_
    rintro x w ⟨qk, hS⟩
    have B4 := B4.no qk
    have So := So.no qk
    have Su := Su.no qk
    have Sv := Sv.no qk
    have Hm := Hm.no qk
    have q := q.trans qk
    obtain rfl : x = .tuple #[.bool false, I 2] := by
      rcases hS with ⟨_, h⟩ | ⟨h, _⟩
      · exact h
      · exact absurd h.1 ha
    refine go TL_ok 200 rfl ?_
    repeat (first | (refine ldA TL_ok rfl rfl rfl rfl rfl (Bk.all B4) ?_; refine go TL_ok 200 rfl ?_) | (refine ld TL_ok rfl rfl rfl rfl (Bk.get B4 rfl) ?_; refine go TL_ok 200 rfl ?_) | (refine guardA (b := true) rfl rfl rfl rfl (fun _ => ?_) (fun e => by cases e); refine go TL_ok 200 rfl ?_) | (refine guardA (b := false) rfl rfl rfl rfl (fun e => by cases e) (fun _ => ?_); refine go TL_ok 200 rfl ?_) | (refine condT rfl rfl ?_; refine go TL_ok 200 rfl ?_) | (refine condF rfl rfl ?_; refine go TL_ok 200 rfl ?_))
    refine call rfl rfl rfl (ok _ (by decide) rfl) (rSupply_any m _ Hm) ?_
    rintro x w ⟨⟨b, rfl, hb⟩, qk⟩
    have B4 := B4.no qk
    have So := So.no qk
    have Su := Su.no qk
    have Sv := Sv.no qk
    have Hm := Hm.no qk
    have q := q.trans qk
    obtain rfl : b = false := Bool.eq_false_iff.2 fun h => ha (hb.1 h)
    refine go TL_ok 200 rfl ?_
    repeat (first | (refine ldA TL_ok rfl rfl rfl rfl rfl (Bk.all B4) ?_; refine go TL_ok 200 rfl ?_) | (refine ld TL_ok rfl rfl rfl rfl (Bk.get B4 rfl) ?_; refine go TL_ok 200 rfl ?_) | (refine guardA (b := true) rfl rfl rfl rfl (fun _ => ?_) (fun e => by cases e); refine go TL_ok 200 rfl ?_) | (refine guardA (b := false) rfl rfl rfl rfl (fun e => by cases e) (fun _ => ?_); refine go TL_ok 200 rfl ?_) | (refine condT rfl rfl ?_; refine go TL_ok 200 rfl ?_) | (refine condF rfl rfl ?_; refine go TL_ok 200 rfl ?_))
    refine call rfl rfl rfl (ok _ (by decide) rfl) (Supplies_any m _ Hm) ?_
    rintro x w ⟨hx, qk⟩
    have B4 := B4.no qk
    have So := So.no qk
    have Su := Su.no qk
    have Sv := Sv.no qk
    have Hm := Hm.no qk
    have q := q.trans qk
    obtain rfl : x = I 2 := by
      rcases hx with ⟨h, _⟩ | ⟨_, h⟩
      · exact absurd h ha
      · exact h
    refine go TL_ok 200 rfl ?_
    repeat (first | (refine ldA TL_ok rfl rfl rfl rfl rfl (Bk.all B4) ?_; refine go TL_ok 200 rfl ?_) | (refine ld TL_ok rfl rfl rfl rfl (Bk.get B4 rfl) ?_; refine go TL_ok 200 rfl ?_) | (refine guardA (b := true) rfl rfl rfl rfl (fun _ => ?_) (fun e => by cases e); refine go TL_ok 200 rfl ?_) | (refine guardA (b := false) rfl rfl rfl rfl (fun e => by cases e) (fun _ => ?_); refine go TL_ok 200 rfl ?_) | (refine condT rfl rfl ?_; refine go TL_ok 200 rfl ?_) | (refine condF rfl rfl ?_; refine go TL_ok 200 rfl ?_))
    refine call rfl rfl rfl (ok _ (by decide) rfl) (known_any _) ?_
    rintro v wk ⟨rfl, qk⟩
    refine go TL_ok 200 rfl ?_
    exact ret (ret1 (v := .bool true) Try.results14 rfl ⟨rfl, q.trans qk⟩)
  have h30 := ha.len
  by_cases hL : o.l.length = m.a.days.length
  case neg =>
    obtain rfl : x = .tuple #[.slice none 0 0, I 0, I 2] := by
      rcases hC with ⟨_, h⟩ | ⟨h, _⟩
      · exact h
      · exact absurd h.2.1 hL
    refine go TL_ok 200 rfl ?_
    repeat (first | (refine ldA TL_ok rfl rfl rfl rfl rfl (Bk.all B4) ?_; refine go TL_ok 200 rfl ?_) | (refine ld TL_ok rfl rfl rfl rfl (Bk.get B4 rfl) ?_; refine go TL_ok 200 rfl ?_) | (refine guardA (b := true) rfl rfl rfl rfl (fun _ => ?_) (fun e => by cases e); refine go TL_ok 200 rfl ?_) | (refine guardA (b := false) rfl rfl rfl rfl (fun e => by cases e) (fun _ => ?_); refine go TL_ok 200 rfl ?_) | (refine condT rfl rfl ?_; refine go TL_ok 200 rfl ?_) | (refine condF rfl rfl ?_; refine go TL_ok 200 rfl ?_))
    refine call rfl rfl rfl (ok _ (by decide) rfl) (Safe_any m o.l o.A o.c _ _ Hm So) ?_
    rintro x w ⟨qk, hS⟩
    have B4 := B4.no qk
    have So := So.no qk
    have Su := Su.no qk
    have Sv := Sv.no qk
    have Hm := Hm.no qk
    have q := q.trans qk
    obtain rfl : x = .tuple #[.bool false, I 2] := by
      rcases hS with ⟨_, h⟩ | ⟨h, _⟩
      · exact h
      · exact absurd h.2 hL
    refine go TL_ok 200 rfl ?_
    repeat (first | (refine ldA TL_ok rfl rfl rfl rfl rfl (Bk.all B4) ?_; refine go TL_ok 200 rfl ?_) | (refine ld TL_ok rfl rfl rfl rfl (Bk.get B4 rfl) ?_; refine go TL_ok 200 rfl ?_) | (refine guardA (b := true) rfl rfl rfl rfl (fun _ => ?_) (fun e => by cases e); refine go TL_ok 200 rfl ?_) | (refine guardA (b := false) rfl rfl rfl rfl (fun e => by cases e) (fun _ => ?_); refine go TL_ok 200 rfl ?_) | (refine condT rfl rfl ?_; refine go TL_ok 200 rfl ?_) | (refine condF rfl rfl ?_; refine go TL_ok 200 rfl ?_))
    refine call rfl rfl rfl (ok _ (by decide) rfl) (rSupply_any m _ Hm) ?_
    rintro x w ⟨⟨b, rfl, hb⟩, qk⟩
    have B4 := B4.no qk
    have So := So.no qk
    have Su := Su.no qk
    have Sv := Sv.no qk
    have Hm := Hm.no qk
    have q := q.trans qk
    obtain rfl : b = true := hb.2 ha
    refine go TL_ok 200 rfl ?_
    repeat (first | (refine ldA TL_ok rfl rfl rfl rfl rfl (Bk.all B4) ?_; refine go TL_ok 200 rfl ?_) | (refine ld TL_ok rfl rfl rfl rfl (Bk.get B4 rfl) ?_; refine go TL_ok 200 rfl ?_) | (refine guardA (b := true) rfl rfl rfl rfl (fun _ => ?_) (fun e => by cases e); refine go TL_ok 200 rfl ?_) | (refine guardA (b := false) rfl rfl rfl rfl (fun e => by cases e) (fun _ => ?_); refine go TL_ok 200 rfl ?_) | (refine condT rfl rfl ?_; refine go TL_ok 200 rfl ?_) | (refine condF rfl rfl ?_; refine go TL_ok 200 rfl ?_))
    refine call rfl rfl rfl (ok _ (by decide) rfl) (Supplies_any m _ Hm) ?_
    rintro x w ⟨hx, qk⟩
    have B4 := B4.no qk
    have So := So.no qk
    have Su := Su.no qk
    have Sv := Sv.no qk
    have Hm := Hm.no qk
    have q := q.trans qk
    obtain rfl : x = I 0 := by
      rcases hx with ⟨_, h⟩ | ⟨h, _⟩
      · exact h
      · exact absurd ha h
    refine go TL_ok 200 rfl ?_
    repeat (first | (refine ldA TL_ok rfl rfl rfl rfl rfl (Bk.all B4) ?_; refine go TL_ok 200 rfl ?_) | (refine ld TL_ok rfl rfl rfl rfl (Bk.get B4 rfl) ?_; refine go TL_ok 200 rfl ?_) | (refine guardA (b := true) rfl rfl rfl rfl (fun _ => ?_) (fun e => by cases e); refine go TL_ok 200 rfl ?_) | (refine guardA (b := false) rfl rfl rfl rfl (fun e => by cases e) (fun _ => ?_); refine go TL_ok 200 rfl ?_) | (refine condT rfl rfl ?_; refine go TL_ok 200 rfl ?_) | (refine condF rfl rfl ?_; refine go TL_ok 200 rfl ?_))
    have e : ((o.l.length : Int) != (m.a.days.length : Int)) = true := bne_iff_ne.2 (by omega)
    rw [e]
    refine go TL_ok 200 rfl ?_
    repeat (first | (refine ldA TL_ok rfl rfl rfl rfl rfl (Bk.all B4) ?_; refine go TL_ok 200 rfl ?_) | (refine ld TL_ok rfl rfl rfl rfl (Bk.get B4 rfl) ?_; refine go TL_ok 200 rfl ?_) | (refine guardA (b := true) rfl rfl rfl rfl (fun _ => ?_) (fun e => by cases e); refine go TL_ok 200 rfl ?_) | (refine guardA (b := false) rfl rfl rfl rfl (fun e => by cases e) (fun _ => ?_); refine go TL_ok 200 rfl ?_) | (refine condT rfl rfl ?_; refine go TL_ok 200 rfl ?_) | (refine condF rfl rfl ?_; refine go TL_ok 200 rfl ?_))
    refine call rfl rfl rfl (ok _ (by decide) rfl) (known_any _) ?_
    rintro v wk ⟨rfl, qk⟩
    refine go TL_ok 200 rfl ?_
    exact ret (ret1 (v := .bool true) Try.results14 rfl ⟨rfl, q.trans qk⟩)
  by_cases hin : DaysIn m.a u.l l.l
  case neg =>
    obtain rfl : x = .tuple #[.slice none 0 0, I 0, I 2] := by
      rcases hC with ⟨_, h⟩ | ⟨h, _⟩
      · exact h
      · exact absurd h.2.2 hin
    refine go TL_ok 200 rfl ?_
    repeat (first | (refine ldA TL_ok rfl rfl rfl rfl rfl (Bk.all B4) ?_; refine go TL_ok 200 rfl ?_) | (refine ld TL_ok rfl rfl rfl rfl (Bk.get B4 rfl) ?_; refine go TL_ok 200 rfl ?_) | (refine guardA (b := true) rfl rfl rfl rfl (fun _ => ?_) (fun e => by cases e); refine go TL_ok 200 rfl ?_) | (refine guardA (b := false) rfl rfl rfl rfl (fun e => by cases e) (fun _ => ?_); refine go TL_ok 200 rfl ?_) | (refine condT rfl rfl ?_; refine go TL_ok 200 rfl ?_) | (refine condF rfl rfl ?_; refine go TL_ok 200 rfl ?_))
    refine call rfl rfl rfl (ok _ (by decide) rfl) (Safe_any m o.l o.A o.c _ _ Hm So) ?_
    rintro x w ⟨qk, hS⟩
    have B4 := B4.no qk
    have So := So.no qk
    have Su := Su.no qk
    have Sv := Sv.no qk
    have Hm := Hm.no qk
    have q := q.trans qk
    obtain rfl : x = .tuple #[.bool (safeN m.a m.a.days o.l m.a.b), I 0] := by
      rcases hS with ⟨h, _⟩ | ⟨_, h⟩
      · exact absurd ⟨ha, hL⟩ h
      · exact h
    refine go TL_ok 200 rfl ?_
    repeat (first | (refine ldA TL_ok rfl rfl rfl rfl rfl (Bk.all B4) ?_; refine go TL_ok 200 rfl ?_) | (refine ld TL_ok rfl rfl rfl rfl (Bk.get B4 rfl) ?_; refine go TL_ok 200 rfl ?_) | (refine guardA (b := true) rfl rfl rfl rfl (fun _ => ?_) (fun e => by cases e); refine go TL_ok 200 rfl ?_) | (refine guardA (b := false) rfl rfl rfl rfl (fun e => by cases e) (fun _ => ?_); refine go TL_ok 200 rfl ?_) | (refine condT rfl rfl ?_; refine go TL_ok 200 rfl ?_) | (refine condF rfl rfl ?_; refine go TL_ok 200 rfl ?_))
    refine call rfl rfl rfl (ok _ (by decide) rfl) (rSupply_any m _ Hm) ?_
    rintro x w ⟨⟨b, rfl, hb⟩, qk⟩
    have B4 := B4.no qk
    have So := So.no qk
    have Su := Su.no qk
    have Sv := Sv.no qk
    have Hm := Hm.no qk
    have q := q.trans qk
    obtain rfl : b = true := hb.2 ha
    refine go TL_ok 200 rfl ?_
    repeat (first | (refine ldA TL_ok rfl rfl rfl rfl rfl (Bk.all B4) ?_; refine go TL_ok 200 rfl ?_) | (refine ld TL_ok rfl rfl rfl rfl (Bk.get B4 rfl) ?_; refine go TL_ok 200 rfl ?_) | (refine guardA (b := true) rfl rfl rfl rfl (fun _ => ?_) (fun e => by cases e); refine go TL_ok 200 rfl ?_) | (refine guardA (b := false) rfl rfl rfl rfl (fun e => by cases e) (fun _ => ?_); refine go TL_ok 200 rfl ?_) | (refine condT rfl rfl ?_; refine go TL_ok 200 rfl ?_) | (refine condF rfl rfl ?_; refine go TL_ok 200 rfl ?_))
    refine call rfl rfl rfl (ok _ (by decide) rfl) (Supplies_any m _ Hm) ?_
    rintro x w ⟨hx, qk⟩
    have B4 := B4.no qk
    have So := So.no qk
    have Su := Su.no qk
    have Sv := Sv.no qk
    have Hm := Hm.no qk
    have q := q.trans qk
    obtain rfl : x = I 0 := by
      rcases hx with ⟨_, h⟩ | ⟨h, _⟩
      · exact h
      · exact absurd ha h
    refine go TL_ok 200 rfl ?_
    repeat (first | (refine ldA TL_ok rfl rfl rfl rfl rfl (Bk.all B4) ?_; refine go TL_ok 200 rfl ?_) | (refine ld TL_ok rfl rfl rfl rfl (Bk.get B4 rfl) ?_; refine go TL_ok 200 rfl ?_) | (refine guardA (b := true) rfl rfl rfl rfl (fun _ => ?_) (fun e => by cases e); refine go TL_ok 200 rfl ?_) | (refine guardA (b := false) rfl rfl rfl rfl (fun e => by cases e) (fun _ => ?_); refine go TL_ok 200 rfl ?_) | (refine condT rfl rfl ?_; refine go TL_ok 200 rfl ?_) | (refine condF rfl rfl ?_; refine go TL_ok 200 rfl ?_))
    have e : ((o.l.length : Int) != (m.a.days.length : Int)) = false := bne_eq_false_iff_eq.2 (by omega)
    rw [e]
    refine go TL_ok 200 rfl ?_
    repeat (first | (refine ldA TL_ok rfl rfl rfl rfl rfl (Bk.all B4) ?_; refine go TL_ok 200 rfl ?_) | (refine ld TL_ok rfl rfl rfl rfl (Bk.get B4 rfl) ?_; refine go TL_ok 200 rfl ?_) | (refine guardA (b := true) rfl rfl rfl rfl (fun _ => ?_) (fun e => by cases e); refine go TL_ok 200 rfl ?_) | (refine guardA (b := false) rfl rfl rfl rfl (fun e => by cases e) (fun _ => ?_); refine go TL_ok 200 rfl ?_) | (refine condT rfl rfl ?_; refine go TL_ok 200 rfl ?_) | (refine condF rfl rfl ?_; refine go TL_ok 200 rfl ?_))
    refine call rfl rfl rfl (ok _ (by decide) rfl) (rSafe_any m o.l o.A o.c _ _ Hm ha So hL) ?_
    rintro x w ⟨rfl, qk⟩
    have B4 := B4.no qk
    have So := So.no qk
    have Su := Su.no qk
    have Sv := Sv.no qk
    have Hm := Hm.no qk
    have q := q.trans qk
    refine go TL_ok 200 rfl ?_
    refine neqB rfl rfl Try.underlying4 rfl rfl ?_
    rw [show (safeN m.a m.a.days o.l m.a.b != safeN m.a m.a.days o.l m.a.b) = false by simp]
    refine go TL_ok 200 rfl ?_
    repeat (first | (refine ldA TL_ok rfl rfl rfl rfl rfl (Bk.all B4) ?_; refine go TL_ok 200 rfl ?_) | (refine ld TL_ok rfl rfl rfl rfl (Bk.get B4 rfl) ?_; refine go TL_ok 200 rfl ?_) | (refine guardA (b := true) rfl rfl rfl rfl (fun _ => ?_) (fun e => by cases e); refine go TL_ok 200 rfl ?_) | (refine guardA (b := false) rfl rfl rfl rfl (fun e => by cases e) (fun _ => ?_); refine go TL_ok 200 rfl ?_) | (refine condT rfl rfl ?_; refine go TL_ok 200 rfl ?_) | (refine condF rfl rfl ?_; refine go TL_ok 200 rfl ?_))
    refine call rfl rfl rfl (ok _ (by decide) rfl) (rDays_any m u.l l.l u.A l.A u.c l.c _ _ _ Hm Su Sv (by omega)) ?_
    rintro x w ⟨⟨b, rfl, hb⟩, qk⟩
    have B4 := B4.no qk
    have So := So.no qk
    have Su := Su.no qk
    have Sv := Sv.no qk
    have Hm := Hm.no qk
    have q := q.trans qk
    obtain rfl : b = false := Bool.eq_false_iff.2 fun h => hin (hb.1 h)
    refine go TL_ok 200 rfl ?_
    repeat (first | (refine ldA TL_ok rfl rfl rfl rfl rfl (Bk.all B4) ?_; refine go TL_ok 200 rfl ?_) | (refine ld TL_ok rfl rfl rfl rfl (Bk.get B4 rfl) ?_; refine go TL_ok 200 rfl ?_) | (refine guardA (b := true) rfl rfl rfl rfl (fun _ => ?_) (fun e => by cases e); refine go TL_ok 200 rfl ?_) | (refine guardA (b := false) rfl rfl rfl rfl (fun e => by cases e) (fun _ => ?_); refine go TL_ok 200 rfl ?_) | (refine condT rfl rfl ?_; refine go TL_ok 200 rfl ?_) | (refine condF rfl rfl ?_; refine go TL_ok 200 rfl ?_))
    refine call rfl rfl rfl (ok _ (by decide) rfl) (known_any _) ?_
    rintro v wk ⟨rfl, qk⟩
    refine go TL_ok 200 rfl ?_
    exact ret (ret1 (v := .bool true) Try.results14 rfl ⟨rfl, q.trans qk⟩)
  obtain ⟨A9, c9, rfl, S9⟩ : ∃ A c, x = .tuple #[.slice A (runC m.a (zipC m.a.days o.l u.l l.l) m.a.b).1.length c, I (dayC (runC m.a (zipC m.a.days o.l u.l l.l) m.a.b)), I 0] ∧ Sl w w.heap.size 3 A (runC m.a (zipC m.a.days o.l u.l l.l) m.a.b).1.length ((runC m.a (zipC m.a.days o.l u.l l.l) m.a.b).1.flatMap skL) := by
    rcases hC with ⟨h, _⟩ | ⟨_, A, c, h, ho⟩
    · exact absurd ⟨ha, hL, hin⟩ h
    · exact ⟨A, c, h, own_sl ho⟩
  refine go TL_ok 200 rfl ?_
  repeat (first | (refine ldA TL_ok rfl rfl rfl rfl rfl (Bk.all B4) ?_; refine go TL_ok 200 rfl ?_) | (refine ld TL_ok rfl rfl rfl rfl (Bk.get B4 rfl) ?_; refine go TL_ok 200 rfl ?_) | (refine guardA (b := true) rfl rfl rfl rfl (fun _ => ?_) (fun e => by cases e); refine go TL_ok 200 rfl ?_) | (refine guardA (b := false) rfl rfl rfl rfl (fun e => by cases e) (fun _ => ?_); refine go TL_ok 200 rfl ?_) | (refine condT rfl rfl ?_; refine go TL_ok 200 rfl ?_) | (refine condF rfl rfl ?_; refine go TL_ok 200 rfl ?_))
  refine call rfl rfl rfl (ok _ (by decide) rfl) (Safe_any m o.l o.A o.c _ _ Hm So) ?_
  rintro x w ⟨qk, hS⟩
  have B4 := B4.no qk
  have So := So.no qk
  have Su := Su.no qk
  have Sv := Sv.no qk
  have Hm := Hm.no qk
  have S9 := S9.no qk
  have q := q.trans qk
  obtain rfl : x = .tuple #[.bool (safeN m.a m.a.days o.l m.a.b), I 0] := by
    rcases hS with ⟨h, _⟩ | ⟨_, h⟩
    · exact absurd ⟨ha, hL⟩ h
    · exact h
  refine go TL_ok 200 rfl ?_
  repeat (first | (refine ldA TL_ok rfl rfl rfl rfl rfl (Bk.all B4) ?_; refine go TL_ok 200 rfl ?_) | (refine ld TL_ok rfl rfl rfl rfl (Bk.get B4 rfl) ?_; refine go TL_ok 200 rfl ?_) | (refine guardA (b := true) rfl rfl rfl rfl (fun _ => ?_) (fun e => by cases e); refine go TL_ok 200 rfl ?_) | (refine guardA (b := false) rfl rfl rfl rfl (fun e => by cases e) (fun _ => ?_); refine go TL_ok 200 rfl ?_) | (refine condT rfl rfl ?_; refine go TL_ok 200 rfl ?_) | (refine condF rfl rfl ?_; refine go TL_ok 200 rfl ?_))
  refine call rfl rfl rfl (ok _ (by decide) rfl) (rSupply_any m _ Hm) ?_
  rintro x w ⟨⟨b, rfl, hb⟩, qk⟩
  have B4 := B4.no qk
  have So := So.no qk
  have Su := Su.no qk
  have Sv := Sv.no qk
  have Hm := Hm.no qk
  have S9 := S9.no qk
  have q := q.trans qk
  obtain rfl : b = true := hb.2 ha
  refine go TL_ok 200 rfl ?_
  repeat (first | (refine ldA TL_ok rfl rfl rfl rfl rfl (Bk.all B4) ?_; refine go TL_ok 200 rfl ?_) | (refine ld TL_ok rfl rfl rfl rfl (Bk.get B4 rfl) ?_; refine go TL_ok 200 rfl ?_) | (refine guardA (b := true) rfl rfl rfl rfl (fun _ => ?_) (fun e => by cases e); refine go TL_ok 200 rfl ?_) | (refine guardA (b := false) rfl rfl rfl rfl (fun e => by cases e) (fun _ => ?_); refine go TL_ok 200 rfl ?_) | (refine condT rfl rfl ?_; refine go TL_ok 200 rfl ?_) | (refine condF rfl rfl ?_; refine go TL_ok 200 rfl ?_))
  refine call rfl rfl rfl (ok _ (by decide) rfl) (Supplies_any m _ Hm) ?_
  rintro x w ⟨hx, qk⟩
  have B4 := B4.no qk
  have So := So.no qk
  have Su := Su.no qk
  have Sv := Sv.no qk
  have Hm := Hm.no qk
  have S9 := S9.no qk
  have q := q.trans qk
  obtain rfl : x = I 0 := by
    rcases hx with ⟨_, h⟩ | ⟨h, _⟩
    · exact h
    · exact absurd ha h
  refine go TL_ok 200 rfl ?_
  repeat (first | (refine ldA TL_ok rfl rfl rfl rfl rfl (Bk.all B4) ?_; refine go TL_ok 200 rfl ?_) | (refine ld TL_ok rfl rfl rfl rfl (Bk.get B4 rfl) ?_; refine go TL_ok 200 rfl ?_) | (refine guardA (b := true) rfl rfl rfl rfl (fun _ => ?_) (fun e => by cases e); refine go TL_ok 200 rfl ?_) | (refine guardA (b := false) rfl rfl rfl rfl (fun e => by cases e) (fun _ => ?_); refine go TL_ok 200 rfl ?_) | (refine condT rfl rfl ?_; refine go TL_ok 200 rfl ?_) | (refine condF rfl rfl ?_; refine go TL_ok 200 rfl ?_))
  have e : ((o.l.length : Int) != (m.a.days.length : Int)) = false := bne_eq_false_iff_eq.2 (by omega)
  rw [e]
  refine go TL_ok 200 rfl ?_
  repeat (first | (refine ldA TL_ok rfl rfl rfl rfl rfl (Bk.all B4) ?_; refine go TL_ok 200 rfl ?_) | (refine ld TL_ok rfl rfl rfl rfl (Bk.get B4 rfl) ?_; refine go TL_ok 200 rfl ?_) | (refine guardA (b := true) rfl rfl rfl rfl (fun _ => ?_) (fun e => by cases e); refine go TL_ok 200 rfl ?_) | (refine guardA (b := false) rfl rfl rfl rfl (fun e => by cases e) (fun _ => ?_); refine go TL_ok 200 rfl ?_) | (refine condT rfl rfl ?_; refine go TL_ok 200 rfl ?_) | (refine condF rfl rfl ?_; refine go TL_ok 200 rfl ?_))
  refine call rfl rfl rfl (ok _ (by decide) rfl) (rSafe_any m o.l o.A o.c _ _ Hm ha So hL) ?_
  rintro x w ⟨rfl, qk⟩
  have B4 := B4.no qk
  have So := So.no qk
  have Su := Su.no qk
  have Sv := Sv.no qk
  have Hm := Hm.no qk
  have S9 := S9.no qk
  have q := q.trans qk
  refine go TL_ok 200 rfl ?_
  refine neqB rfl rfl Try.underlying4 rfl rfl ?_
  rw [show (safeN m.a m.a.days o.l m.a.b != safeN m.a m.a.days o.l m.a.b) = false by simp]
  refine go TL_ok 200 rfl ?_
  repeat (first | (refine ldA TL_ok rfl rfl rfl rfl rfl (Bk.all B4) ?_; refine go TL_ok 200 rfl ?_) | (refine ld TL_ok rfl rfl rfl rfl (Bk.get B4 rfl) ?_; refine go TL_ok 200 rfl ?_) | (refine guardA (b := true) rfl rfl rfl rfl (fun _ => ?_) (fun e => by cases e); refine go TL_ok 200 rfl ?_) | (refine guardA (b := false) rfl rfl rfl rfl (fun e => by cases e) (fun _ => ?_); refine go TL_ok 200 rfl ?_) | (refine condT rfl rfl ?_; refine go TL_ok 200 rfl ?_) | (refine condF rfl rfl ?_; refine go TL_ok 200 rfl ?_))
  refine call rfl rfl rfl (ok _ (by decide) rfl) (rDays_any m u.l l.l u.A l.A u.c l.c _ _ _ Hm Su Sv (by omega)) ?_
  rintro x w ⟨⟨b, rfl, hb⟩, qk⟩
  have B4 := B4.no qk
  have So := So.no qk
  have Su := Su.no qk
  have Sv := Sv.no qk
  have Hm := Hm.no qk
  have S9 := S9.no qk
  have q := q.trans qk
  obtain rfl : b = true := hb.2 hin
  refine go TL_ok 200 rfl ?_
  repeat (first | (refine ldA TL_ok rfl rfl rfl rfl rfl (Bk.all B4) ?_; refine go TL_ok 200 rfl ?_) | (refine ld TL_ok rfl rfl rfl rfl (Bk.get B4 rfl) ?_; refine go TL_ok 200 rfl ?_) | (refine guardA (b := true) rfl rfl rfl rfl (fun _ => ?_) (fun e => by cases e); refine go TL_ok 200 rfl ?_) | (refine guardA (b := false) rfl rfl rfl rfl (fun e => by cases e) (fun _ => ?_); refine go TL_ok 200 rfl ?_) | (refine condT rfl rfl ?_; refine go TL_ok 200 rfl ?_) | (refine condF rfl rfl ?_; refine go TL_ok 200 rfl ?_))
  obtain ⟨hb1, hb2⟩ := hin.bd ha
  have hrl : (runC m.a (zipC m.a.days o.l u.l l.l) m.a.b).1.length ≤ 1000000 := by
    have := runC_len m.a (zipC m.a.days o.l u.l l.l) m.a.b
    have h3 : (zipC m.a.days o.l u.l l.l).length ≤ m.a.days.length := by unfold zipC; rw [List.length_zip]; exact Nat.min_le_left _ _
    omega
  refine call rfl rfl rfl (ok _ (by decide) rfl) (rCourse_any m o.l u.l l.l o.A u.A l.A o.c u.c l.c _ _ _ _ Hm ha So Su Sv hL hin.l1 hin.l2 hb1 hb2) ?_
  rintro x w ⟨A8, c8, rfl, qk, S8⟩
  have B4 := B4.no qk
  have So := So.no qk
  have Su := Su.no qk
  have Sv := Sv.no qk
  have Hm := Hm.no qk
  have S9 := S9.no qk
  have q := q.trans qk
  have S8 := own_sl S8
  refine go TL_ok 200 rfl ?_
  repeat (first | (refine ldA TL_ok rfl rfl rfl rfl rfl (Bk.all B4) ?_; refine go TL_ok 200 rfl ?_) | (refine ld TL_ok rfl rfl rfl rfl (Bk.get B4 rfl) ?_; refine go TL_ok 200 rfl ?_) | (refine guardA (b := true) rfl rfl rfl rfl (fun _ => ?_) (fun e => by cases e); refine go TL_ok 200 rfl ?_) | (refine guardA (b := false) rfl rfl rfl rfl (fun e => by cases e) (fun _ => ?_); refine go TL_ok 200 rfl ?_) | (refine condT rfl rfl ?_; refine go TL_ok 200 rfl ?_) | (refine condF rfl rfl ?_; refine go TL_ok 200 rfl ?_))
  refine call rfl rfl rfl (ok _ (by decide) rfl) (SameStocks_any _ _ A9 A8 c9 c8 _ _ _ S9 S8 hrl rfl) ?_
  rintro x w ⟨rfl, qk⟩
  have B4 := B4.no qk
  have So := So.no qk
  have Su := Su.no qk
  have Sv := Sv.no qk
  have Hm := Hm.no qk
  have S9 := S9.no qk
  have q := q.trans qk
  refine go TL_ok 200 rfl ?_
  repeat (first | (refine ldA TL_ok rfl rfl rfl rfl rfl (Bk.all B4) ?_; refine go TL_ok 200 rfl ?_) | (refine ld TL_ok rfl rfl rfl rfl (Bk.get B4 rfl) ?_; refine go TL_ok 200 rfl ?_) | (refine guardA (b := true) rfl rfl rfl rfl (fun _ => ?_) (fun e => by cases e); refine go TL_ok 200 rfl ?_) | (refine guardA (b := false) rfl rfl rfl rfl (fun e => by cases e) (fun _ => ?_); refine go TL_ok 200 rfl ?_) | (refine condT rfl rfl ?_; refine go TL_ok 200 rfl ?_) | (refine condF rfl rfl ?_; refine go TL_ok 200 rfl ?_))
  rw [show (dayC (runC m.a (zipC m.a.days o.l u.l l.l) m.a.b) == dayC (runC m.a (zipC m.a.days o.l u.l l.l) m.a.b)) = true by simp]
  refine go TL_ok 200 rfl ?_
  repeat (first | (refine ldA TL_ok rfl rfl rfl rfl rfl (Bk.all B4) ?_; refine go TL_ok 200 rfl ?_) | (refine ld TL_ok rfl rfl rfl rfl (Bk.get B4 rfl) ?_; refine go TL_ok 200 rfl ?_) | (refine guardA (b := true) rfl rfl rfl rfl (fun _ => ?_) (fun e => by cases e); refine go TL_ok 200 rfl ?_) | (refine guardA (b := false) rfl rfl rfl rfl (fun e => by cases e) (fun _ => ?_); refine go TL_ok 200 rfl ?_) | (refine condT rfl rfl ?_; refine go TL_ok 200 rfl ?_) | (refine condF rfl rfl ?_; refine go TL_ok 200 rfl ?_))
  refine call rfl rfl rfl (ok _ (by decide) rfl) (known_any _) ?_
  rintro v wk ⟨rfl, qk⟩
  refine go TL_ok 200 rfl ?_
  exact ret (ret1 (v := .bool true) Try.results14 rfl ⟨rfl, q.trans qk⟩)
end Go.Proofs.Yteenhfnamjbaiaa
