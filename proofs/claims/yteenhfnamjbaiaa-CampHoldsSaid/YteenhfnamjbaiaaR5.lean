/- The contracts of Course; of Safe in the specification. -/
import Derived.Test.YteenhfnamjbaiaaR4
namespace Go.Proofs.Yteenhfnamjbaiaa
open Go.Ev Go.Proofs
open Go.Camp (Stk Sup SupOk DyOk okN nextN safeN runs sooner rawN fineN capN runC dayC least)
attribute [local irreducible] At AtH
set_option maxRecDepth 20000 in
set_option maxHeartbeats 16000000 in
theorem Course_any (m : Sm) (sch : List Bool) (sun link : List Int) (A1 A2 A3 : Option Addr) (c1 c2 c3 C1 C2 C3 : Nat) (w0 : World) (H : SuM w0 m) (S1 : Sl w0 C1 1 A1 sch.length (bL sch)) (S2 : Sl w0 C2 1 A2 sun.length (iL sun)) (S3 : Sl w0 C3 1 A3 link.length (iL link)) :
    Ret Try.prog 51 [.agg (suL m).toArray, .slice A1 sch.length c1, .slice A2 sun.length c2, .slice A3 link.length c3] w0 fun v w' => Chg No w0 w' ∧ ((¬ (SupOk m.a ∧ sch.length = m.a.days.length ∧ DaysIn m.a sun link) ∧ v = .tuple #[.slice none 0 0, I 0, I 2]) ∨
      ((SupOk m.a ∧ sch.length = m.a.days.length ∧ DaysIn m.a sun link) ∧ ∃ A c, v = .tuple #[.slice A (runC m.a (zipC m.a.days sch sun link) m.a.b).1.length c, I (dayC (runC m.a (zipC m.a.days sch sun link) m.a.b)), I 0] ∧
      w'.ownsRow w0.heap.size 41 3 (.slice A (runC m.a (zipC m.a.days sch sun link) m.a.b).1.length c) (runC m.a (zipC m.a.days sch sun link) m.a.b).1.length ((runC m.a (zipC m.a.days sch sun link) m.a.b).1.flatMap skL))) := by
  refine enter Try.func51 rfl Try.ntmps51 rfl ?_
  refine go TL_ok 200 rfl ?_
  refine bx rfl rfl rfl (cs := suL m) rfl ?_
  intro g4 u4 hg4 hs4 q4 B4
  have q := q4
  refine go TL_ok 200 rfl ?_
  repeat ((first | refine ldA TL_ok rfl rfl rfl rfl rfl (Bk.all B4) ?_ | refine ld TL_ok rfl rfl rfl rfl (Bk.get B4 rfl) ?_ | refine guardA (b := true) rfl rfl rfl rfl (fun _ => ?_) (fun e => by cases e) | refine guardA (b := false) rfl rfl rfl rfl (fun e => by cases e) (fun _ => ?_) | refine condT rfl rfl ?_ | refine condF rfl rfl ?_); refine go TL_ok 200 rfl ?_)
  refine call rfl rfl rfl (ok _ (by decide) rfl) (supplied_any m _ (H.no q)) ?_
  rintro x w ⟨⟨b, rfl, hb⟩, qk⟩
  have B4 := B4.no qk
  have q := q.trans qk
  by_cases hbb : b = true
  case neg =>
    have e := Bool.eq_false_iff.2 hbb
    subst e
    refine go TL_ok 200 rfl ?_
    repeat ((first | refine ldA TL_ok rfl rfl rfl rfl rfl (Bk.all B4) ?_ | refine ld TL_ok rfl rfl rfl rfl (Bk.get B4 rfl) ?_ | refine guardA (b := true) rfl rfl rfl rfl (fun _ => ?_) (fun e => by cases e) | refine guardA (b := false) rfl rfl rfl rfl (fun e => by cases e) (fun _ => ?_) | refine condT rfl rfl ?_ | refine condF rfl rfl ?_); refine go TL_ok 200 rfl ?_)
    exact ret (ret3 (v := .slice none 0 0) (x := I 0) (y := I 2) Try.results51 rfl rfl rfl ⟨q, .inl ⟨fun h => hbb (hb.2 h.1), rfl⟩⟩)
  subst hbb
  have ha := hb.1 rfl
  have h30 := ha.len
  refine go TL_ok 200 rfl ?_
  repeat ((first | refine ldA TL_ok rfl rfl rfl rfl rfl (Bk.all B4) ?_ | refine ld TL_ok rfl rfl rfl rfl (Bk.get B4 rfl) ?_ | refine guardA (b := true) rfl rfl rfl rfl (fun _ => ?_) (fun e => by cases e) | refine guardA (b := false) rfl rfl rfl rfl (fun e => by cases e) (fun _ => ?_) | refine condT rfl rfl ?_ | refine condF rfl rfl ?_); refine go TL_ok 200 rfl ?_)
  by_cases h1 : sch.length = m.a.days.length
  case neg =>
    have e : ((sch.length : Int) != (m.a.days.length : Int)) = true := bne_iff_ne.2 (by omega)
    rw [e]
    refine go TL_ok 200 rfl ?_
    repeat ((first | refine ldA TL_ok rfl rfl rfl rfl rfl (Bk.all B4) ?_ | refine ld TL_ok rfl rfl rfl rfl (Bk.get B4 rfl) ?_ | refine guardA (b := true) rfl rfl rfl rfl (fun _ => ?_) (fun e => by cases e) | refine guardA (b := false) rfl rfl rfl rfl (fun e => by cases e) (fun _ => ?_) | refine condT rfl rfl ?_ | refine condF rfl rfl ?_); refine go TL_ok 200 rfl ?_)
    exact ret (ret3 (v := .slice none 0 0) (x := I 0) (y := I 2) Try.results51 rfl rfl rfl ⟨q, .inl ⟨fun h => h1 h.2.1, rfl⟩⟩)
  have e : ((sch.length : Int) != (m.a.days.length : Int)) = false := bne_eq_false_iff_eq.2 (by omega)
  rw [e]
  refine go TL_ok 200 rfl ?_
  repeat ((first | refine ldA TL_ok rfl rfl rfl rfl rfl (Bk.all B4) ?_ | refine ld TL_ok rfl rfl rfl rfl (Bk.get B4 rfl) ?_ | refine guardA (b := true) rfl rfl rfl rfl (fun _ => ?_) (fun e => by cases e) | refine guardA (b := false) rfl rfl rfl rfl (fun e => by cases e) (fun _ => ?_) | refine condT rfl rfl ?_ | refine condF rfl rfl ?_); refine go TL_ok 200 rfl ?_)
  by_cases h2 : sun.length = m.a.days.length
  case neg =>
    have e : ((sun.length : Int) != (m.a.days.length : Int)) = true := bne_iff_ne.2 (by omega)
    rw [e]
    refine go TL_ok 200 rfl ?_
    repeat ((first | refine ldA TL_ok rfl rfl rfl rfl rfl (Bk.all B4) ?_ | refine ld TL_ok rfl rfl rfl rfl (Bk.get B4 rfl) ?_ | refine guardA (b := true) rfl rfl rfl rfl (fun _ => ?_) (fun e => by cases e) | refine guardA (b := false) rfl rfl rfl rfl (fun e => by cases e) (fun _ => ?_) | refine condT rfl rfl ?_ | refine condF rfl rfl ?_); refine go TL_ok 200 rfl ?_)
    exact ret (ret3 (v := .slice none 0 0) (x := I 0) (y := I 2) Try.results51 rfl rfl rfl ⟨q, .inl ⟨fun h => h2 h.2.2.l1, rfl⟩⟩)
  have e : ((sun.length : Int) != (m.a.days.length : Int)) = false := bne_eq_false_iff_eq.2 (by omega)
  rw [e]
  refine go TL_ok 200 rfl ?_
  repeat ((first | refine ldA TL_ok rfl rfl rfl rfl rfl (Bk.all B4) ?_ | refine ld TL_ok rfl rfl rfl rfl (Bk.get B4 rfl) ?_ | refine guardA (b := true) rfl rfl rfl rfl (fun _ => ?_) (fun e => by cases e) | refine guardA (b := false) rfl rfl rfl rfl (fun e => by cases e) (fun _ => ?_) | refine condT rfl rfl ?_ | refine condF rfl rfl ?_); refine go TL_ok 200 rfl ?_)
  by_cases h3 : link.length = m.a.days.length
  case neg =>
    have e : ((link.length : Int) != (m.a.days.length : Int)) = true := bne_iff_ne.2 (by omega)
    rw [e]
    refine go TL_ok 200 rfl ?_
    repeat ((first | refine ldA TL_ok rfl rfl rfl rfl rfl (Bk.all B4) ?_ | refine ld TL_ok rfl rfl rfl rfl (Bk.get B4 rfl) ?_ | refine guardA (b := true) rfl rfl rfl rfl (fun _ => ?_) (fun e => by cases e) | refine guardA (b := false) rfl rfl rfl rfl (fun e => by cases e) (fun _ => ?_) | refine condT rfl rfl ?_ | refine condF rfl rfl ?_); refine go TL_ok 200 rfl ?_)
    exact ret (ret3 (v := .slice none 0 0) (x := I 0) (y := I 2) Try.results51 rfl rfl rfl ⟨q, .inl ⟨fun h => h3 h.2.2.l2, rfl⟩⟩)
  have e : ((link.length : Int) != (m.a.days.length : Int)) = false := bne_eq_false_iff_eq.2 (by omega)
  rw [e]
  refine go TL_ok 200 rfl ?_
  repeat ((first | refine ldA TL_ok rfl rfl rfl rfl rfl (Bk.all B4) ?_ | refine ld TL_ok rfl rfl rfl rfl (Bk.get B4 rfl) ?_ | refine guardA (b := true) rfl rfl rfl rfl (fun _ => ?_) (fun e => by cases e) | refine guardA (b := false) rfl rfl rfl rfl (fun e => by cases e) (fun _ => ?_) | refine condT rfl rfl ?_ | refine condF rfl rfl ?_); refine go TL_ok 200 rfl ?_)
  refine loop [1, 2, 3, 4, 11, 44, 45, 46] (fun j : Nat => [.slice A1 sch.length c1, .slice A2 sun.length c2, .slice A3 link.length c3, .pointer (some ⟨g4, 0, none⟩), .int .i64 (m.a.days.length : Int), .slice m.A m.a.days.length m.cap, .int .i64 (m.a.days.length : Int), .int .i64 (j : Int)])
    (fun j w' => j ≤ m.a.days.length ∧ Chg No w0 w' ∧ Bk w' g4 44 (suL m) ∧ ∀ (i : Nat) d s l, i < j → m.a.days[i]? = some d → sun[i]? = some s → link[i]? = some l → (d.slo ≤ s ∧ s ≤ d.shi) ∧ d.llo ≤ l ∧ l ≤ d.lhi) (fun j => m.a.days.length - j) 0 (fun _ => rfl) rfl ⟨Nat.zero_le _, q, B4, fun i d s l h => absurd h (Nat.not_lt_zero _)⟩ ?_
  rintro j τ w ⟨hj, q, B4, hm⟩
  refine go TL_ok 200 rfl ?_
  refine condD rfl (fun hlt => ?_) (fun hlt => ?_)
  · have hlt : j < m.a.days.length := by omega
    obtain ⟨d, hd⟩ := getA_of hlt
    obtain ⟨s, hs'⟩ := getA_of (l := sun) (i := j) (by omega)
    obtain ⟨l, hl'⟩ := getA_of (l := link) (i := j) (by omega)
    obtain ⟨b1, o1, hA1, hb1, hc1⟩ := Sl.el (H.no q).sl dyL_len hd
    refine go TL_ok 200 rfl ?_
    rw [hA1]
    refine idx TL_ok rfl rfl rfl rfl rfl j rfl hlt ?_
    refine go TL_ok 200 rfl ?_
    refine ldA TL_ok rfl rfl rfl rfl rfl hc1 ?_
    rw [← hA1]
    refine go TL_ok 200 rfl ?_
    have yB4 := B4.lt
    have yq := q.size
    refine nw rfl rfl (z := .agg #[I 0, I 0, I 0, I 0, I 0]) (by kernel_rfl) (cs := [I 0, I 0, I 0, I 0, I 0]) rfl ?_
    intro g13 w hg13 hs13 qk B13
    have B4 := B4.no qk
    have q := q.trans qk
    refine go TL_ok 200 rfl ?_
    refine stA TL_ok rfl rfl rfl rfl (vs := dyL d) rfl rfl rfl B13 rfl ?_
    intro w qk B13 hz13
    have B13 : Bk w g13 95 (dyL d) := B13
    have B4 := Bk.keep B4 qk (by omega)
    have q := q.step qk (fun k hk e => by omega)
    obtain ⟨b2, o2, hA2, hb2, hc2⟩ := (S2.no q).elI hs'
    obtain ⟨b3, o3, hA3, hb3, hc3⟩ := (S3.no q).elI hl'
    have y2 := (S2.no q).2.1
    have y3 := (S3.no q).2.1
    refine go TL_ok 200 rfl ?_
    refine draw mixed (fun w' => Chg No w w') ([0,1,2,3,4,5,6,7,8,9].map (fun i => (i, true)) ++ [(10, false)] ++ [11,12,13,14,15,16,17,18,19,20,21,22].map (fun i => (i, true)) ++ [(23, false)] ++ [24,25].map (fun i => (i, true))) rfl (by kernel_rfl) (Chg.drew _) ?_
    refine goH TL_ok 200 rfl ?_
    repeat (first | (refine guardHA (b := true) rfl rfl rfl rfl (fun _ => ?_) (fun h => by cases h); refine goH TL_ok 200 rfl ?_) | (refine guardHA (b := false) rfl rfl rfl rfl (fun h => by cases h) (fun _ => ?_); refine goH TL_ok 200 rfl ?_))
    rw [hA2]
    refine quietH rfl (fun w' hS => r_idx TL_ok rfl rfl rfl rfl j rfl (by omega)) ?_
    refine goH TL_ok 200 rfl ?_
    repeat (first | (refine guardHA (b := true) rfl rfl rfl rfl (fun _ => ?_) (fun h => by cases h); refine goH TL_ok 200 rfl ?_) | (refine guardHA (b := false) rfl rfl rfl rfl (fun h => by cases h) (fun _ => ?_); refine goH TL_ok 200 rfl ?_))
    refine quietH rfl (fun w' hS => r_load TL_ok rfl rfl rfl ((hS.cell (a := ⟨b2, o2 + j * 1, none⟩) (by show b2 < _; omega) (fun h => h)).trans hc2)) ?_
    rw [← hA2]
    refine goH TL_ok 200 rfl ?_
    repeat (first | (refine guardHA (b := true) rfl rfl rfl rfl (fun _ => ?_) (fun h => by cases h); refine goH TL_ok 200 rfl ?_) | (refine guardHA (b := false) rfl rfl rfl rfl (fun h => by cases h) (fun _ => ?_); refine goH TL_ok 200 rfl ?_))
    refine quietH rfl (fun w' hS => r_load TL_ok rfl rfl rfl (Bk.get (B13.no hS) rfl)) ?_
    refine goH TL_ok 200 rfl ?_
    repeat (first | (refine guardHA (b := true) rfl rfl rfl rfl (fun _ => ?_) (fun h => by cases h); refine goH TL_ok 200 rfl ?_) | (refine guardHA (b := false) rfl rfl rfl rfl (fun h => by cases h) (fun _ => ?_); refine goH TL_ok 200 rfl ?_))
    refine quietH rfl (fun w' hS => r_load TL_ok rfl rfl rfl (Bk.get (B13.no hS) rfl)) ?_
    refine goH TL_ok 200 rfl ?_
    repeat (first | (refine guardHA (b := true) rfl rfl rfl rfl (fun _ => ?_) (fun h => by cases h); refine goH TL_ok 200 rfl ?_) | (refine guardHA (b := false) rfl rfl rfl rfl (fun h => by cases h) (fun _ => ?_); refine goH TL_ok 200 rfl ?_))
    have qd := Chg.drew w
    refine callE rfl rfl rfl (ok _ (by decide) rfl) (within_any s d.slo d.shi _) ?_
    rintro x w1 ⟨rfl, rfl⟩
    refine ⟨qd, ?_⟩
    by_cases g1 : d.slo ≤ s ∧ s ≤ d.shi
    case neg =>
      rw [decide_eq_false g1]
      refine goH TL_ok 200 rfl ?_
      repeat (first | (refine guardHA (b := true) rfl rfl rfl rfl (fun _ => ?_) (fun h => by cases h); refine goH TL_ok 200 rfl ?_) | (refine guardHA (b := false) rfl rfl rfl rfl (fun h => by cases h) (fun _ => ?_); refine goH TL_ok 200 rfl ?_))
      refine passE rfl ?_
      refine goH TL_ok 200 rfl ?_
      repeat (first | (refine guardHA (b := true) rfl rfl rfl rfl (fun _ => ?_) (fun h => by cases h); refine goH TL_ok 200 rfl ?_) | (refine guardHA (b := false) rfl rfl rfl rfl (fun h => by cases h) (fun _ => ?_); refine goH TL_ok 200 rfl ?_))
      refine endH ?_
      have q := q.trans qd
      refine go TL_ok 200 rfl ?_
      repeat ((first | refine ldA TL_ok rfl rfl rfl rfl rfl (Bk.all B4) ?_ | refine ldA TL_ok rfl rfl rfl rfl rfl (Bk.all B13) ?_ | refine ld TL_ok rfl rfl rfl rfl (Bk.get B4 rfl) ?_ | refine ld TL_ok rfl rfl rfl rfl (Bk.get B13 rfl) ?_ | refine guardA (b := true) rfl rfl rfl rfl (fun _ => ?_) (fun e => by cases e) | refine guardA (b := false) rfl rfl rfl rfl (fun e => by cases e) (fun _ => ?_) | refine condT rfl rfl ?_ | refine condF rfl rfl ?_); refine go TL_ok 200 rfl ?_)
      exact ret (ret3 (v := .slice none 0 0) (x := I 0) (y := I 2) Try.results51 rfl rfl rfl ⟨q, .inl ⟨fun h => g1 (h.2.2.d j d s l hd hs' hl').1, rfl⟩⟩)
    rw [decide_eq_true g1]
    refine goH TL_ok 200 rfl ?_
    repeat (first | (refine guardHA (b := true) rfl rfl rfl rfl (fun _ => ?_) (fun h => by cases h); refine goH TL_ok 200 rfl ?_) | (refine guardHA (b := false) rfl rfl rfl rfl (fun h => by cases h) (fun _ => ?_); refine goH TL_ok 200 rfl ?_))
    rw [hA3]
    refine quietH rfl (fun w' hS => r_idx TL_ok rfl rfl rfl rfl j rfl (by omega)) ?_
    refine goH TL_ok 200 rfl ?_
    repeat (first | (refine guardHA (b := true) rfl rfl rfl rfl (fun _ => ?_) (fun h => by cases h); refine goH TL_ok 200 rfl ?_) | (refine guardHA (b := false) rfl rfl rfl rfl (fun h => by cases h) (fun _ => ?_); refine goH TL_ok 200 rfl ?_))
    refine quietH rfl (fun w' hS => r_load TL_ok rfl rfl rfl ((hS.cell (a := ⟨b3, o3 + j * 1, none⟩) (by show b3 < _; omega) (fun h => h)).trans hc3)) ?_
    rw [← hA3]
    refine goH TL_ok 200 rfl ?_
    repeat (first | (refine guardHA (b := true) rfl rfl rfl rfl (fun _ => ?_) (fun h => by cases h); refine goH TL_ok 200 rfl ?_) | (refine guardHA (b := false) rfl rfl rfl rfl (fun h => by cases h) (fun _ => ?_); refine goH TL_ok 200 rfl ?_))
    refine quietH rfl (fun w' hS => r_load TL_ok rfl rfl rfl (Bk.get (B13.no hS) rfl)) ?_
    refine goH TL_ok 200 rfl ?_
    repeat (first | (refine guardHA (b := true) rfl rfl rfl rfl (fun _ => ?_) (fun h => by cases h); refine goH TL_ok 200 rfl ?_) | (refine guardHA (b := false) rfl rfl rfl rfl (fun h => by cases h) (fun _ => ?_); refine goH TL_ok 200 rfl ?_))
    refine quietH rfl (fun w' hS => r_load TL_ok rfl rfl rfl (Bk.get (B13.no hS) rfl)) ?_
    refine goH TL_ok 200 rfl ?_
    repeat (first | (refine guardHA (b := true) rfl rfl rfl rfl (fun _ => ?_) (fun h => by cases h); refine goH TL_ok 200 rfl ?_) | (refine guardHA (b := false) rfl rfl rfl rfl (fun h => by cases h) (fun _ => ?_); refine goH TL_ok 200 rfl ?_))
    refine callE rfl rfl rfl (ok _ (by decide) rfl) (within_any l d.llo d.lhi _) ?_
    rintro x w1 ⟨rfl, rfl⟩
    refine ⟨qd, ?_⟩
    by_cases g2 : d.llo ≤ l ∧ l ≤ d.lhi
    case neg =>
      rw [decide_eq_false g2]
      refine goH TL_ok 200 rfl ?_
      repeat (first | (refine guardHA (b := true) rfl rfl rfl rfl (fun _ => ?_) (fun h => by cases h); refine goH TL_ok 200 rfl ?_) | (refine guardHA (b := false) rfl rfl rfl rfl (fun h => by cases h) (fun _ => ?_); refine goH TL_ok 200 rfl ?_))
      refine endH ?_
      have q := q.trans qd
      refine go TL_ok 200 rfl ?_
      repeat ((first | refine ldA TL_ok rfl rfl rfl rfl rfl (Bk.all B4) ?_ | refine ldA TL_ok rfl rfl rfl rfl rfl (Bk.all B13) ?_ | refine ld TL_ok rfl rfl rfl rfl (Bk.get B4 rfl) ?_ | refine ld TL_ok rfl rfl rfl rfl (Bk.get B13 rfl) ?_ | refine guardA (b := true) rfl rfl rfl rfl (fun _ => ?_) (fun e => by cases e) | refine guardA (b := false) rfl rfl rfl rfl (fun e => by cases e) (fun _ => ?_) | refine condT rfl rfl ?_ | refine condF rfl rfl ?_); refine go TL_ok 200 rfl ?_)
      exact ret (ret3 (v := .slice none 0 0) (x := I 0) (y := I 2) Try.results51 rfl rfl rfl ⟨q, .inl ⟨fun h => g2 (h.2.2.d j d s l hd hs' hl').2, rfl⟩⟩)
    rw [decide_eq_true g2]
    refine goH TL_ok 200 rfl ?_
    repeat (first | (refine guardHA (b := true) rfl rfl rfl rfl (fun _ => ?_) (fun h => by cases h); refine goH TL_ok 200 rfl ?_) | (refine guardHA (b := false) rfl rfl rfl rfl (fun h => by cases h) (fun _ => ?_); refine goH TL_ok 200 rfl ?_))
    refine endH ?_
    have q := q.trans qd
    have B4 := B4.no qd
    refine go TL_ok 200 rfl ?_
    repeat ((first | refine ldA TL_ok rfl rfl rfl rfl rfl (Bk.all B4) ?_ | refine ld TL_ok rfl rfl rfl rfl (Bk.get B4 rfl) ?_ | refine guardA (b := true) rfl rfl rfl rfl (fun _ => ?_) (fun e => by cases e) | refine guardA (b := false) rfl rfl rfl rfl (fun e => by cases e) (fun _ => ?_) | refine condT rfl rfl ?_ | refine condF rfl rfl ?_); refine go TL_ok 200 rfl ?_)
    rw [w64_id (x := (j : Int) + 1) (by omega) (by omega)]
    refine round ⟨j + 1, rfl, ⟨by omega, q, B4, fun i d' s' l' hi hd' hs'' hl'' => ?_⟩, by omega⟩
    rcases Nat.lt_or_ge i j with h' | h'
    · exact hm i d' s' l' h' hd' hs'' hl''
    · obtain rfl : i = j := by omega
      rw [hd] at hd'; cases hd'
      rw [hs'] at hs''; cases hs''
      rw [hl'] at hl''; cases hl''
      exact ⟨g1, g2⟩
  obtain rfl : j = m.a.days.length := by omega
  have hin : DaysIn m.a sun link := ⟨h2, h3, fun j d s l a b c => hm j d s l (List.getElem?_eq_some_iff.1 a).1 a b c⟩
  clear hm
  obtain ⟨Z, hZ⟩ : ∃ Z, Z = zipC m.a.days sch sun link := ⟨_, rfl⟩
  rw [← hZ]
  have hZl : Z.length = m.a.days.length := by rw [hZ]; unfold zipC; simp [h1, h2, h3]
  refine go TL_ok 200 rfl ?_
  repeat ((first | refine ldA TL_ok rfl rfl rfl rfl rfl (Bk.all B4) ?_ | refine ld TL_ok rfl rfl rfl rfl (Bk.get B4 rfl) ?_ | refine guardA (b := true) rfl rfl rfl rfl (fun _ => ?_) (fun e => by cases e) | refine guardA (b := false) rfl rfl rfl rfl (fun e => by cases e) (fun _ => ?_) | refine condT rfl rfl ?_ | refine condF rfl rfl ?_); refine go TL_ok 200 rfl ?_)
  refine ldA TL_ok rfl rfl rfl rfl rfl (bk_at (ds := skL m.a.b) B4 rfl) ?_
  refine go TL_ok 200 rfl ?_
  have lq0 := q.size
  have yB4 := B4.lt
  have yq := q.size
  refine nw rfl rfl (z := .agg #[I 0, I 0, I 0, I 0]) (by kernel_rfl) (cs := [I 0, I 0, I 0, I 0]) rfl ?_
  intro g15 w hg15 hs15 qk B15
  have B4 := B4.no qk
  have q := q.trans qk
  refine go TL_ok 200 rfl ?_
  refine stA TL_ok rfl rfl rfl rfl (vs := stL m.a.b 0) rfl rfl rfl B15 rfl ?_
  intro w qk B15 hz15
  have B15 : Bk w g15 135 (stL m.a.b 0) := B15
  have B4 := Bk.keep B4 qk (by omega)
  have q := q.step qk (fun k hk e => by omega)
  have l4 := B4.lt
  have u415 : g4 < g15 := by omega
  have hw15 : w0.heap.size ≤ g15 := by omega
  clear hg15 hs15 hz15
  refine go TL_ok 200 rfl ?_
  repeat ((first | refine ldA TL_ok rfl rfl rfl rfl rfl (Bk.all B4) ?_ | refine ldA TL_ok rfl rfl rfl rfl rfl (Bk.all B15) ?_ | refine ld TL_ok rfl rfl rfl rfl (Bk.get B4 rfl) ?_ | refine ld TL_ok rfl rfl rfl rfl (Bk.get B15 rfl) ?_ | refine guardA (b := true) rfl rfl rfl rfl (fun _ => ?_) (fun e => by cases e) | refine guardA (b := false) rfl rfl rfl rfl (fun e => by cases e) (fun _ => ?_) | refine condT rfl rfl ?_ | refine condF rfl rfl ?_); refine go TL_ok 200 rfl ?_)
  refine loop [2, 3, 4, 14, 15, 81, 82, 83] (fun x : Nat × Stk × Option Addr × Nat × List Stk => [.slice A2 sun.length c2, .slice A3 link.length c3, .pointer (some ⟨g4, 0, none⟩), .slice x.2.2.1 x.2.2.2.2.length x.2.2.2.1, .pointer (some ⟨g15, 0, none⟩), .slice A1 sch.length c1, .int .i64 (sch.length : Int), .int .i64 (x.1 : Int)])
    (fun x w' => x.1 ≤ m.a.days.length ∧ x.2.2.2.2.length = x.1 ∧ Chg No w0 w' ∧ Bk w' g4 44 (suL m) ∧ Bk w' g15 135 (stL x.2.1 x.1) ∧ StD x.1 x.2.1 ∧ w'.ownsRow (g15 + 1) 41 3 (.slice x.2.2.1 x.2.2.2.2.length x.2.2.2.1) x.2.2.2.2.length (x.2.2.2.2.flatMap skL) ∧
      runC m.a Z m.a.b = (x.2.2.2.2 ++ (runC m.a (Z.drop x.1) x.2.1).1, (runC m.a (Z.drop x.1) x.2.1).2)) (fun x => m.a.days.length - x.1) (0, m.a.b, none, 0, []) (fun _ => rfl) rfl ⟨by simp, rfl, q, B4, B15, StD.begin ha, own_nil, rfl⟩ ?_
  rintro ⟨j, x, A, c, out⟩ τ w ⟨hj, hol, q, B4, B15, hD, own, hrun⟩
  simp only at hj hol B15 hD own hrun
  dsimp only
  refine go TL_ok 200 rfl ?_
  repeat ((first | refine ldA TL_ok rfl rfl rfl rfl rfl (Bk.all B4) ?_ | refine ld TL_ok rfl rfl rfl rfl (Bk.get B4 rfl) ?_ | refine guardA (b := true) rfl rfl rfl rfl (fun _ => ?_) (fun e => by cases e) | refine guardA (b := false) rfl rfl rfl rfl (fun e => by cases e) (fun _ => ?_) | refine condT rfl rfl ?_ | refine condF rfl rfl ?_); refine go TL_ok 200 rfl ?_)
  refine condD rfl (fun hlt => ?_) (fun hlt => ?_)
  · have hlt : j < m.a.days.length := by have : (j : Int) < (sch.length : Int) := hlt; omega
    obtain ⟨d, hd⟩ := getA_of hlt
    obtain ⟨r, hr⟩ := getA_of (l := sch) (i := j) (by omega)
    obtain ⟨s, hs'⟩ := getA_of (l := sun) (i := j) (by omega)
    obtain ⟨l, hl'⟩ := getA_of (l := link) (i := j) (by omega)
    have hZj : Z[j]? = some (d, r, s, l) := by rw [hZ]; exact zipC_get hd hr hs' hl'
    have hdo := ha.days d (List.mem_of_getElem? hd)
    have hin' := hin.d j d s l hd hs' hl'
    have d1 := hdo.s0; have d2 := hdo.s2; have d3 := hdo.l0; have d4 := hdo.l2
    obtain ⟨b1, o1, hA1, hb1, hc1⟩ := Sl_elB (S1.no q) hr
    obtain ⟨b2, o2, hA2, hb2, hc2⟩ := (S2.no q).elI hs'
    obtain ⟨b3, o3, hA3, hb3, hc3⟩ := (S3.no q).elI hl'
    have y1 := (S1.no q).2.1
    have y2 := (S2.no q).2.1
    have y3 := (S3.no q).2.1
    have l4 := B4.lt
    have l15 := B15.lt
    refine go TL_ok 200 rfl ?_
    rw [hA1]
    refine idx TL_ok rfl rfl rfl rfl rfl j rfl (by omega) ?_
    refine go TL_ok 200 rfl ?_
    refine ld TL_ok rfl rfl rfl rfl (hc1) ?_
    refine go TL_ok 200 rfl ?_
    rw [← hA1]
    have z1 := S1.2.1
    have z2 := S2.2.1
    have z3 := S3.2.1
    refine go TL_ok 200 rfl ?_
    refine draw mixed (fun w' => Chg (fun k => k = g15) w w') ([1,2,3,4,5,6,7,8,9,10].map (fun i => (i, true)) ++ [(0, false)] ++ [(11, false)] ++ [12,13,14].map (fun i => (i, true)) ++ [(15, false)] ++ [16].map (fun i => (i, true))) rfl (by kernel_rfl) ((Chg.drew _).mono fun _ _ h => h.elim) ?_
    refine goH TL_ok 200 rfl ?_
    refine quietH rfl (fun w' hS => r_loadA TL_ok rfl rfl rfl rfl (B4.keep hS (by omega)).all) ?_
    refine goH TL_ok 200 rfl ?_
    rw [hA2]
    refine quietH rfl (fun w' hS => r_idx TL_ok rfl rfl rfl rfl j rfl (by omega)) ?_
    refine goH TL_ok 200 rfl ?_
    refine quietH rfl (fun w' hS => r_load TL_ok rfl rfl rfl ((hS.cell (a := ⟨b2, o2 + j * 1, none⟩) (by show b2 < _; omega) (by show ¬ b2 = g15; omega)).trans hc2)) ?_
    rw [← hA2]
    refine goH TL_ok 200 rfl ?_
    rw [hA3]
    refine quietH rfl (fun w' hS => r_idx TL_ok rfl rfl rfl rfl j rfl (by omega)) ?_
    refine goH TL_ok 200 rfl ?_
    refine quietH rfl (fun w' hS => r_load TL_ok rfl rfl rfl ((hS.cell (a := ⟨b3, o3 + j * 1, none⟩) (by show b3 < _; omega) (by show ¬ b3 = g15; omega)).trans hc3)) ?_
    rw [← hA3]
    refine goH TL_ok 200 rfl ?_
    have qd := Chg.drew w
    refine valE rfl (r_loadA TL_ok rfl rfl rfl rfl (B15.no qd).all) (qd.mono fun _ _ h => h.elim) ?_
    refine goH TL_ok 200 rfl ?_
    have X := next_any m x j d r s l
    refine callE rfl rfl rfl (ok _ (by decide) rfl) (X _ (H.no (q.trans qd)) ha hd (hD.b (by omega)) (by omega) (by omega) (by omega) (by omega)) ?_
    rintro v w1 ⟨rfl, qk⟩
    have qd := qd.trans qk
    refine ⟨qd.mono fun _ _ h => h.elim, ?_⟩
    refine goH TL_ok 200 rfl ?_
    refine stAE TL_ok rfl rfl rfl rfl (vs := stL (Go.Camp.nextN m.a d x r s l) (j + 1)) rfl rfl rfl (B15.no qd) rfl ?_
    intro w3 q3 B15 hz
    have B15 : Bk w3 g15 135 (stL (Go.Camp.nextN m.a d x r s l) (j + 1)) := B15
    have q13 : Chg (fun k => k = g15) w w3 := (qd.mono fun _ _ h => h.elim).trans q3
    refine ⟨q13, ?_⟩
    refine goH TL_ok 200 rfl ?_
    refine endH ?_
    have hA : ∀ k, (Value.slice A out.length c).ownBlock = some k → g15 + 1 ≤ k := fun k e => own_ge own e
    have B4 := B4.keep q13 (by omega)
    have own := own_keep own q13 (fun k e hh => by have := hA k e; omega)
    have q := q.step q13 (fun k hk e => by omega)
    have hrj : runC m.a (Z.drop j) x = if okN m.a d x r s l then ((Go.Camp.nextN m.a d x r s l) :: (runC m.a (Z.drop (j + 1)) (Go.Camp.nextN m.a d x r s l)).1, (runC m.a (Z.drop (j + 1)) (Go.Camp.nextN m.a d x r s l)).2) else ([], true) := by
      rw [drop_at hZj]; rfl
    cases hok : okN m.a d x r s l with
    | false =>
      rw [hok] at hrj
      rw [hrj] at hrun
      rw [hrun]
      refine go TL_ok 200 rfl ?_
      repeat ((first | refine ldA TL_ok rfl rfl rfl rfl rfl (Bk.all B4) ?_ | refine ld TL_ok rfl rfl rfl rfl (Bk.get B4 rfl) ?_ | refine guardA (b := true) rfl rfl rfl rfl (fun _ => ?_) (fun e => by cases e) | refine guardA (b := false) rfl rfl rfl rfl (fun e => by cases e) (fun _ => ?_) | refine condT rfl rfl ?_ | refine condF rfl rfl ?_); refine go TL_ok 200 rfl ?_)
      simp only [Bool.false_eq_true, if_false, List.append_nil]
      refine ret (ret3 (v := .slice A out.length c) (x := I (j : Int)) (y := I 0) Try.results51 rfl rfl rfl ⟨q, .inr ⟨⟨ha, h1, hin⟩, A, c, ?_, own_base own (by omega)⟩⟩)
      unfold dayC
      rw [if_pos rfl, hol]
    | true =>
      rw [hok] at hrj
      simp only [if_true] at hrj
      rw [hrj] at hrun
      refine go TL_ok 200 rfl ?_
      repeat ((first | refine ldA TL_ok rfl rfl rfl rfl rfl (Bk.all B4) ?_ | refine ld TL_ok rfl rfl rfl rfl (Bk.get B4 rfl) ?_ | refine guardA (b := true) rfl rfl rfl rfl (fun _ => ?_) (fun e => by cases e) | refine guardA (b := false) rfl rfl rfl rfl (fun e => by cases e) (fun _ => ?_) | refine condT rfl rfl ?_ | refine condF rfl rfl ?_); refine go TL_ok 200 rfl ?_)
      refine ldA TL_ok rfl rfl rfl rfl rfl (bk_at (ds := skL (Go.Camp.nextN m.a d x r s l)) B15 rfl) ?_
      refine go TL_ok 200 rfl ?_
      refine app1 TL_ok rfl rfl rfl rfl rfl rfl (cs := skL (Go.Camp.nextN m.a d x r s l)) rfl rfl rfl rfl (fun _ => rfl) (fun _ => rfl) (fun _ => rfl) own (by unfold maxLen; omega) (by show (out.length + 1) * 24 ≤ _; omega) (by have := B15.lt; omega) ?_
      intro gx A5 c5 w5 own5 q5 hs5 hown
      have B4 := B4.keep q5 (fun e => by have := hA _ e; omega)
      have B15 := B15.keep q5 (fun e => by have := hA _ e; omega)
      have q := q.step q5 (fun k hk e => by have := hA _ e; omega)
      refine go TL_ok 200 rfl ?_
      rw [w64_id (x := (j : Int) + 1) (by omega) (by omega)]
      have e1 : (out ++ [Go.Camp.nextN m.a d x r s l]).length = out.length + 1 := by simp
      refine round ⟨(j + 1, Go.Camp.nextN m.a d x r s l, A5, c5, out ++ [Go.Camp.nextN m.a d x r s l]), by simp only [e1]; rfl, ⟨by simp only; omega, by simp only [e1]; omega, q, B4, B15, hD.next ha hdo (by omega) (by omega) hok, ?_, ?_⟩, by simp only; omega⟩
      · simp only
        rw [e1, List.flatMap_append]
        simpa using own5
      · simp only
        rw [hrun, List.append_assoc]
        rfl
  · obtain rfl : j = m.a.days.length := by have : ¬ (j : Int) < (sch.length : Int) := hlt; omega
    have hrj : runC m.a (Z.drop m.a.days.length) x = ([], false) := by rw [List.drop_eq_nil_of_le (by omega)]; rfl
    rw [hrj] at hrun
    rw [hrun]
    simp only [List.append_nil]
    refine go TL_ok 200 rfl ?_
    exact ret (ret3 (v := .slice A out.length c) (x := I (-1)) (y := I 0) Try.results51 rfl rfl rfl ⟨q, .inr ⟨⟨ha, h1, hin⟩, A, c, rfl, own_base own (by omega)⟩⟩)
def tr56 : F3.Tr := .fork [(0, true), (1, true), (2, true), (3, true), (4, true), (5, true), (6, true), (7, true), (10, true), (11, true), (12, true), (13, true), (14, true), (15, true), (16, true), (17, true)] (.fork [(8, false)] (.fin [(9, false), (18, false), (19, false), (20, true), (21, true)]) (.fin [(18, false), (9, false), (19, false), (20, true), (21, true)])) (.fin [(18, false), (8, false), (9, false), (19, false), (20, true), (21, true)])
set_option maxRecDepth 20000 in
set_option maxHeartbeats 16000000 in
theorem rSafe_any (m : Sm) (sch : List Bool) (A1 : Option Addr) (c1 C1 : Nat) (w0 : World) (H : SuM w0 m) (ha : SupOk m.a) (S1 : Sl w0 C1 1 A1 sch.length (bL sch)) (h1 : sch.length = m.a.days.length) :
    Ret Try.prog 56 [.agg (suL m).toArray, .slice A1 sch.length c1] w0 fun v w' => v = .bool (safeN m.a m.a.days sch m.a.b) ∧ Chg No w0 w' := by
  have h30 := ha.len
  refine enter Try.func56 rfl Try.ntmps56 rfl ?_
  refine go TL_ok 200 rfl ?_
  refine bx rfl rfl rfl (cs := suL m) rfl ?_
  intro g2 u2 hg2 hs2 q2 B2
  have q := q2
  have l2 := B2.lt
  have hw0 : w0.heap.size ≤ g2 := by omega
  clear hg2
  refine go TL_ok 200 rfl ?_
  refine loop [1, 2, 5, 6, 7] (fun x : Nat × Option Addr × Nat × Option Addr × Nat => [.slice A1 sch.length c1, .pointer (some ⟨g2, 0, none⟩), .slice x.2.1 x.1 x.2.2.1, .slice x.2.2.2.1 x.1 x.2.2.2.2, .int .i64 (x.1 : Int)])
    (fun x w' => x.1 ≤ m.a.days.length ∧ Chg No w0 w' ∧ Bk w' g2 44 (suL m) ∧ w'.ownsRow (g2 + 1) 3 1 (.slice x.2.1 x.1 x.2.2.1) x.1 (iL ((m.a.days.take x.1).map (·.slo))) ∧ w'.ownsRow (g2 + 1) 3 1 (.slice x.2.2.2.1 x.1 x.2.2.2.2) x.1 (iL ((m.a.days.take x.1).map (·.llo))) ∧
      ∀ k, (Value.slice x.2.1 x.1 x.2.2.1).ownBlock = some k → (Value.slice x.2.2.2.1 x.1 x.2.2.2.2).ownBlock ≠ some k) (fun x => m.a.days.length - x.1) (0, none, 0, none, 0) (fun _ => rfl) rfl ⟨Nat.zero_le _, q, B2, own_nil, own_nil, (fun k e => by cases e)⟩ ?_
  rintro ⟨j, A, c, A', c'⟩ τ w ⟨hj, q, B2, own, own', hne⟩
  simp only at hj own own' hne
  dsimp only
  refine go TL_ok 200 rfl ?_
  repeat ((first | refine ldA TL_ok rfl rfl rfl rfl rfl (Bk.all B2) ?_ | refine ld TL_ok rfl rfl rfl rfl (Bk.get B2 rfl) ?_ | refine guardA (b := true) rfl rfl rfl rfl (fun _ => ?_) (fun e => by cases e) | refine guardA (b := false) rfl rfl rfl rfl (fun e => by cases e) (fun _ => ?_) | refine condT rfl rfl ?_ | refine condF rfl rfl ?_); refine go TL_ok 200 rfl ?_)
  refine condD rfl (fun hlt => ?_) (fun hlt => ?_)
  · have hlt : j < m.a.days.length := by have : (j : Int) < (m.a.days.length : Int) := hlt; omega
    obtain ⟨d, hd⟩ := getA_of hlt
    obtain ⟨b1, o1, hA1, hb1, hc1⟩ := Sl.el (H.no q).sl dyL_len hd
    have hb0 : b1 < w0.heap.size := by
      obtain ⟨b1', o1', hA1', hb1', _⟩ := Sl.el H.sl dyL_len hd
      rw [hA1] at hA1'
      injection hA1' with hA1'
      injection hA1' with e1 e2
      omega
    have l2 := B2.lt
    have hA : ∀ k, (Value.slice A j c).ownBlock = some k → g2 + 1 ≤ k ∧ k < w.heap.size := fun k e => ⟨own_ge own e, lt_own own e⟩
    have hA' : ∀ k, (Value.slice A' j c').ownBlock = some k → g2 + 1 ≤ k ∧ k < w.heap.size := fun k e => ⟨own_ge own' e, lt_own own' e⟩
    have t1 : iL ((m.a.days.take (j + 1)).map (·.slo)) = iL ((m.a.days.take j).map (·.slo)) ++ [I d.slo] := by rw [List.take_add_one, hd]; simp [iL]
    have t2 : iL ((m.a.days.take (j + 1)).map (·.llo)) = iL ((m.a.days.take j).map (·.llo)) ++ [I d.llo] := by rw [List.take_add_one, hd]; simp [iL]
    obtain ⟨M, hM⟩ : ∃ M : Nat → Prop, M = fun k => (Value.slice A j c).ownBlock = some k ∨ (Value.slice A' j c').ownBlock = some k := ⟨_, rfl⟩
    have hMg : ∀ k, k ≤ g2 → ¬ M k := fun k hk h => by
      rw [hM] at h
      rcases h with h | h
      · have := hA k h; omega
      · have := hA' k h; omega
    have hMl : ∀ k, (Value.slice A j c).ownBlock = some k → M k := fun k h => by rw [hM]; exact .inl h
    have hMr : ∀ k, (Value.slice A' j c').ownBlock = some k → M k := fun k h => by rw [hM]; exact .inr h
    have hMs : ∀ k, M k → k < w.heap.size := fun k h => by
      rw [hM] at h
      rcases h with h | h
      · exact (hA k h).2
      · exact (hA' k h).2
    clear hM
    refine go TL_ok 200 rfl ?_
    refine F3.drawT mixed (fun w' => Chg M w w') tr56 (by kernel_rfl) ((Chg.drew _).mono fun _ _ h => h.elim) ?_
    have qd : Chg M w w.drew := (Chg.drew w).mono fun _ _ h => h.elim
    have own := own_no own (Chg.drew w)
    have own' := own_no own' (Chg.drew w)
    have hs0 := qd.size
    refine F3.segK rfl ?_
    refine goH TL_ok 200 rfl ?_
    refine quietH rfl (fun w' hS => r_load TL_ok rfl rfl rfl (Bk.get (B2.keep hS (hMg _ (Nat.le_refl _))) rfl)) ?_
    refine goH TL_ok 200 rfl ?_
    rw [hA1]
    refine quietH rfl (fun w' hS => r_idx TL_ok rfl rfl rfl rfl j rfl (by omega)) ?_
    refine goH TL_ok 200 rfl ?_
    refine quietH rfl (fun w' hS => r_load TL_ok rfl rfl rfl ((hS.cell (a := ⟨b1, o1 + j * 5 + 0, none⟩) (by show b1 < _; omega) (hMg _ (by show b1 ≤ g2; omega))).trans (hc1.get (i := 0) rfl))) ?_
    rw [← hA1]
    refine goH TL_ok 200 rfl ?_
    refine quietH rfl (fun w' hS => r_load TL_ok rfl rfl rfl (Bk.get (B2.keep hS (hMg _ (Nat.le_refl _))) rfl)) ?_
    refine goH TL_ok 200 rfl ?_
    rw [hA1]
    refine quietH rfl (fun w' hS => r_idx TL_ok rfl rfl rfl rfl j rfl (by omega)) ?_
    refine goH TL_ok 200 rfl ?_
    refine quietH rfl (fun w' hS => r_load TL_ok rfl rfl rfl ((hS.cell (a := ⟨b1, o1 + j * 5 + 2, none⟩) (by show b1 < _; omega) (hMg _ (by show b1 ≤ g2; omega))).trans (hc1.get (i := 2) rfl))) ?_
    rw [← hA1]
    refine goH TL_ok 200 rfl ?_
    refine F3.forkK qd ?_ ?_
    · refine F3.segK rfl ?_
      refine goH TL_ok 200 rfl ?_
      refine rowE TL_ok rfl rfl rfl rfl rfl rfl (cs := [I d.slo]) rfl ?_
      intro gr w1 hgr hsr qk Br
      have own := own_no own qk
      have own' := own_no own' qk
      try have Bs := Bs.no qk
      have hs0 := qd.size
      have hgrw : w.heap.size ≤ gr := by omega
      have qd := qd.no qk
      refine ⟨qd, ?_⟩
      refine goH TL_ok 200 rfl ?_
      refine F3.forkK qd ?_ ?_
      · refine F3.segF rfl ?_
        refine goH TL_ok 200 rfl ?_
        have hs0 := qd.size
        refine appSE TL_ok rfl rfl rfl rfl rfl own (Br.sl (sz := 1) (m := 1) rfl) rfl (by unfold maxLen; omega) (by show (j + 1) * 8 ≤ _; omega) (by omega) ?_
        intro A5 c5 w2 ownA qk hown
        have own' := own_keep own' qk (fun k e hh => hne k hh e)
        try have Bs := Bs.keep qk (fun e => by have := (hA _ e).2; omega)
        have qd := qd.trans (qk.mono fun k _ h => hMl k h)
        have hA5 : ∀ k, (Value.slice A5 (j + 1) c5).ownBlock = some k → (Value.slice A j c).ownBlock = some k ∨ w.heap.size ≤ k := fun k e => by
          rcases hown with h | h
          · exact .inl (h ▸ e)
          · rw [h] at e; injection e with e; exact .inr (by omega)
        clear own
        refine ⟨qd, ?_⟩
        refine goH TL_ok 200 rfl ?_
        refine rowE TL_ok rfl rfl rfl rfl rfl rfl (cs := [I d.llo]) rfl ?_
        intro gs w1 hgs hss qk Bs
        try have own := own_no own qk
        try have ownA := own_no ownA qk
        have own' := own_no own' qk
        try have Br := Br.no qk
        have hs0 := qd.size
        have hgsw : w.heap.size ≤ gs := by omega
        have qd := qd.no qk
        refine ⟨qd, ?_⟩
        refine goH TL_ok 200 rfl ?_
        have hs0 := qd.size
        have hlt5 : ∀ k, (Value.slice A5 (j + 1) c5).ownBlock = some k → k < _ := fun k e => lt_own ownA e
        refine appSE TL_ok rfl rfl rfl rfl rfl own' (Bs.sl (sz := 1) (m := 1) rfl) rfl (by unfold maxLen; omega) (by show (j + 1) * 8 ≤ _; omega) (by omega) ?_
        intro A6 c6 w3 ownB qk hown
        have hne2 : ∀ k, (Value.slice A5 (j + 1) c5).ownBlock = some k → (Value.slice A6 (j + 1) c6).ownBlock ≠ some k := fun k e e2 => by
          have h5 := hlt5 k e
          rcases hown with h | h
          · rw [h] at e2
            rcases hA5 k e with h' | h'
            · exact hne k h' e2
            · have := (hA' k e2).2; omega
          · rw [h] at e2
            injection e2 with e2
            omega
        have ownA := own_keep ownA qk (fun k e hh => by
          rcases hA5 k e with h' | h'
          · exact hne k h' hh
          · have := (hA' k hh).2; omega)
        have qd := qd.trans (qk.mono fun k _ h => hMr k h)
        refine ⟨qd, ?_⟩
        refine goH TL_ok 200 rfl ?_
        refine endH ?_
        have B2 := B2.keep qd (hMg _ (Nat.le_refl _))
        have q := q.step qd (fun k hk e => hMg k (by omega) e)
        refine go TL_ok 200 rfl ?_
        rw [w64_id (x := (j : Int) + 1) (by omega) (by omega)]
        refine round ⟨(j + 1, A5, c5, A6, c6), rfl, ⟨by simp only; omega, q, B2, ?_, ?_, hne2⟩, by simp only; omega⟩
        · simp only
          rw [t1]; exact ownA
        · simp only
          rw [t2]; exact ownB
      · refine F3.segF rfl ?_
        refine goH TL_ok 200 rfl ?_
        refine rowE TL_ok rfl rfl rfl rfl rfl rfl (cs := [I d.llo]) rfl ?_
        intro gs w1 hgs hss qk Bs
        try have own := own_no own qk
        try have ownA := own_no ownA qk
        have own' := own_no own' qk
        try have Br := Br.no qk
        have hs0 := qd.size
        have hgsw : w.heap.size ≤ gs := by omega
        have qd := qd.no qk
        refine ⟨qd, ?_⟩
        refine goH TL_ok 200 rfl ?_
        have hs0 := qd.size
        refine appSE TL_ok rfl rfl rfl rfl rfl own (Br.sl (sz := 1) (m := 1) rfl) rfl (by unfold maxLen; omega) (by show (j + 1) * 8 ≤ _; omega) (by omega) ?_
        intro A5 c5 w2 ownA qk hown
        have own' := own_keep own' qk (fun k e hh => hne k hh e)
        try have Bs := Bs.keep qk (fun e => by have := (hA _ e).2; omega)
        have qd := qd.trans (qk.mono fun k _ h => hMl k h)
        have hA5 : ∀ k, (Value.slice A5 (j + 1) c5).ownBlock = some k → (Value.slice A j c).ownBlock = some k ∨ w.heap.size ≤ k := fun k e => by
          rcases hown with h | h
          · exact .inl (h ▸ e)
          · rw [h] at e; injection e with e; exact .inr (by omega)
        clear own
        refine ⟨qd, ?_⟩
        refine goH TL_ok 200 rfl ?_
        have hs0 := qd.size
        have hlt5 : ∀ k, (Value.slice A5 (j + 1) c5).ownBlock = some k → k < _ := fun k e => lt_own ownA e
        refine appSE TL_ok rfl rfl rfl rfl rfl own' (Bs.sl (sz := 1) (m := 1) rfl) rfl (by unfold maxLen; omega) (by show (j + 1) * 8 ≤ _; omega) (by omega) ?_
        intro A6 c6 w3 ownB qk hown
        have hne2 : ∀ k, (Value.slice A5 (j + 1) c5).ownBlock = some k → (Value.slice A6 (j + 1) c6).ownBlock ≠ some k := fun k e e2 => by
          have h5 := hlt5 k e
          rcases hown with h | h
          · rw [h] at e2
            rcases hA5 k e with h' | h'
            · exact hne k h' e2
            · have := (hA' k e2).2; omega
          · rw [h] at e2
            injection e2 with e2
            omega
        have ownA := own_keep ownA qk (fun k e hh => by
          rcases hA5 k e with h' | h'
          · exact hne k h' hh
          · have := (hA' k hh).2; omega)
        have qd := qd.trans (qk.mono fun k _ h => hMr k h)
        refine ⟨qd, ?_⟩
        refine goH TL_ok 200 rfl ?_
        refine endH ?_
        have B2 := B2.keep qd (hMg _ (Nat.le_refl _))
        have q := q.step qd (fun k hk e => hMg k (by omega) e)
        refine go TL_ok 200 rfl ?_
        rw [w64_id (x := (j : Int) + 1) (by omega) (by omega)]
        refine round ⟨(j + 1, A5, c5, A6, c6), rfl, ⟨by simp only; omega, q, B2, ?_, ?_, hne2⟩, by simp only; omega⟩
        · simp only
          rw [t1]; exact ownA
        · simp only
          rw [t2]; exact ownB
    · refine F3.segF rfl ?_
      refine goH TL_ok 200 rfl ?_
      refine rowE TL_ok rfl rfl rfl rfl rfl rfl (cs := [I d.llo]) rfl ?_
      intro gs w1 hgs hss qk Bs
      try have own := own_no own qk
      try have ownA := own_no ownA qk
      have own' := own_no own' qk
      try have Br := Br.no qk
      have hs0 := qd.size
      have hgsw : w.heap.size ≤ gs := by omega
      have qd := qd.no qk
      refine ⟨qd, ?_⟩
      refine goH TL_ok 200 rfl ?_
      refine rowE TL_ok rfl rfl rfl rfl rfl rfl (cs := [I d.slo]) rfl ?_
      intro gr w1 hgr hsr qk Br
      have own := own_no own qk
      have own' := own_no own' qk
      try have Bs := Bs.no qk
      have hs0 := qd.size
      have hgrw : w.heap.size ≤ gr := by omega
      have qd := qd.no qk
      refine ⟨qd, ?_⟩
      refine goH TL_ok 200 rfl ?_
      have hs0 := qd.size
      refine appSE TL_ok rfl rfl rfl rfl rfl own (Br.sl (sz := 1) (m := 1) rfl) rfl (by unfold maxLen; omega) (by show (j + 1) * 8 ≤ _; omega) (by omega) ?_
      intro A5 c5 w2 ownA qk hown
      have own' := own_keep own' qk (fun k e hh => hne k hh e)
      try have Bs := Bs.keep qk (fun e => by have := (hA _ e).2; omega)
      have qd := qd.trans (qk.mono fun k _ h => hMl k h)
      have hA5 : ∀ k, (Value.slice A5 (j + 1) c5).ownBlock = some k → (Value.slice A j c).ownBlock = some k ∨ w.heap.size ≤ k := fun k e => by
        rcases hown with h | h
        · exact .inl (h ▸ e)
        · rw [h] at e; injection e with e; exact .inr (by omega)
      clear own
      refine ⟨qd, ?_⟩
      refine goH TL_ok 200 rfl ?_
      have hs0 := qd.size
      have hlt5 : ∀ k, (Value.slice A5 (j + 1) c5).ownBlock = some k → k < _ := fun k e => lt_own ownA e
      refine appSE TL_ok rfl rfl rfl rfl rfl own' (Bs.sl (sz := 1) (m := 1) rfl) rfl (by unfold maxLen; omega) (by show (j + 1) * 8 ≤ _; omega) (by omega) ?_
      intro A6 c6 w3 ownB qk hown
      have hne2 : ∀ k, (Value.slice A5 (j + 1) c5).ownBlock = some k → (Value.slice A6 (j + 1) c6).ownBlock ≠ some k := fun k e e2 => by
        have h5 := hlt5 k e
        rcases hown with h | h
        · rw [h] at e2
          rcases hA5 k e with h' | h'
          · exact hne k h' e2
          · have := (hA' k e2).2; omega
        · rw [h] at e2
          injection e2 with e2
          omega
      have ownA := own_keep ownA qk (fun k e hh => by
        rcases hA5 k e with h' | h'
        · exact hne k h' hh
        · have := (hA' k hh).2; omega)
      have qd := qd.trans (qk.mono fun k _ h => hMr k h)
      refine ⟨qd, ?_⟩
      refine goH TL_ok 200 rfl ?_
      refine endH ?_
      have B2 := B2.keep qd (hMg _ (Nat.le_refl _))
      have q := q.step qd (fun k hk e => hMg k (by omega) e)
      refine go TL_ok 200 rfl ?_
      rw [w64_id (x := (j : Int) + 1) (by omega) (by omega)]
      refine round ⟨(j + 1, A5, c5, A6, c6), rfl, ⟨by simp only; omega, q, B2, ?_, ?_, hne2⟩, by simp only; omega⟩
      · simp only
        rw [t1]; exact ownA
      · simp only
        rw [t2]; exact ownB
  · obtain rfl : j = m.a.days.length := by have : ¬ (j : Int) < (m.a.days.length : Int) := hlt; omega
    rw [List.take_length] at own own'
    have X := rCourse_any m sch (m.a.days.map (·.slo)) (m.a.days.map (·.llo)) A1 A A' c1 c c' C1 w.heap.size w.heap.size w (H.no q) ha (S1.no q) (by rw [List.length_map]; exact own_sl own) (by rw [List.length_map]; exact own_sl own') h1 (by simp) (by simp)
      (fun s hs => by obtain ⟨d, hd, rfl⟩ := List.mem_map.1 hs; have h := ha.days d hd; have := h.s0; have := h.s1; have := h.s2; omega)
      (fun s hs => by obtain ⟨d, hd, rfl⟩ := List.mem_map.1 hs; have h := ha.days d hd; have := h.l0; have := h.l1; have := h.l2; omega)
    rw [zip_least, List.length_map, List.length_map] at X
    refine go TL_ok 200 rfl ?_
    repeat ((first | refine ldA TL_ok rfl rfl rfl rfl rfl (Bk.all B2) ?_ | refine ld TL_ok rfl rfl rfl rfl (Bk.get B2 rfl) ?_ | refine guardA (b := true) rfl rfl rfl rfl (fun _ => ?_) (fun e => by cases e) | refine guardA (b := false) rfl rfl rfl rfl (fun e => by cases e) (fun _ => ?_) | refine condT rfl rfl ?_ | refine condF rfl rfl ?_); refine go TL_ok 200 rfl ?_)
    refine call rfl rfl rfl (ok _ (by decide) rfl) X ?_
    rintro v w2 ⟨A9, c9, rfl, qk, _⟩
    have q := q.trans qk
    refine go TL_ok 200 rfl ?_
    refine ret (ret1 (v := .bool _) Try.results56 rfl ⟨?_, q⟩)
    congr 1
    rw [Go.Camp.safe_run]
    unfold dayC
    generalize runC m.a (least m.a.days sch) m.a.b = R
    cases R.2 with
    | true => simp
    | false => simp
end Go.Proofs.Yteenhfnamjbaiaa
