/- The walk of CampShortest. -/
import Derived.Test.YteenhfnamjbaiaaK1
import Derived.Test.YteenhfnamjbaiaaT6
import Derived.Test.YteenhfnamjbaiaaT8
import Derived.Test.YteenhfnamjbaiaaE4
namespace Go.Proofs.Yteenhfnamjbaiaa
open Go.Ev Go.Proofs
open Go.Camp (Cl wayT stopT TrOk begT okT leaveT endT begs)
attribute [local irreducible] At AtH
theorem begs_len (t : Go.Camp.Tr) : ∀ (k : List Nat) (p : Nat) (x : Int), (begs t k p x).length = k.length := by
 intro k
 induction k with
 | nil => intro p x; rfl
 | cons i k ih => intro p x; simp only [begs, List.length_cons, ih]
theorem trm_up {w : World} {B : Nat} {m : Tm} (H : TrM w B m) : TrM w w.heap.size m := ⟨H.w1.more H.w1.2.1 (Nat.le_refl _), fun s hs => ⟨(H.w2 s hs).1.more H.w1.2.1 (Nat.le_refl _), (H.w2 s hs).2⟩, H.s.more H.s.2.1 (Nat.le_refl _), H.lw, H.ls⟩
theorem fm_snoc {α β : Type} (f : α → List β) (l : List α) (x : α) : (l ++ [x]).flatMap f = l.flatMap f ++ f x := by rw [List.flatMap_append, List.flatMap_singleton]
set_option maxRecDepth 20000 in
set_option maxHeartbeats 32000000 in
theorem walk_CampShortest (m : Tm) (o : Sli Int) (x0 sh : Int) (w0 : World) (hm : InT w0 m) (ho : InI w0 o) (hx : I64 x0) (hsh : I64 sh) :
  Ret Try.prog 15 [.agg (tmL m).toArray, .slice o.A o.l.length o.c, I x0, I sh] w0 fun x w' => x = .bool true ∧ Chg No w0 w' := by
 have So := ho.sl
 have Hm := hm.m
 have Hm0 := hm.m
 refine enter Try.func15 rfl Try.ntmps15 rfl ?_
 refine go TL_ok 200 rfl ?_
 refine bx rfl rfl rfl (cs := tmL m) rfl ?_
 intro g4 u4 hg4 hs4 q4 B4
 have q := q4
 have So := So.no q
 have Hm := Hm.no q
 refine go TL_ok 200 rfl ?_
 repeat ((first | refine ldA TL_ok rfl rfl rfl rfl rfl (Bk.all B4) ?_ | refine ld TL_ok rfl rfl rfl rfl (Bk.get B4 rfl) ?_ | refine gT rfl rfl rfl rfl ?_ | refine gF rfl rfl rfl rfl ?_ | refine condT rfl rfl ?_ | refine condF rfl rfl ?_); refine go TL_ok 200 rfl ?_)
 by_cases f1 : 8 < (m.S.l.length : Int)
 case pos =>
  rw [decide_eq_true f1]
  refine go TL_ok 200 rfl ?_
  repeat ((first | refine ldA TL_ok rfl rfl rfl rfl rfl (Bk.all B4) ?_ | refine ld TL_ok rfl rfl rfl rfl (Bk.get B4 rfl) ?_ | refine gT rfl rfl rfl rfl ?_ | refine gF rfl rfl rfl rfl ?_ | refine condT rfl rfl ?_ | refine condF rfl rfl ?_); refine go TL_ok 200 rfl ?_)
  refine call rfl rfl rfl (ok _ (by decide) rfl) (known_any _) ?_
  rintro v wk ⟨rfl, qk⟩
  refine go TL_ok 200 rfl ?_
  exact ret (ret1 (v := .bool true) Try.results15 rfl ⟨rfl, q.trans qk⟩)
 rw [decide_eq_false f1]
 refine go TL_ok 200 rfl ?_
 repeat ((first | refine ldA TL_ok rfl rfl rfl rfl rfl (Bk.all B4) ?_ | refine ld TL_ok rfl rfl rfl rfl (Bk.get B4 rfl) ?_ | refine gT rfl rfl rfl rfl ?_ | refine gF rfl rfl rfl rfl ?_ | refine condT rfl rfl ?_ | refine condF rfl rfl ?_); refine go TL_ok 200 rfl ?_)
 by_cases f2 : 15 < (m.W.l.length : Int)
 case pos =>
  rw [decide_eq_true f2]
  refine go TL_ok 200 rfl ?_
  repeat ((first | refine ldA TL_ok rfl rfl rfl rfl rfl (Bk.all B4) ?_ | refine ld TL_ok rfl rfl rfl rfl (Bk.get B4 rfl) ?_ | refine gT rfl rfl rfl rfl ?_ | refine gF rfl rfl rfl rfl ?_ | refine condT rfl rfl ?_ | refine condF rfl rfl ?_); refine go TL_ok 200 rfl ?_)
  refine call rfl rfl rfl (ok _ (by decide) rfl) (known_any _) ?_
  rintro v wk ⟨rfl, qk⟩
  refine go TL_ok 200 rfl ?_
  exact ret (ret1 (v := .bool true) Try.results15 rfl ⟨rfl, q.trans qk⟩)
 rw [decide_eq_false f2]
 refine go TL_ok 200 rfl ?_
 repeat ((first | refine ldA TL_ok rfl rfl rfl rfl rfl (Bk.all B4) ?_ | refine ld TL_ok rfl rfl rfl rfl (Bk.get B4 rfl) ?_ | refine gT rfl rfl rfl rfl ?_ | refine gF rfl rfl rfl rfl ?_ | refine condT rfl rfl ?_ | refine condF rfl rfl ?_); refine go TL_ok 200 rfl ?_)
 by_cases f3 : 12 < (o.l.length : Int)
 case pos =>
  rw [decide_eq_true f3]
  refine go TL_ok 200 rfl ?_
  repeat ((first | refine ldA TL_ok rfl rfl rfl rfl rfl (Bk.all B4) ?_ | refine ld TL_ok rfl rfl rfl rfl (Bk.get B4 rfl) ?_ | refine gT rfl rfl rfl rfl ?_ | refine gF rfl rfl rfl rfl ?_ | refine condT rfl rfl ?_ | refine condF rfl rfl ?_); refine go TL_ok 200 rfl ?_)
  refine call rfl rfl rfl (ok _ (by decide) rfl) (known_any _) ?_
  rintro v wk ⟨rfl, qk⟩
  refine go TL_ok 200 rfl ?_
  exact ret (ret1 (v := .bool true) Try.results15 rfl ⟨rfl, q.trans qk⟩)
 rw [decide_eq_false f3]
 refine go TL_ok 200 rfl ?_
 repeat ((first | refine ldA TL_ok rfl rfl rfl rfl rfl (Bk.all B4) ?_ | refine ld TL_ok rfl rfl rfl rfl (Bk.get B4 rfl) ?_ | refine gT rfl rfl rfl rfl ?_ | refine gF rfl rfl rfl rfl ?_ | refine condT rfl rfl ?_ | refine condF rfl rfl ?_); refine go TL_ok 200 rfl ?_)
 refine call rfl rfl rfl (ok _ (by decide) rfl) (rTour_any m _ _ Hm) ?_
 rintro x w ⟨⟨b, rfl, hb⟩, qk⟩
 have B4 := B4.no qk
 have So := So.no qk
 have Hm := Hm.no qk
 have q := q.trans qk
 cases b with
 | false =>
  refine go TL_ok 200 rfl ?_
  repeat ((first | refine ldA TL_ok rfl rfl rfl rfl rfl (Bk.all B4) ?_ | refine ld TL_ok rfl rfl rfl rfl (Bk.get B4 rfl) ?_ | refine gT rfl rfl rfl rfl ?_ | refine gF rfl rfl rfl rfl ?_ | refine condT rfl rfl ?_ | refine condF rfl rfl ?_); refine go TL_ok 200 rfl ?_)
  refine call rfl rfl rfl (ok _ (by decide) rfl) (known_any _) ?_
  rintro v wk ⟨rfl, qk⟩
  refine go TL_ok 200 rfl ?_
  exact ret (ret1 (v := .bool true) Try.results15 rfl ⟨rfl, q.trans qk⟩)
 | true =>
 have ha := hb.1 rfl
 have n8 : m.S.l.length ≤ 8 := ha.n8
 have n1 : 1 ≤ m.S.l.length := ha.n1
 refine go TL_ok 200 rfl ?_
 repeat ((first | refine ldA TL_ok rfl rfl rfl rfl rfl (Bk.all B4) ?_ | refine ld TL_ok rfl rfl rfl rfl (Bk.get B4 rfl) ?_ | refine gT rfl rfl rfl rfl ?_ | refine gF rfl rfl rfl rfl ?_ | refine condT rfl rfl ?_ | refine condF rfl rfl ?_); refine go TL_ok 200 rfl ?_)
 refine call rfl rfl rfl (ok _ (by decide) rfl) (rOrder_any m.S.l.length o.l o.A o.c _ _ So (by omega) (by omega)) ?_
 rintro x w ⟨⟨b, rfl, hb⟩, qk⟩
 have B4 := B4.no qk
 have So := So.no qk
 have Hm := Hm.no qk
 have q := q.trans qk
 cases b with
 | false =>
  refine go TL_ok 200 rfl ?_
  repeat ((first | refine ldA TL_ok rfl rfl rfl rfl rfl (Bk.all B4) ?_ | refine ld TL_ok rfl rfl rfl rfl (Bk.get B4 rfl) ?_ | refine gT rfl rfl rfl rfl ?_ | refine gF rfl rfl rfl rfl ?_ | refine condT rfl rfl ?_ | refine condF rfl rfl ?_); refine go TL_ok 200 rfl ?_)
  refine call rfl rfl rfl (ok _ (by decide) rfl) (known_any _) ?_
  rintro v wk ⟨rfl, qk⟩
  refine go TL_ok 200 rfl ?_
  exact ret (ret1 (v := .bool true) Try.results15 rfl ⟨rfl, q.trans qk⟩)
 | true =>
 have hL := hb.1 rfl
 obtain ⟨k, hok, hkl, hkn⟩ := ord_nat hL
 have hlk : o.l.length = k.length := by rw [hok]; simp [iN]
 have hk0 : k ≠ [] := fun e => by rw [e] at hkl; simp at hkl; omega
 refine go TL_ok 200 rfl ?_
 repeat ((first | refine ldA TL_ok rfl rfl rfl rfl rfl (Bk.all B4) ?_ | refine ld TL_ok rfl rfl rfl rfl (Bk.get B4 rfl) ?_ | refine gT rfl rfl rfl rfl ?_ | refine gF rfl rfl rfl rfl ?_ | refine condT rfl rfl ?_ | refine condF rfl rfl ?_); refine go TL_ok 200 rfl ?_)
 by_cases f4 : x0 < (0 : Int)
 case pos =>
  rw [decide_eq_true f4]
  refine go TL_ok 200 rfl ?_
  repeat ((first | refine ldA TL_ok rfl rfl rfl rfl rfl (Bk.all B4) ?_ | refine ld TL_ok rfl rfl rfl rfl (Bk.get B4 rfl) ?_ | refine gT rfl rfl rfl rfl ?_ | refine gF rfl rfl rfl rfl ?_ | refine condT rfl rfl ?_ | refine condF rfl rfl ?_); refine go TL_ok 200 rfl ?_)
  refine call rfl rfl rfl (ok _ (by decide) rfl) (known_any _) ?_
  rintro v wk ⟨rfl, qk⟩
  refine go TL_ok 200 rfl ?_
  exact ret (ret1 (v := .bool true) Try.results15 rfl ⟨rfl, q.trans qk⟩)
 rw [decide_eq_false f4]
 refine go TL_ok 200 rfl ?_
 repeat ((first | refine ldA TL_ok rfl rfl rfl rfl rfl (Bk.all B4) ?_ | refine ld TL_ok rfl rfl rfl rfl (Bk.get B4 rfl) ?_ | refine gT rfl rfl rfl rfl ?_ | refine gF rfl rfl rfl rfl ?_ | refine condT rfl rfl ?_ | refine condF rfl rfl ?_); refine go TL_ok 200 rfl ?_)
 by_cases f5 : 1000000 < (x0 : Int)
 case pos =>
  rw [decide_eq_true f5]
  refine go TL_ok 200 rfl ?_
  repeat ((first | refine ldA TL_ok rfl rfl rfl rfl rfl (Bk.all B4) ?_ | refine ld TL_ok rfl rfl rfl rfl (Bk.get B4 rfl) ?_ | refine gT rfl rfl rfl rfl ?_ | refine gF rfl rfl rfl rfl ?_ | refine condT rfl rfl ?_ | refine condF rfl rfl ?_); refine go TL_ok 200 rfl ?_)
  refine call rfl rfl rfl (ok _ (by decide) rfl) (known_any _) ?_
  rintro v wk ⟨rfl, qk⟩
  refine go TL_ok 200 rfl ?_
  exact ret (ret1 (v := .bool true) Try.results15 rfl ⟨rfl, q.trans qk⟩)
 rw [decide_eq_false f5]
 refine go TL_ok 200 rfl ?_
 repeat ((first | refine ldA TL_ok rfl rfl rfl rfl rfl (Bk.all B4) ?_ | refine ld TL_ok rfl rfl rfl rfl (Bk.get B4 rfl) ?_ | refine gT rfl rfl rfl rfl ?_ | refine gF rfl rfl rfl rfl ?_ | refine condT rfl rfl ?_ | refine condF rfl rfl ?_); refine go TL_ok 200 rfl ?_)
 by_cases f6 : sh < (0 : Int)
 case pos =>
  rw [decide_eq_true f6]
  refine go TL_ok 200 rfl ?_
  repeat ((first | refine ldA TL_ok rfl rfl rfl rfl rfl (Bk.all B4) ?_ | refine ld TL_ok rfl rfl rfl rfl (Bk.get B4 rfl) ?_ | refine gT rfl rfl rfl rfl ?_ | refine gF rfl rfl rfl rfl ?_ | refine condT rfl rfl ?_ | refine condF rfl rfl ?_); refine go TL_ok 200 rfl ?_)
  refine call rfl rfl rfl (ok _ (by decide) rfl) (known_any _) ?_
  rintro v wk ⟨rfl, qk⟩
  refine go TL_ok 200 rfl ?_
  exact ret (ret1 (v := .bool true) Try.results15 rfl ⟨rfl, q.trans qk⟩)
 rw [decide_eq_false f6]
 refine go TL_ok 200 rfl ?_
 repeat ((first | refine ldA TL_ok rfl rfl rfl rfl rfl (Bk.all B4) ?_ | refine ld TL_ok rfl rfl rfl rfl (Bk.get B4 rfl) ?_ | refine gT rfl rfl rfl rfl ?_ | refine gF rfl rfl rfl rfl ?_ | refine condT rfl rfl ?_ | refine condF rfl rfl ?_); refine go TL_ok 200 rfl ?_)
 obtain ⟨rb1, rb2⟩ := round_best ha
 have rb1 : ∀ k e, OrdOk m.S.l.length (iN k) → endT (trP m) k 0 0 = some e → 0 ≤ (roundP (trP m)).least ∧ (roundP (trP m)).least ≤ e := rb1
 have rb2 : 0 ≤ (roundP (trP m)).least → OrdOk m.S.l.length (iN (roundP (trP m)).best) ∧ endT (trP m) (roundP (trP m)).best 0 0 = some (roundP (trP m)).least := rb2
 refine call rfl rfl rfl (ok _ (by decide) rfl) (Round_any m _ (trm_up Hm)) ?_
 rintro v w ⟨qk, hR⟩
 have B4 := B4.no qk
 have So := So.no qk
 have Hm := Hm.no qk
 have q := q.trans qk
 by_cases hle : (roundP (trP m)).least < 0
 case pos =>
  obtain rfl : v = .tuple #[.slice none 0 0, I 0, I 5] := by
   rcases hR with ⟨h, _⟩ | ⟨_, _, h⟩ | ⟨_, h, _⟩
   ·exact absurd ha h
   ·exact h
   ·omega
  have hno : endT (trP m) k 0 0 = none := by
   cases he : endT (trP m) k 0 0 with
   | none => rfl
   | some e => have := rb1 k e (hok ▸ hL) he; omega
  refine go TL_ok 200 rfl ?_
  repeat ((first | refine ldA TL_ok rfl rfl rfl rfl rfl (Bk.all B4) ?_ | refine ld TL_ok rfl rfl rfl rfl (Bk.get B4 rfl) ?_ | refine gT rfl rfl rfl rfl ?_ | refine gF rfl rfl rfl rfl ?_ | refine condT rfl rfl ?_ | refine condF rfl rfl ?_); refine go TL_ok 200 rfl ?_)
  refine call rfl rfl rfl (ok _ (by decide) rfl) (Times_any m o.l 0 o.A o.c _ _ _ Hm So) ?_
  rintro x w ⟨qk, hT⟩
  have B4 := B4.no qk
  have So := So.no qk
  have Hm := Hm.no qk
  have q := q.trans qk
  obtain rfl : x = .tuple #[.slice none 0 0, I 0, I 7] := by
   rcases hT with ⟨h, _⟩ | ⟨_, h⟩
   ·exact absurd ⟨ha, hL, by decide, by decide⟩ h
   ·rcases h k hok with ⟨_, h⟩ | ⟨e, A, c, h, _⟩
    ·exact h
    ·rw [hno] at h; cases h
  refine go TL_ok 200 rfl ?_
  repeat ((first | refine ldA TL_ok rfl rfl rfl rfl rfl (Bk.all B4) ?_ | refine ld TL_ok rfl rfl rfl rfl (Bk.get B4 rfl) ?_ | refine gT rfl rfl rfl rfl ?_ | refine gF rfl rfl rfl rfl ?_ | refine condT rfl rfl ?_ | refine condF rfl rfl ?_); refine go TL_ok 200 rfl ?_)
  refine call rfl rfl rfl (ok _ (by decide) rfl) (Slack_any m o.l o.A o.c _ _ _ Hm So) ?_
  rintro x w ⟨qk, hS⟩
  have B4 := B4.no qk
  have So := So.no qk
  have Hm := Hm.no qk
  have q := q.trans qk
  obtain rfl : x = .tuple #[I 0, I 7] := by
   rcases hS with ⟨h, _⟩ | ⟨_, h⟩
   ·exact absurd ⟨ha, hL⟩ h
   ·rcases h k hok with ⟨_, h⟩ | ⟨e, h, _⟩
    ·exact h
    ·rw [hno] at h; cases h
  refine go TL_ok 200 rfl ?_
  repeat ((first | refine ldA TL_ok rfl rfl rfl rfl rfl (Bk.all B4) ?_ | refine ld TL_ok rfl rfl rfl rfl (Bk.get B4 rfl) ?_ | refine gT rfl rfl rfl rfl ?_ | refine gF rfl rfl rfl rfl ?_ | refine condT rfl rfl ?_ | refine condF rfl rfl ?_); refine go TL_ok 200 rfl ?_)
  refine call rfl rfl rfl (ok _ (by decide) rfl) (known_any _) ?_
  rintro v wk ⟨rfl, qk⟩
  refine go TL_ok 200 rfl ?_
  exact ret (ret1 (v := .bool true) Try.results15 rfl ⟨rfl, q.trans qk⟩)
 have hle : 0 ≤ (roundP (trP m)).least := by omega
 obtain ⟨A9, c9, rfl, S9⟩ : ∃ A c, v = .tuple #[.slice A (roundP (trP m)).best.length c, I (roundP (trP m)).least, I 0] ∧ Sl w w.heap.size 1 A (roundP (trP m)).best.length (iL (iN (roundP (trP m)).best)) := by
  rcases hR with ⟨h, _⟩ | ⟨_, h, _⟩ | ⟨_, _, A, c, h, own⟩
  ·exact absurd ha h
  ·omega
  ·exact ⟨A, c, h, own_sl own⟩
 clear hR
 obtain ⟨bl, hbl⟩ : ∃ l, l = (roundP (trP m)).best := ⟨_, rfl⟩
 obtain ⟨lst, hlst⟩ : ∃ e, e = (roundP (trP m)).least := ⟨_, rfl⟩
 rw [← hlst] at rb1 rb2 hle
 rw [← hbl] at rb2 S9
 rw [← hbl, ← hlst]
 have hsb2 := fun (h : Int) (h0 : 0 ≤ h) => short_best ha (h := h) h0 (by rw [← hlst]; exact hle)
 rw [← hlst] at hsb2
 clear hbl hlst
 refine go TL_ok 200 rfl ?_
 repeat ((first | refine ldA TL_ok rfl rfl rfl rfl rfl (Bk.all B4) ?_ | refine ld TL_ok rfl rfl rfl rfl (Bk.get B4 rfl) ?_ | refine gT rfl rfl rfl rfl ?_ | refine gF rfl rfl rfl rfl ?_ | refine condT rfl rfl ?_ | refine condF rfl rfl ?_); refine go TL_ok 200 rfl ?_)
 refine call rfl rfl rfl (ok _ (by decide) rfl) (Times_any m o.l 0 o.A o.c _ _ _ Hm So) ?_
 rintro x w ⟨qk, hT⟩
 have B4 := B4.no qk
 have So := So.no qk
 have Hm := Hm.no qk
 have S9 := S9.no qk
 have q := q.trans qk
 have hT := (hT.resolve_left (fun h => h.1 ⟨ha, hL, by decide, by decide⟩)).2 k hok
 obtain ⟨A12, n12, c12, e13, r14, rfl, hF⟩ : ∃ A n c e r, x = .tuple #[.slice A n c, I e, I r] ∧ ((endT (trP m) k 0 0 = none ∧ r = 7) ∨ (endT (trP m) k 0 0 = some e ∧ r = 0)) := by
  rcases hT with ⟨h, hv⟩ | ⟨e, A, c, h, hv, _⟩
  ·exact ⟨_, _, _, _, _, hv, .inl ⟨h, rfl⟩⟩
  ·exact ⟨_, _, _, _, _, hv, .inr ⟨h, rfl⟩⟩
 clear hT
 refine go TL_ok 200 rfl ?_
 repeat ((first | refine ldA TL_ok rfl rfl rfl rfl rfl (Bk.all B4) ?_ | refine ld TL_ok rfl rfl rfl rfl (Bk.get B4 rfl) ?_ | refine gT rfl rfl rfl rfl ?_ | refine gF rfl rfl rfl rfl ?_ | refine condT rfl rfl ?_ | refine condF rfl rfl ?_); refine go TL_ok 200 rfl ?_)
 refine call rfl rfl rfl (ok _ (by decide) rfl) (Slack_any m o.l o.A o.c _ _ _ Hm So) ?_
 rintro x w ⟨qk, hS⟩
 have B4 := B4.no qk
 have So := So.no qk
 have Hm := Hm.no qk
 have S9 := S9.no qk
 have q := q.trans qk
 have hS := (hS.resolve_left (fun h => h.1 ⟨ha, hL⟩)).2 k hok
 obtain ⟨n15, r16, rfl, hG⟩ : ∃ n r, x = .tuple #[I n, I r] ∧ ∀ e, endT (trP m) k 0 0 = some e → n = latT (trP m) k - wayT (trP m) 0 (k.getD 0 0 + 1) ∧ r = 0 := by
  rcases hS with ⟨h, hv⟩ | ⟨e, h, hv⟩
  ·exact ⟨_, _, hv, fun e he => by rw [h] at he; cases he⟩
  ·exact ⟨_, _, hv, fun e _ => ⟨rfl, rfl⟩⟩
 clear hS
 refine go TL_ok 6 rfl ?_
 refine join [3, 4, 9, 10, 11] (fun _ : Unit => [I sh, .pointer (some ⟨g4, 0, none⟩), .slice A9 bl.length c9, I lst, I 0]) (fun _ w' => Chg No w0 w' ∧ Bk w' g4 56 (tmL m) ∧ Sl w' w'.heap.size 1 A9 bl.length (iL (iN bl))) (fun _ => rfl) ?_ ?_
 ·rcases hF with ⟨he, rfl⟩ | ⟨he, rfl⟩
  ·refine go TL_ok 200 rfl ?_
   repeat ((first | refine ldA TL_ok rfl rfl rfl rfl rfl (Bk.all B4) ?_ | refine ld TL_ok rfl rfl rfl rfl (Bk.get B4 rfl) ?_ | refine gT rfl rfl rfl rfl ?_ | refine gF rfl rfl rfl rfl ?_ | refine condT rfl rfl ?_ | refine condF rfl rfl ?_); refine go TL_ok 200 rfl ?_)
   exact round ⟨(), rfl, q, B4, S9.more S9.2.1 (Nat.le_refl _)⟩
  obtain ⟨hn, rfl⟩ := hG _ he
  have hsi := slack_iff (trP m) k 0 x0 0 hk0 (by rw [he]; rfl)
  have hsb := slack_bd ha hkn hk0 he
  have hel := rb1 k _ (hok ▸ hL) he
  rw [← hn] at hsb
  refine go TL_ok 200 rfl ?_
  repeat ((first | refine ldA TL_ok rfl rfl rfl rfl rfl (Bk.all B4) ?_ | refine ld TL_ok rfl rfl rfl rfl (Bk.get B4 rfl) ?_ | refine gT rfl rfl rfl rfl ?_ | refine gF rfl rfl rfl rfl ?_ | refine condT rfl rfl ?_ | refine condF rfl rfl ?_); refine go TL_ok 200 rfl ?_)
  refine call rfl rfl rfl (ok _ (by decide) rfl) (Times_any m o.l x0 o.A o.c _ _ _ Hm So) ?_
  rintro x w ⟨qk, hX⟩
  have B4 := B4.no qk
  have So := So.no qk
  have Hm := Hm.no qk
  have S9 := S9.no qk
  have q := q.trans qk
  have hX := (hX.resolve_left (fun h => h.1 ⟨ha, hL, by omega, by omega⟩)).2 k hok
  rcases hX with ⟨hex, rfl⟩ | ⟨e, A, c, hex, rfl, _⟩
  ·have hxn : ¬ x0 ≤ n15 := fun h => by
    have := hsi.2 (by omega)
    rw [hex] at this
    cases this
   refine go TL_ok 200 rfl ?_
   repeat ((first | refine ldA TL_ok rfl rfl rfl rfl rfl (Bk.all B4) ?_ | refine ld TL_ok rfl rfl rfl rfl (Bk.get B4 rfl) ?_ | refine gT rfl rfl rfl rfl ?_ | refine gF rfl rfl rfl rfl ?_ | refine condT rfl rfl ?_ | refine condF rfl rfl ?_); refine go TL_ok 200 rfl ?_)
   rw [decide_eq_false (show ¬ e13 < lst by omega)]
   refine go TL_ok 200 rfl ?_
   repeat ((first | refine ldA TL_ok rfl rfl rfl rfl rfl (Bk.all B4) ?_ | refine ld TL_ok rfl rfl rfl rfl (Bk.get B4 rfl) ?_ | refine gT rfl rfl rfl rfl ?_ | refine gF rfl rfl rfl rfl ?_ | refine condT rfl rfl ?_ | refine condF rfl rfl ?_); refine go TL_ok 200 rfl ?_)
   rw [decide_eq_false (show ¬ n15 < 0 by omega)]
   refine go TL_ok 200 rfl ?_
   repeat ((first | refine ldA TL_ok rfl rfl rfl rfl rfl (Bk.all B4) ?_ | refine ld TL_ok rfl rfl rfl rfl (Bk.get B4 rfl) ?_ | refine gT rfl rfl rfl rfl ?_ | refine gF rfl rfl rfl rfl ?_ | refine condT rfl rfl ?_ | refine condF rfl rfl ?_); refine go TL_ok 200 rfl ?_)
   rw [decide_eq_false (show ¬ 1000000 < n15 by omega)]
   refine go TL_ok 200 rfl ?_
   repeat ((first | refine ldA TL_ok rfl rfl rfl rfl rfl (Bk.all B4) ?_ | refine ld TL_ok rfl rfl rfl rfl (Bk.get B4 rfl) ?_ | refine gT rfl rfl rfl rfl ?_ | refine gF rfl rfl rfl rfl ?_ | refine condT rfl rfl ?_ | refine condF rfl rfl ?_); refine go TL_ok 200 rfl ?_)
   rw [decide_eq_false hxn]
   refine neqB rfl rfl Try.underlying4 (a := false) (b := false) rfl rfl ?_
   refine go TL_ok 200 rfl ?_
   repeat ((first | refine ldA TL_ok rfl rfl rfl rfl rfl (Bk.all B4) ?_ | refine ld TL_ok rfl rfl rfl rfl (Bk.get B4 rfl) ?_ | refine gT rfl rfl rfl rfl ?_ | refine gF rfl rfl rfl rfl ?_ | refine condT rfl rfl ?_ | refine condF rfl rfl ?_); refine go TL_ok 200 rfl ?_)
   exact round ⟨(), rfl, q, B4, S9.more S9.2.1 (Nat.le_refl _)⟩
  ·have hxn : x0 ≤ n15 := by
    have := hsi.1 (by rw [hex]; rfl)
    omega
   refine go TL_ok 200 rfl ?_
   repeat ((first | refine ldA TL_ok rfl rfl rfl rfl rfl (Bk.all B4) ?_ | refine ld TL_ok rfl rfl rfl rfl (Bk.get B4 rfl) ?_ | refine gT rfl rfl rfl rfl ?_ | refine gF rfl rfl rfl rfl ?_ | refine condT rfl rfl ?_ | refine condF rfl rfl ?_); refine go TL_ok 200 rfl ?_)
   rw [decide_eq_false (show ¬ e13 < lst by omega)]
   refine go TL_ok 200 rfl ?_
   repeat ((first | refine ldA TL_ok rfl rfl rfl rfl rfl (Bk.all B4) ?_ | refine ld TL_ok rfl rfl rfl rfl (Bk.get B4 rfl) ?_ | refine gT rfl rfl rfl rfl ?_ | refine gF rfl rfl rfl rfl ?_ | refine condT rfl rfl ?_ | refine condF rfl rfl ?_); refine go TL_ok 200 rfl ?_)
   rw [decide_eq_false (show ¬ n15 < 0 by omega)]
   refine go TL_ok 200 rfl ?_
   repeat ((first | refine ldA TL_ok rfl rfl rfl rfl rfl (Bk.all B4) ?_ | refine ld TL_ok rfl rfl rfl rfl (Bk.get B4 rfl) ?_ | refine gT rfl rfl rfl rfl ?_ | refine gF rfl rfl rfl rfl ?_ | refine condT rfl rfl ?_ | refine condF rfl rfl ?_); refine go TL_ok 200 rfl ?_)
   rw [decide_eq_false (show ¬ 1000000 < n15 by omega)]
   refine go TL_ok 200 rfl ?_
   repeat ((first | refine ldA TL_ok rfl rfl rfl rfl rfl (Bk.all B4) ?_ | refine ld TL_ok rfl rfl rfl rfl (Bk.get B4 rfl) ?_ | refine gT rfl rfl rfl rfl ?_ | refine gF rfl rfl rfl rfl ?_ | refine condT rfl rfl ?_ | refine condF rfl rfl ?_); refine go TL_ok 200 rfl ?_)
   rw [decide_eq_true hxn]
   refine neqB rfl rfl Try.underlying4 (a := true) (b := true) rfl rfl ?_
   refine go TL_ok 200 rfl ?_
   repeat ((first | refine ldA TL_ok rfl rfl rfl rfl rfl (Bk.all B4) ?_ | refine ld TL_ok rfl rfl rfl rfl (Bk.get B4 rfl) ?_ | refine gT rfl rfl rfl rfl ?_ | refine gF rfl rfl rfl rfl ?_ | refine condT rfl rfl ?_ | refine condF rfl rfl ?_); refine go TL_ok 200 rfl ?_)
   exact round ⟨(), rfl, q, B4, S9.more S9.2.1 (Nat.le_refl _)⟩
 rintro ⟨⟩ τ w ⟨q, B4, S9⟩
 have Hm := Hm0.no q
 refine go TL_ok 200 rfl ?_
 repeat ((first | refine ldA TL_ok rfl rfl rfl rfl rfl (Bk.all B4) ?_ | refine ld TL_ok rfl rfl rfl rfl (Bk.get B4 rfl) ?_ | refine gT rfl rfl rfl rfl ?_ | refine gF rfl rfl rfl rfl ?_ | refine condT rfl rfl ?_ | refine condF rfl rfl ?_); refine go TL_ok 200 rfl ?_)
 have ebl : (iN bl).length = bl.length := by simp [iN]
 have X := Times_any m (iN bl) 0 A9 c9 _ _ _ Hm (by rw [ebl]; exact S9)
 rw [ebl] at X
 refine call rfl rfl rfl (ok _ (by decide) rfl) X ?_
 clear X
 rintro x w ⟨qk, hT⟩
 have B4 := B4.no qk
 have Hm := Hm.no qk
 have S9 := S9.no qk
 have q := q.trans qk
 obtain ⟨A20, c20, rfl⟩ : ∃ A c, x = .tuple #[.slice A (begs (trP m) bl 0 0).length c, I lst, I 0] := by
  rcases hT with ⟨h, _⟩ | ⟨_, h⟩
  ·exact absurd ⟨ha, (rb2 hle).1, by decide, by decide⟩ h
  ·rcases h _ rfl with ⟨h, _⟩ | ⟨e, A, c, h, hv, _⟩
   ·rw [(rb2 hle).2] at h; cases h
   ·rw [(rb2 hle).2] at h
    injection h with h
    subst h
    exact ⟨A, c, hv⟩
 refine go TL_ok 200 rfl ?_
 repeat ((first | refine ldA TL_ok rfl rfl rfl rfl rfl (Bk.all B4) ?_ | refine ld TL_ok rfl rfl rfl rfl (Bk.get B4 rfl) ?_ | refine gT rfl rfl rfl rfl ?_ | refine gF rfl rfl rfl rfl ?_ | refine condT rfl rfl ?_ | refine condF rfl rfl ?_); refine go TL_ok 200 rfl ?_)
 rw [show (lst != lst) = false by simp]
 refine go TL_ok 200 rfl ?_
 repeat ((first | refine ldA TL_ok rfl rfl rfl rfl rfl (Bk.all B4) ?_ | refine ld TL_ok rfl rfl rfl rfl (Bk.get B4 rfl) ?_ | refine gT rfl rfl rfl rfl ?_ | refine gF rfl rfl rfl rfl ?_ | refine condT rfl rfl ?_ | refine condF rfl rfl ?_); refine go TL_ok 200 rfl ?_)
 have l4 := B4.lt
 refine nw rfl rfl (z := .agg #[.slice none 0 0, .slice none 0 0]) (by kernel_rfl) (cs := [.slice none 0 0, .slice none 0 0]) rfl ?_
 intro g23 w hg23 hs23 qk B23
 have B4 := B4.no qk
 have Hm := Hm.no qk
 have q := q.trans qk
 have hwq := q.size
 refine go TL_ok 200 rfl ?_
 refine stA TL_ok rfl rfl rfl rfl (vs := [.slice none 0 0, .slice m.S.A m.S.l.length m.S.c]) rfl rfl rfl B23 rfl ?_
 intro w qk B23 hz23
 have B23 : Bk w g23 56 [.slice none 0 0, .slice m.S.A m.S.l.length m.S.c] := B23
 have hw23 : w0.heap.size ≤ g23 := by have := q4.size; omega
 have u4 : g4 < g23 := by omega
 have hw04 : w0.heap.size ≤ g4 := by omega
 have B4 := B4.keep qk (by omega)
 have Hm := Hm.keep qk (fun k hk e => by omega)
 have q := q.step qk (fun k hk e => by omega)
 clear hz23 hg23 hs23 hwq
 have hwl : m.W.l.length = m.S.l.length + 1 := by have := ha.w; simpa [trP] using this
 refine go TL_ok 200 rfl ?_
 refine loop [3, 4, 10, 23, 24] (fun y : List (Sli Int) × Option Addr × Nat => [I sh, .pointer (some ⟨g4, 0, none⟩), I lst, .pointer (some ⟨g23, 0, none⟩), .int .i64 (y.1.length : Int)])
  (fun y w' => y.1.length ≤ m.W.l.length ∧ y.1.map (·.l) = (m.W.l.take y.1.length).map (fun s => s.l.map fun a => a - min sh a) ∧ Chg No w0 w' ∧ Bk w' g4 56 (tmL m) ∧ Bk w' g23 56 [.slice y.2.1 y.1.length y.2.2, .slice m.S.A m.S.l.length m.S.c] ∧
   w'.ownsRow (g23 + 1) 25 1 (.slice y.2.1 y.1.length y.2.2) y.1.length (y.1.flatMap slI) ∧ ∀ s ∈ y.1, s.l.length ≤ 1000 ∧ w'.ownsRow (g23 + 1) 3 1 (.slice s.A s.l.length s.c) s.l.length (iL s.l)) (fun y => m.W.l.length - y.1.length) ([], none, 0) (fun _ => rfl) rfl ⟨Nat.zero_le _, rfl, q, B4, B23, own_nil, fun s hs => by cases hs⟩ ?_
 clear Hm B23
 rintro ⟨rows, A, c⟩ τ w ⟨hrl, hrm, q, B4, B23, own, hrows⟩
 simp only at hrl hrm own hrows B23
 dsimp only
 have Hm := Hm0.no q
 refine go TL_ok 200 rfl ?_
 repeat ((first | refine ldA TL_ok rfl rfl rfl rfl rfl (Bk.all B4) ?_ | refine ld TL_ok rfl rfl rfl rfl (Bk.get B4 rfl) ?_ | refine gT rfl rfl rfl rfl ?_ | refine gF rfl rfl rfl rfl ?_ | refine condT rfl rfl ?_ | refine condF rfl rfl ?_); refine go TL_ok 200 rfl ?_)
 refine condD rfl (fun hlt => ?_) (fun hlt => ?_)
 ·have hlt : rows.length < m.W.l.length := by have : (rows.length : Int) < (m.W.l.length : Int) := hlt; omega
  obtain ⟨s, hs⟩ := getA_of hlt
  have hsm := List.mem_of_getElem? hs
  have hsr : s.l ∈ (trP m).ways := List.mem_map.2 ⟨s, hsm, rfl⟩
  obtain ⟨hsl, hsx⟩ := ha.r _ hsr
  have hsl : s.l.length = m.S.l.length + 1 := hsl
  obtain ⟨b1, o1, hA1, hb1, hc1⟩ := Sl.el Hm.w1 slI_len hs
  have Ss := (Hm.w2 s hsm).1
  have l23 := B23.lt
  have eN : w64 ((rows.length : Int) + 1) = ((rows.length + 1 : Nat) : Int) := w64_id (by omega) (by omega)
  refine go TL_ok 200 rfl ?_
  refine loop [3, 4, 10, 23, 24, 25, 26] (fun y : List Int × Option Addr × Nat => [I sh, .pointer (some ⟨g4, 0, none⟩), I lst, .pointer (some ⟨g23, 0, none⟩), .int .i64 (rows.length : Int), .slice y.2.1 y.1.length y.2.2, .int .i64 (y.1.length : Int)])
   (fun y w' => y.1.length ≤ s.l.length ∧ y.1 = (s.l.take y.1.length).map (fun a => a - min sh a) ∧ Chg No w w' ∧ w'.ownsRow w.heap.size 3 1 (.slice y.2.1 y.1.length y.2.2) y.1.length (iL y.1)) (fun y => s.l.length - y.1.length) ([], none, 0) (fun _ => rfl) rfl ⟨Nat.zero_le _, rfl, Chg.refl _ _, own_nil⟩ ?_
  rintro ⟨out, A5, c5⟩ τ w1 ⟨hol, hout, q1, own5⟩
  simp only at hol hout own5
  dsimp only
  have B4 := B4.no q1
  have Ss1 := Ss.no q1
  have hsz := q1.size
  have hc1 := hc1.keep (by omega) q1 (fun h => h)
  have ez := Hm.w1.2.1
  have es := Ss1.2.1
  refine go TL_ok 200 rfl ?_
  repeat ((first | refine ldA TL_ok rfl rfl rfl rfl rfl (Bk.all B4) ?_ | refine ld TL_ok rfl rfl rfl rfl (Bk.get B4 rfl) ?_ | refine gT rfl rfl rfl rfl ?_ | refine gF rfl rfl rfl rfl ?_ | refine condT rfl rfl ?_ | refine condF rfl rfl ?_); refine go TL_ok 200 rfl ?_)
  rw [hA1]
  refine idx TL_ok rfl rfl rfl rfl rfl rows.length rfl (by omega) ?_
  refine go TL_ok 200 rfl ?_
  refine ld TL_ok rfl rfl rfl rfl (hc1.get (i := 0) rfl) ?_
  refine go TL_ok 200 rfl ?_
  rw [← hA1]
  refine condD rfl (fun hlt2 => ?_) (fun hlt2 => ?_)
  ·have hlt2 : out.length < s.l.length := by have : (out.length : Int) < (s.l.length : Int) := hlt2; omega
   obtain ⟨a, hax⟩ := getA_of hlt2
   have hab := hsx a (List.mem_of_getElem? hax)
   obtain ⟨b2, o2, hA2, hb2, hc2⟩ := Ss1.elI hax
   have eM : w64 ((out.length : Int) + 1) = ((out.length + 1 : Nat) : Int) := w64_id (by omega) (by omega)
   refine go TL_ok 200 rfl ?_
   refine draw mixed (fun w' => Chg (fun k => (Value.slice A5 out.length c5).ownBlock = some k) w1 w') ([0,1,2,3,4,5,6,7,8,9,10,11,12,13,14,15,16,17,18,19].map (fun i => (i, true)) ++ [(20, false)] ++ [(21, false)] ++ [22].map (fun i => (i, true))) rfl (by kernel_rfl) ((Chg.drew _).mono fun _ _ h => h.elim) ?_
   have l4' : g4 < w.heap.size := by omega
   refine goH TL_ok 200 rfl ?_
   refine quietH rfl (fun w' hS => r_load TL_ok rfl rfl rfl (Bk.get (B4.keep hS (fun e => by have := own_ge own5 e; omega)) rfl)) ?_
   refine goH TL_ok 200 rfl ?_
   rw [hA1]
   refine quietH rfl (fun w' hS => r_idx TL_ok rfl rfl rfl rfl rows.length rfl (by omega)) ?_
   refine goH TL_ok 200 rfl ?_
   refine quietH rfl (fun w' hS => r_load TL_ok rfl rfl rfl ((hc1.keep (by omega) hS (fun e => by have := own_ge own5 e; omega)).get (i := 0) rfl)) ?_
   rw [← hA1, hA2]
   refine goH TL_ok 200 rfl ?_
   refine quietH rfl (fun w' hS => r_idx TL_ok rfl rfl rfl rfl out.length rfl (by omega)) ?_
   refine goH TL_ok 200 rfl ?_
   refine quietH rfl (fun w' hS => r_load TL_ok rfl rfl rfl ((hS.cell (a := ⟨b2, o2 + out.length * 1, none⟩) (by show b2 < _; omega) (fun e => by have h : w.heap.size ≤ b2 := own_ge own5 e; omega)).trans hc2)) ?_
   rw [← hA2]
   refine goH TL_ok 200 rfl ?_
   refine quietH rfl (fun w' hS => r_load TL_ok rfl rfl rfl (Bk.get (B4.keep hS (fun e => by have := own_ge own5 e; omega)) rfl)) ?_
   refine goH TL_ok 200 rfl ?_
   rw [hA1]
   refine quietH rfl (fun w' hS => r_idx TL_ok rfl rfl rfl rfl rows.length rfl (by omega)) ?_
   refine goH TL_ok 200 rfl ?_
   refine quietH rfl (fun w' hS => r_load TL_ok rfl rfl rfl ((hc1.keep (by omega) hS (fun e => by have := own_ge own5 e; omega)).get (i := 0) rfl)) ?_
   rw [← hA1, hA2]
   refine goH TL_ok 200 rfl ?_
   refine quietH rfl (fun w' hS => r_idx TL_ok rfl rfl rfl rfl out.length rfl (by omega)) ?_
   refine goH TL_ok 200 rfl ?_
   refine quietH rfl (fun w' hS => r_load TL_ok rfl rfl rfl ((hS.cell (a := ⟨b2, o2 + out.length * 1, none⟩) (by show b2 < _; omega) (fun e => by have h : w.heap.size ≤ b2 := own_ge own5 e; omega)).trans hc2)) ?_
   rw [← hA2]
   refine goH TL_ok 200 rfl ?_
   rw [w64_id (x := a - min sh a) (by omega) (by omega)]
   have qd : Chg (fun k => (Value.slice A5 out.length c5).ownBlock = some k) w1 w1.drew := (Chg.drew w1).mono fun _ _ h => h.elim
   have own5 := own_no own5 (Chg.drew w1)
   refine rowE TL_ok rfl rfl rfl rfl rfl rfl (cs := [I (a - min sh a)]) rfl ?_
   intro gr w2 hgr hsr2 qk Br
   have own5 := own_no own5 qk
   have qd := qd.no qk
   refine ⟨qd, ?_⟩
   refine goH TL_ok 200 rfl ?_
   have hs0 := qd.size
   refine appSE TL_ok rfl rfl rfl rfl rfl own5 (Br.sl (sz := 1) (m := 1) rfl) rfl (by unfold maxLen; omega) (by show (out.length + 1) * 8 ≤ _; omega) (by omega) ?_
   intro A6 c6 w3 own6 qk hown
   have qd := qd.trans qk
   refine ⟨qd, ?_⟩
   refine goH TL_ok 200 rfl ?_
   refine endH ?_
   refine go TL_ok 200 rfl ?_
   rw [eM]
   have hlen : (out ++ [a - min sh a]).length = out.length + 1 := by simp
   rw [← hlen]
   refine round ⟨(out ++ [a - min sh a], A6, c6), rfl, ⟨by simp; omega, ?_, q1.step qd (fun k hk e => by have := own_ge own5 e; omega), ?_⟩, by simp; omega⟩
   ·show out ++ [a - min sh a] = _
    rw [hlen, List.take_add_one, hax]
    simp only [Option.toList_some, List.map_append, List.map_cons, List.map_nil]
    rw [← hout]
   ·show w3.ownsRow w.heap.size 3 1 (.slice A6 (out ++ [a - min sh a]).length c6) (out ++ [a - min sh a]).length (iL (out ++ [a - min sh a]))
    rw [hlen, show iL (out ++ [a - min sh a]) = iL out ++ [I (a - min sh a)] by simp [iL]]
    exact own6
  ·have hlt2 : out.length = s.l.length := by have : ¬ (out.length : Int) < (s.l.length : Int) := hlt2; omega
   have hout : out = s.l.map (fun a => a - min sh a) := by rw [hlt2, List.take_length] at hout; exact hout
   have own := own_no own q1
   have B23 := B23.no q1
   have hrows : ∀ s ∈ rows, s.l.length ≤ 1000 ∧ w1.ownsRow (g23 + 1) 3 1 (.slice s.A s.l.length s.c) s.l.length (iL s.l) := fun s hs => ⟨(hrows s hs).1, own_no (hrows s hs).2 q1⟩
   have q := q.trans q1
   refine go TL_ok 200 rfl ?_
   refine ld TL_ok rfl rfl rfl rfl (v := .slice A rows.length c) (Bk.get B23 rfl) ?_
   refine go TL_ok 200 rfl ?_
   have hge : ∀ k, (Value.slice A rows.length c).ownBlock = some k → g23 + 1 ≤ k := fun k e => own_ge own e
   have ap5 := own_apart own own5 (by decide)
   have apr := fun s (hs : s ∈ rows) => own_apart own (hrows s hs).2 (by decide)
   refine app1 TL_ok rfl rfl rfl rfl rfl rfl (cs := [.slice A5 out.length c5]) rfl rfl rfl rfl (fun _ => rfl) (fun _ => rfl) (fun _ => rfl) own (by unfold maxLen; omega) (by show (rows.length + 1) * 24 ≤ _; omega) (by omega) ?_
   intro gx A7 c7 w4 own7 qk hs7 hown
   have B4 := B4.keep qk (fun e => by have := hge _ e; omega)
   have B23 := B23.keep qk (fun e => by have := hge _ e; omega)
   have own5 := own_keep own5 qk (fun k e hh => ap5 k hh e)
   have hrows : ∀ s ∈ rows, s.l.length ≤ 1000 ∧ w4.ownsRow (g23 + 1) 3 1 (.slice s.A s.l.length s.c) s.l.length (iL s.l) := fun s hs => ⟨(hrows s hs).1, own_keep (hrows s hs).2 qk (fun k e hh => apr s hs k hh e)⟩
   have q := q.step qk (fun k hk e => by have := hge _ e; omega)
   have hz7 := q.size
   refine go TL_ok 200 rfl ?_
   refine st TL_ok rfl rfl rfl rfl (v := .slice A7 (rows.length + 1) c7) rfl rfl B23 rfl ?_
   intro w5 qk B23' hz
   have B23o := B23
   unfold Bk at B23o
   have B23 : Bk w5 g23 56 [.slice A7 (rows.length + 1) c7, .slice m.S.A m.S.l.length m.S.c] := B23'
   have B4 := B4.keep qk (by omega)
   have own5 := own_keep own5 qk (fun k e hh => by subst hh; exact no_own4 own5 B23o (by decide) e)
   have own7 := own_keep own7 qk (fun k e hh => by subst hh; exact no_own4 own7 B23o (by decide) e)
   have hrows : ∀ s ∈ rows, s.l.length ≤ 1000 ∧ w5.ownsRow (g23 + 1) 3 1 (.slice s.A s.l.length s.c) s.l.length (iL s.l) := fun s hs => ⟨(hrows s hs).1, own_keep (hrows s hs).2 qk (fun k e hh => by subst hh; exact no_own4 (hrows s hs).2 B23o (by decide) e)⟩
   have q := q.step qk (fun k hk e => by omega)
   refine go TL_ok 200 rfl ?_
   rw [eN]
   obtain ⟨r, hr⟩ : ∃ r : Sli Int, r = ⟨A5, out, c5⟩ := ⟨_, rfl⟩
   have hlen : (rows ++ [r]).length = rows.length + 1 := by simp
   rw [← hlen]
   refine round ⟨(rows ++ [r], A7, c7), rfl, ⟨by simp; omega, ?_, q, B4, ?_, ?_, fun s' hs' => ?_⟩, by simp; omega⟩
   ·show (rows ++ [r]).map (·.l) = _
    rw [hlen, List.take_add_one, hs, List.map_append, hrm]
    simp only [Option.toList_some, List.map_append, List.map_cons, List.map_nil]
    rw [hr, hout]
   ·show Bk w5 g23 56 [.slice A7 (rows ++ [r]).length c7, .slice m.S.A m.S.l.length m.S.c]
    rw [hlen]; exact B23
   ·show w5.ownsRow (g23 + 1) 25 1 (.slice A7 (rows ++ [r]).length c7) (rows ++ [r]).length ((rows ++ [r]).flatMap slI)
    rw [hlen, fm_snoc, hr]
    exact own7
   ·rcases List.mem_append.1 hs' with h | h
    ·exact hrows s' h
    ·simp only [List.mem_singleton] at h
     subst h
     rw [hr]
     exact ⟨by show out.length ≤ 1000; omega, own_base own5 (by omega)⟩
 ·have hrl2 : rows.length = m.W.l.length := by have : ¬ (rows.length : Int) < (m.W.l.length : Int) := hlt; omega
  have hrm : rows.map (·.l) = m.W.l.map (fun s => s.l.map fun a => a - min sh a) := by rw [hrl2, List.take_length] at hrm; exact hrm
  obtain ⟨m', hm'⟩ : ∃ m' : Tm, m' = ⟨⟨A, rows, c⟩, m.S⟩ := ⟨_, rfl⟩
  have et : trP m' = shortT (trP m) sh := by
   rw [hm']
   show (⟨rows.map (·.l), m.S.l⟩ : Go.Camp.Tr) = _
   rw [hrm]
   unfold shortT trP
   simp only [List.map_map]
   rfl
  have H' : TrM w w.heap.size m' := by
   rw [hm']
   exact ⟨own_sl own, fun s hs => ⟨own_sl (hrows s hs).2, by have := (hrows s hs).1; omega⟩, Hm.s.more Hm.s.2.1 (Nat.le_refl _), by show rows.length ≤ _; omega, Hm.ls⟩
  have B23 : Bk w g23 56 (tmL m') := by rw [hm']; exact B23
  have oks := short_ok ha (h := sh) (by omega)
  obtain ⟨z1, z2⟩ := hsb2 sh (by omega)
  rw [← et] at oks z1 z2
  refine go TL_ok 200 rfl ?_
  repeat ((first | refine ldA TL_ok rfl rfl rfl rfl rfl (Bk.all B4) ?_ | refine ldA TL_ok rfl rfl rfl rfl rfl (Bk.all B23) ?_ | refine ld TL_ok rfl rfl rfl rfl (Bk.get B4 rfl) ?_ | refine ld TL_ok rfl rfl rfl rfl (Bk.get B23 rfl) ?_ | refine gT rfl rfl rfl rfl ?_ | refine gF rfl rfl rfl rfl ?_ | refine condT rfl rfl ?_ | refine condF rfl rfl ?_); refine go TL_ok 200 rfl ?_)
  refine call rfl rfl rfl (ok _ (by decide) rfl) (Round_any m' _ H') ?_
  rintro v w ⟨qk, hv⟩
  have B4 := B4.no qk
  have B23 := B23.no qk
  have q := q.trans qk
  obtain ⟨A7, c7, rfl⟩ : ∃ A c, v = .tuple #[.slice A (roundP (trP m')).best.length c, I (roundP (trP m')).least, I 0] := by
   rcases hv with ⟨h, _⟩ | ⟨_, h, _⟩ | ⟨_, _, A, c, h, _⟩
   ·exact absurd oks h
   ·omega
   ·exact ⟨A, c, h⟩
  refine go TL_ok 200 rfl ?_
  repeat ((first | refine ldA TL_ok rfl rfl rfl rfl rfl (Bk.all B4) ?_ | refine ldA TL_ok rfl rfl rfl rfl rfl (Bk.all B23) ?_ | refine ld TL_ok rfl rfl rfl rfl (Bk.get B4 rfl) ?_ | refine ld TL_ok rfl rfl rfl rfl (Bk.get B23 rfl) ?_ | refine gT rfl rfl rfl rfl ?_ | refine gF rfl rfl rfl rfl ?_ | refine condT rfl rfl ?_ | refine condF rfl rfl ?_); refine go TL_ok 200 rfl ?_)
  rw [decide_eq_true (show (roundP (trP m')).least ≤ lst by omega)]
  refine go TL_ok 200 rfl ?_
  repeat ((first | refine ldA TL_ok rfl rfl rfl rfl rfl (Bk.all B4) ?_ | refine ldA TL_ok rfl rfl rfl rfl rfl (Bk.all B23) ?_ | refine ld TL_ok rfl rfl rfl rfl (Bk.get B4 rfl) ?_ | refine ld TL_ok rfl rfl rfl rfl (Bk.get B23 rfl) ?_ | refine gT rfl rfl rfl rfl ?_ | refine gF rfl rfl rfl rfl ?_ | refine condT rfl rfl ?_ | refine condF rfl rfl ?_); refine go TL_ok 200 rfl ?_)
  refine call rfl rfl rfl (ok _ (by decide) rfl) (known_any _) ?_
  rintro v wk ⟨rfl, qk⟩
  refine go TL_ok 200 rfl ?_
  exact ret (ret1 (v := .bool true) Try.results15 rfl ⟨rfl, q.trans qk⟩)
end Go.Proofs.Yteenhfnamjbaiaa
