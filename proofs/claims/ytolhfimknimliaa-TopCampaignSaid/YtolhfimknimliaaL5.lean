/- The walk of TopHits. -/
import Derived.Test.YtolhfimknimliaaKV6
import Derived.Test.YtolhfimknimliaaE4
import Derived.Test.YtolhfimknimliaaCF
namespace Go.Proofs.Ytolhfimknimliaa.K
open Go.Ev Go.Proofs
open Go.Camp (Cp CpOk ChOk Site SiteOk Sites costP siteAt siteAt_ok SlOk)
attribute [local irreducible] At AtH
theorem cpm5 {w : World} {B : Nat} {m : Cm} (S : Sl w B 4 m.A m.c.sites.length (m.c.sites.flatMap siL)) : CpM w m := S.more S.2.1 (Nat.le_refl _)
theorem whole_small {s : Nat} {D : Int} (hs : s ≤ 2) (h2 : 2 ≤ D) (h8 : D ≤ 8) : (Q.wholeP s D).2 = 0 := by
 have hD : D = 2 ∨ D = 3 ∨ D = 4 ∨ D = 5 ∨ D = 6 ∨ D = 7 ∨ D = 8 := by omega
 have hs' : s = 0 ∨ s = 1 ∨ s = 2 := by omega
 rcases hs' with rfl | rfl | rfl <;> rcases hD with rfl | rfl | rfl | rfl | rfl | rfl | rfl <;> rfl
theorem slots_bd {s : Nat} {D : Int} (hs : s ≤ 2) (h2 : 2 ≤ D) (h8 : D ≤ 8) : 1 ≤ D ^ s ∧ D ^ s ≤ 64 := by
 have hD : D = 2 ∨ D = 3 ∨ D = 4 ∨ D = 5 ∨ D = 6 ∨ D = 7 ∨ D = 8 := by omega
 have hs' : s = 0 ∨ s = 1 ∨ s = 2 := by omega
 rcases hs' with rfl | rfl | rfl <;> rcases hD with rfl | rfl | rfl | rfl | rfl | rfl | rfl <;> decide
theorem cube_bd {P : Int} {j : Nat} (h0 : 1 ≤ P) (h1 : P ≤ 64) (hj : j ≤ 3) : 1 ≤ P ^ j ∧ P ^ j ≤ 262144 := by
 refine ⟨pow_pos' h0 _, ?_⟩
 have e : ∀ k : Nat, k ≤ 3 → P ^ k ≤ 64 ^ k := by
  intro k
  induction k with
  | zero => intro _; rw [Int.pow_zero, Int.pow_zero]; exact Int.le_refl _
  | succ k ih =>
   intro hk
   rw [Int.pow_succ, Int.pow_succ]
   exact Int.mul_le_mul (ih (by omega)) h1 (by omega) (Int.pow_nonneg (by omega))
 have h := e j hj
 have hj' : j = 0 ∨ j = 1 ∨ j = 2 ∨ j = 3 := by omega
 rcases hj' with rfl | rfl | rfl | rfl <;> simp at h ⊢ <;> omega
theorem Tail_small (s : Nat) (D k h : Int) (hs : s ≤ 2) (h2 : 2 ≤ D) (h8 : D ≤ 8) (k0 : 0 ≤ k) (k1 : k ≤ D) (hh : h = 0 ∨ h = 1) (w : World) :
  Ret Try.prog 28 [I (s : Int), I D, I k, I h] w fun v w' => v = .tuple #[I (Q.tailT D k s h), I 0] ∧ Chg No w w' := by
 have e : Q.tailE (s : Int) D k h = 0 := by
  unfold Q.tailE
  rw [if_neg (by rw [whole_small hs h2 h8]; decide)]
  have h1 : Go.Cnt.inB k 0 D = true := (Go.Cnt.inB_iff _ _ _).2 ⟨k0, k1⟩
  have h3 : Go.Cnt.inB h 0 ((s : Int) + 1) = true := (Go.Cnt.inB_iff _ _ _).2 ⟨by omega, by omega⟩
  rw [h1, h3]
  rfl
 have hp := slots_bd hs h2 h8
 refine Ret.mono (Q.Tail_any (s : Int) D k h w) fun v w' hv => ?_
 rw [e, if_pos rfl] at hv
 have := Q.tailF_tailT (D := D) (k := k) (h := h) k0 k1 (by omega) s (by omega)
 refine ⟨?_, hv.1⟩
 rw [hv.2, show ((s : Int)).toNat = s by omega, this]
theorem none_snoc (c : Cp) (s : Nat) (l : List Int) (i : Int) : noneP c s (l ++ [i]) = noneP c s l * (c.parts ^ s - Q.tailT c.parts (siteAt c i).tru s 1) := by
 unfold noneP
 rw [List.foldl_append]
 rfl
theorem none_bd {c : Cp} (hc : CpOk c) (s : Nat) {l : List Int} (hs : Sites c l) : 0 ≤ noneP c s l ∧ noneP c s l ≤ (c.parts ^ s) ^ l.length := by
 have hp := hc.p0
 have hP1 := pow_pos' (D := c.parts) (by omega) s
 have hb : ∀ i ∈ l, 0 ≤ Q.tailT c.parts (siteAt c i).tru s 1 ∧ Q.tailT c.parts (siteAt c i).tru s 1 ≤ c.parts ^ s := fun i hi => by
  have hx := (siteAt_ok hc (hs i hi).1 (hs i hi).2).2
  exact tail_bd hx.t0 hx.t1 s
 exact ⟨(none_le (P := c.parts ^ s) (fun _ => 0) _ l fun i hi => ⟨Int.le_refl _, hb i hi⟩).1, all_le _ _ l hb (by omega)⟩
set_option maxRecDepth 20000 in
set_option maxHeartbeats 16000000 in
theorem walk_TopHits (m : Cm) (o : Sli Int) (s0 : Int) (w0 : World) (hm : InC w0 m) (ho : InI w0 o) (hs0 : I64 s0) :
  Ret Try.prog 5 [.agg (cpL m).toArray, .slice o.A o.l.length o.c, I s0] w0 fun x w' => x = .bool true ∧ Chg No w0 w' := by
 have Sm0 : Sl w0 w0.heap.size 4 m.A m.c.sites.length (m.c.sites.flatMap siL) := hm.m
 have So0 := ho.sl
 refine enter Try.func5 rfl Try.ntmps5 rfl ?_
 refine go T_ok 200 rfl ?_
 refine bx rfl rfl rfl (cs := cpL m) rfl ?_
 intro g3 u3 hg3 hs3 q3 B3
 have q := q3
 have Sm := Sm0.no q
 have So := So0.no q
 refine go T_ok 200 rfl ?_
 repeat ((first | refine ldA T_ok rfl rfl rfl rfl rfl (Bk.all B3) ?_ | refine ld T_ok rfl rfl rfl rfl (Bk.get B3 rfl) ?_ | refine gT rfl rfl rfl rfl ?_ | refine gF rfl rfl rfl rfl ?_ | refine condT rfl rfl ?_ | refine condF rfl rfl ?_); refine go T_ok 200 rfl ?_)
 by_cases h1 : 8 < m.c.parts
 ·rw [decide_eq_true h1]
  refine go T_ok 200 rfl ?_
  repeat ((first | refine ldA T_ok rfl rfl rfl rfl rfl (Bk.all B3) ?_ | refine ld T_ok rfl rfl rfl rfl (Bk.get B3 rfl) ?_ | refine gT rfl rfl rfl rfl ?_ | refine gF rfl rfl rfl rfl ?_ | refine condT rfl rfl ?_ | refine condF rfl rfl ?_); refine go T_ok 200 rfl ?_)
  refine call rfl rfl rfl (ok _ (by decide) rfl) (known_any _) ?_
  rintro v wk ⟨rfl, qk⟩
  refine go T_ok 200 rfl ?_
  exact ret (ret1 (v := .bool true) Try.results5 rfl ⟨rfl, q.trans qk⟩)
 rw [decide_eq_false h1]
 refine go T_ok 200 rfl ?_
 repeat ((first | refine ldA T_ok rfl rfl rfl rfl rfl (Bk.all B3) ?_ | refine ld T_ok rfl rfl rfl rfl (Bk.get B3 rfl) ?_ | refine gT rfl rfl rfl rfl ?_ | refine gF rfl rfl rfl rfl ?_ | refine condT rfl rfl ?_ | refine condF rfl rfl ?_); refine go T_ok 200 rfl ?_)
 by_cases h2 : 8 < (m.c.sites.length : Int)
 ·rw [decide_eq_true h2]
  refine go T_ok 200 rfl ?_
  repeat ((first | refine ldA T_ok rfl rfl rfl rfl rfl (Bk.all B3) ?_ | refine ld T_ok rfl rfl rfl rfl (Bk.get B3 rfl) ?_ | refine gT rfl rfl rfl rfl ?_ | refine gF rfl rfl rfl rfl ?_ | refine condT rfl rfl ?_ | refine condF rfl rfl ?_); refine go T_ok 200 rfl ?_)
  refine call rfl rfl rfl (ok _ (by decide) rfl) (known_any _) ?_
  rintro v wk ⟨rfl, qk⟩
  refine go T_ok 200 rfl ?_
  exact ret (ret1 (v := .bool true) Try.results5 rfl ⟨rfl, q.trans qk⟩)
 rw [decide_eq_false h2]
 refine go T_ok 200 rfl ?_
 repeat ((first | refine ldA T_ok rfl rfl rfl rfl rfl (Bk.all B3) ?_ | refine ld T_ok rfl rfl rfl rfl (Bk.get B3 rfl) ?_ | refine gT rfl rfl rfl rfl ?_ | refine gF rfl rfl rfl rfl ?_ | refine condT rfl rfl ?_ | refine condF rfl rfl ?_); refine go T_ok 200 rfl ?_)
 by_cases h3 : 10 < (o.l.length : Int)
 ·rw [decide_eq_true h3]
  refine go T_ok 200 rfl ?_
  repeat ((first | refine ldA T_ok rfl rfl rfl rfl rfl (Bk.all B3) ?_ | refine ld T_ok rfl rfl rfl rfl (Bk.get B3 rfl) ?_ | refine gT rfl rfl rfl rfl ?_ | refine gF rfl rfl rfl rfl ?_ | refine condT rfl rfl ?_ | refine condF rfl rfl ?_); refine go T_ok 200 rfl ?_)
  refine call rfl rfl rfl (ok _ (by decide) rfl) (known_any _) ?_
  rintro v wk ⟨rfl, qk⟩
  refine go T_ok 200 rfl ?_
  exact ret (ret1 (v := .bool true) Try.results5 rfl ⟨rfl, q.trans qk⟩)
 rw [decide_eq_false h3]
 refine go T_ok 200 rfl ?_
 repeat ((first | refine ldA T_ok rfl rfl rfl rfl rfl (Bk.all B3) ?_ | refine ld T_ok rfl rfl rfl rfl (Bk.get B3 rfl) ?_ | refine gT rfl rfl rfl rfl ?_ | refine gF rfl rfl rfl rfl ?_ | refine condT rfl rfl ?_ | refine condF rfl rfl ?_); refine go T_ok 200 rfl ?_)
 by_cases h4 : s0 < 0
 ·rw [decide_eq_true h4]
  refine go T_ok 200 rfl ?_
  repeat ((first | refine ldA T_ok rfl rfl rfl rfl rfl (Bk.all B3) ?_ | refine ld T_ok rfl rfl rfl rfl (Bk.get B3 rfl) ?_ | refine gT rfl rfl rfl rfl ?_ | refine gF rfl rfl rfl rfl ?_ | refine condT rfl rfl ?_ | refine condF rfl rfl ?_); refine go T_ok 200 rfl ?_)
  refine call rfl rfl rfl (ok _ (by decide) rfl) (known_any _) ?_
  rintro v wk ⟨rfl, qk⟩
  refine go T_ok 200 rfl ?_
  exact ret (ret1 (v := .bool true) Try.results5 rfl ⟨rfl, q.trans qk⟩)
 rw [decide_eq_false h4]
 refine go T_ok 200 rfl ?_
 repeat ((first | refine ldA T_ok rfl rfl rfl rfl rfl (Bk.all B3) ?_ | refine ld T_ok rfl rfl rfl rfl (Bk.get B3 rfl) ?_ | refine gT rfl rfl rfl rfl ?_ | refine gF rfl rfl rfl rfl ?_ | refine condT rfl rfl ?_ | refine condF rfl rfl ?_); refine go T_ok 200 rfl ?_)
 by_cases h5 : 2 < s0
 ·rw [decide_eq_true h5]
  refine go T_ok 200 rfl ?_
  repeat ((first | refine ldA T_ok rfl rfl rfl rfl rfl (Bk.all B3) ?_ | refine ld T_ok rfl rfl rfl rfl (Bk.get B3 rfl) ?_ | refine gT rfl rfl rfl rfl ?_ | refine gF rfl rfl rfl rfl ?_ | refine condT rfl rfl ?_ | refine condF rfl rfl ?_); refine go T_ok 200 rfl ?_)
  refine call rfl rfl rfl (ok _ (by decide) rfl) (known_any _) ?_
  rintro v wk ⟨rfl, qk⟩
  refine go T_ok 200 rfl ?_
  exact ret (ret1 (v := .bool true) Try.results5 rfl ⟨rfl, q.trans qk⟩)
 rw [decide_eq_false h5]
 obtain ⟨s, rfl⟩ : ∃ k : Nat, s0 = (k : Int) := ⟨s0.toNat, by omega⟩
 refine go T_ok 200 rfl ?_
 repeat ((first | refine ldA T_ok rfl rfl rfl rfl rfl (Bk.all B3) ?_ | refine ld T_ok rfl rfl rfl rfl (Bk.get B3 rfl) ?_ | refine gT rfl rfl rfl rfl ?_ | refine gF rfl rfl rfl rfl ?_ | refine condT rfl rfl ?_ | refine condF rfl rfl ?_); refine go T_ok 200 rfl ?_)
 refine call rfl rfl rfl (ok _ (by decide) rfl) (rCampaign_any m _ (cpm5 Sm) (by omega)) ?_
 rintro x w ⟨⟨b', rfl, hb⟩, qk⟩
 have B3 := B3.no qk
 have Sm := Sm.no qk
 have So := So.no qk
 have q := q.trans qk
 cases b' with
 | false =>
  refine go T_ok 200 rfl ?_
  repeat ((first | refine ldA T_ok rfl rfl rfl rfl rfl (Bk.all B3) ?_ | refine ld T_ok rfl rfl rfl rfl (Bk.get B3 rfl) ?_ | refine gT rfl rfl rfl rfl ?_ | refine gF rfl rfl rfl rfl ?_ | refine condT rfl rfl ?_ | refine condF rfl rfl ?_); refine go T_ok 200 rfl ?_)
  refine call rfl rfl rfl (ok _ (by decide) rfl) (known_any _) ?_
  rintro v wk ⟨rfl, qk⟩
  refine go T_ok 200 rfl ?_
  exact ret (ret1 (v := .bool true) Try.results5 rfl ⟨rfl, q.trans qk⟩)
 | true =>
 have hc := hb.1 rfl
 refine go T_ok 200 rfl ?_
 repeat ((first | refine ldA T_ok rfl rfl rfl rfl rfl (Bk.all B3) ?_ | refine ld T_ok rfl rfl rfl rfl (Bk.get B3 rfl) ?_ | refine gT rfl rfl rfl rfl ?_ | refine gF rfl rfl rfl rfl ?_ | refine condT rfl rfl ?_ | refine condF rfl rfl ?_); refine go T_ok 200 rfl ?_)
 refine call rfl rfl rfl (ok _ (by decide) rfl) (rLong_any m s _ hc (by omega)) ?_
 rintro x w ⟨⟨b', rfl, hb⟩, qk⟩
 have B3 := B3.no qk
 have Sm := Sm.no qk
 have So := So.no qk
 have q := q.trans qk
 cases b' with
 | true =>
  refine go T_ok 200 rfl ?_
  repeat ((first | refine ldA T_ok rfl rfl rfl rfl rfl (Bk.all B3) ?_ | refine ld T_ok rfl rfl rfl rfl (Bk.get B3 rfl) ?_ | refine gT rfl rfl rfl rfl ?_ | refine gF rfl rfl rfl rfl ?_ | refine condT rfl rfl ?_ | refine condF rfl rfl ?_); refine go T_ok 200 rfl ?_)
  refine call rfl rfl rfl (ok _ (by decide) rfl) (known_any _) ?_
  rintro v wk ⟨rfl, qk⟩
  refine go T_ok 200 rfl ?_
  exact ret (ret1 (v := .bool true) Try.results5 rfl ⟨rfl, q.trans qk⟩)
 | false =>
 have hs := hb.1 rfl
 have hp0 := hc.p0
 refine go T_ok 200 rfl ?_
 repeat ((first | refine ldA T_ok rfl rfl rfl rfl rfl (Bk.all B3) ?_ | refine ld T_ok rfl rfl rfl rfl (Bk.get B3 rfl) ?_ | refine gT rfl rfl rfl rfl ?_ | refine gF rfl rfl rfl rfl ?_ | refine condT rfl rfl ?_ | refine condF rfl rfl ?_); refine go T_ok 200 rfl ?_)
 refine call rfl rfl rfl (ok _ (by decide) rfl) (Best_ok m s _ (cpm5 Sm) hc hs) ?_
 rintro x w ⟨A5, c5, b5, e5, rfl, qk, own5, hls⟩
 have B3 := B3.no qk
 have Sm := Sm.no qk
 have So := So.no qk
 have q := q.trans qk
 obtain ⟨t1, t2⟩ := bestOf_top m.c s (moreL m.c 3 0 [])
 rw [← e5] at t1 t2
 cases b5 with
 | none =>
  have hno : ¬ ChOk m.c o.l := fun h => by
   have := mem_all.2 h
   rw [t1 rfl] at this
   cases this
  refine go T_ok 200 rfl ?_
  repeat ((first | refine ldA T_ok rfl rfl rfl rfl rfl (Bk.all B3) ?_ | refine ld T_ok rfl rfl rfl rfl (Bk.get B3 rfl) ?_ | refine gT rfl rfl rfl rfl ?_ | refine gF rfl rfl rfl rfl ?_ | refine condT rfl rfl ?_ | refine condF rfl rfl ?_); refine go T_ok 200 rfl ?_)
  have yB3 := B3.lt
  have ySo := So.2.1
  have ySm := Sm.2.1
  have yq := q.size
  refine nw rfl rfl (z := .agg #[I 0, I 0]) (by kernel_rfl) (cs := [I 0, I 0]) rfl ?_
  intro g8 w hg8 hs8 qk B8
  have B3 := B3.no qk
  have So := So.no qk
  have Sm := Sm.no qk
  have q := q.trans qk
  refine go T_ok 200 rfl ?_
  refine stA T_ok rfl rfl rfl rfl (vs := [I 0, I 0]) rfl rfl rfl B8 rfl ?_
  intro w qk B8 hz8
  have B8 : Bk w g8 67 ([I 0, I 0]) := B8
  have B3 := Bk.keep B3 qk (by omega)
  have So := Sl.keep So qk (fun k hk e => by omega)
  have Sm := Sl.keep Sm qk (fun k hk e => by omega)
  have q := q.step qk (fun k hk e => by omega)
  refine go T_ok 200 rfl ?_
  repeat ((first | refine ldA T_ok rfl rfl rfl rfl rfl (Bk.all B3) ?_ | refine ldA T_ok rfl rfl rfl rfl rfl (Bk.all B8) ?_ | refine ld T_ok rfl rfl rfl rfl (Bk.get B3 rfl) ?_ | refine ld T_ok rfl rfl rfl rfl (Bk.get B8 rfl) ?_ | refine gT rfl rfl rfl rfl ?_ | refine gF rfl rfl rfl rfl ?_ | refine condT rfl rfl ?_ | refine condF rfl rfl ?_); refine go T_ok 200 rfl ?_)
  refine call rfl rfl rfl (ok _ (by decide) rfl) (rChoice_any m o.l o.A o.c _ _ (cpm5 Sm) hc So (by omega)) ?_
  rintro x w ⟨⟨b, rfl, hb⟩, qk⟩
  have B3 := B3.no qk
  have So := So.no qk
  have Sm := Sm.no qk
  have B8 := B8.no qk
  have q := q.trans qk
  obtain rfl : b = false := Bool.eq_false_iff.2 fun h => hno (hb.1 h)
  refine go T_ok 200 rfl ?_
  repeat ((first | refine ldA T_ok rfl rfl rfl rfl rfl (Bk.all B3) ?_ | refine ldA T_ok rfl rfl rfl rfl rfl (Bk.all B8) ?_ | refine ld T_ok rfl rfl rfl rfl (Bk.get B3 rfl) ?_ | refine ld T_ok rfl rfl rfl rfl (Bk.get B8 rfl) ?_ | refine gT rfl rfl rfl rfl ?_ | refine gF rfl rfl rfl rfl ?_ | refine condT rfl rfl ?_ | refine condF rfl rfl ?_); refine go T_ok 200 rfl ?_)
  refine call rfl rfl rfl (ok _ (by decide) rfl) (known_any _) ?_
  rintro v wk ⟨rfl, qk⟩
  refine go T_ok 200 rfl ?_
  exact ret (ret1 (v := .bool true) Try.results5 rfl ⟨rfl, q.trans qk⟩)
 | some b5 =>
 obtain ⟨t3, t4⟩ := t2 b5 rfl
 have hch := mem_all.1 t3
 have hl5 := ls_ch hch
 have od5 := odds_od hc hs false hl5
 have q51 := od5.w0; have q52 := od5.w1; have q53 := od5.a0; have q54 := od5.a1
 refine go T_ok 200 rfl ?_
 repeat ((first | refine ldA T_ok rfl rfl rfl rfl rfl (Bk.all B3) ?_ | refine ld T_ok rfl rfl rfl rfl (Bk.get B3 rfl) ?_ | refine gT rfl rfl rfl rfl ?_ | refine gF rfl rfl rfl rfl ?_ | refine condT rfl rfl ?_ | refine condF rfl rfl ?_); refine go T_ok 200 rfl ?_)
 have yB3 := B3.lt
 have ySo := So.2.1
 have ySm := Sm.2.1
 have yq := q.size
 refine nw rfl rfl (z := .agg #[I 0, I 0]) (by kernel_rfl) (cs := [I 0, I 0]) rfl ?_
 intro g8 w hg8 hs8 qk B8
 have B3 := B3.no qk
 have So := So.no qk
 have Sm := Sm.no qk
 have q := q.trans qk
 refine go T_ok 200 rfl ?_
 refine stA T_ok rfl rfl rfl rfl (vs := odL (oddsP m.c s false b5)) rfl rfl rfl B8 rfl ?_
 intro w qk B8 hz8
 have B8 : Bk w g8 67 (odL (oddsP m.c s false b5)) := B8
 have B3 := Bk.keep B3 qk (by omega)
 have So := Sl.keep So qk (fun k hk e => by omega)
 have Sm := Sl.keep Sm qk (fun k hk e => by omega)
 have q := q.step qk (fun k hk e => by omega)
 refine go T_ok 200 rfl ?_
 repeat ((first | refine ldA T_ok rfl rfl rfl rfl rfl (Bk.all B3) ?_ | refine ldA T_ok rfl rfl rfl rfl rfl (Bk.all B8) ?_ | refine ld T_ok rfl rfl rfl rfl (Bk.get B3 rfl) ?_ | refine ld T_ok rfl rfl rfl rfl (Bk.get B8 rfl) ?_ | refine gT rfl rfl rfl rfl ?_ | refine gF rfl rfl rfl rfl ?_ | refine condT rfl rfl ?_ | refine condF rfl rfl ?_); refine go T_ok 200 rfl ?_)
 rw [decide_eq_false (show ¬ (oddsP m.c s false b5).2 < 1 by omega)]
 refine go T_ok 200 rfl ?_
 repeat ((first | refine ldA T_ok rfl rfl rfl rfl rfl (Bk.all B3) ?_ | refine ldA T_ok rfl rfl rfl rfl rfl (Bk.all B8) ?_ | refine ld T_ok rfl rfl rfl rfl (Bk.get B3 rfl) ?_ | refine ld T_ok rfl rfl rfl rfl (Bk.get B8 rfl) ?_ | refine gT rfl rfl rfl rfl ?_ | refine gF rfl rfl rfl rfl ?_ | refine condT rfl rfl ?_ | refine condF rfl rfl ?_); refine go T_ok 200 rfl ?_)
 clear own5 t1 t2 e5 hls
 refine loop [1, 2, 3, 8, 10] (fun i : Nat => [.slice o.A o.l.length o.c, I (s : Int), .pointer (some ⟨g3, 0, none⟩), .pointer (some ⟨g8, 0, none⟩), .int .i64 (i : Int)])
  (fun i w' => i ≤ m.c.sites.length ∧ Chg No w0 w' ∧ Bk w' g3 63 (cpL m) ∧ Bk w' g8 67 (odL (oddsP m.c s false b5))) (fun i => m.c.sites.length - i) 0 (fun _ => rfl) rfl ⟨Nat.zero_le _, q, B3, B8⟩ ?_
 clear q B3 B8 So Sm
 rintro i τ w ⟨hi, q, B3, B8⟩
 have So := So0.no q
 have Sm := Sm0.no q
 refine go T_ok 200 rfl ?_
 repeat ((first | refine ldA T_ok rfl rfl rfl rfl rfl (Bk.all B3) ?_ | refine ldA T_ok rfl rfl rfl rfl rfl (Bk.all B8) ?_ | refine ld T_ok rfl rfl rfl rfl (Bk.get B3 rfl) ?_ | refine ld T_ok rfl rfl rfl rfl (Bk.get B8 rfl) ?_ | refine gT rfl rfl rfl rfl ?_ | refine gF rfl rfl rfl rfl ?_ | refine condT rfl rfl ?_ | refine condF rfl rfl ?_); refine go T_ok 200 rfl ?_)
 refine condD rfl (fun hlt => ?_) (fun hlt => ?_)
 ·have hlti : i < m.c.sites.length := by have : (i : Int) < (m.c.sites.length : Int) := hlt; omega
  have ei : w64 ((i : Int) + 1) = ((i + 1 : Nat) : Int) := w64_id (by omega) (by omega)
  refine go T_ok 200 rfl ?_
  repeat ((first | refine ldA T_ok rfl rfl rfl rfl rfl (Bk.all B3) ?_ | refine ldA T_ok rfl rfl rfl rfl rfl (Bk.all B8) ?_ | refine ld T_ok rfl rfl rfl rfl (Bk.get B3 rfl) ?_ | refine ld T_ok rfl rfl rfl rfl (Bk.get B8 rfl) ?_ | refine gT rfl rfl rfl rfl ?_ | refine gF rfl rfl rfl rfl ?_ | refine condT rfl rfl ?_ | refine condF rfl rfl ?_); refine go T_ok 200 rfl ?_)
  refine row T_ok rfl rfl rfl rfl rfl rfl (cs := [I (i : Int)]) rfl ?_
  intro ga w hga hsa qk Ba _
  have B3 := B3.no qk
  have B8 := B8.no qk
  have So := So.no qk
  have Sm := Sm.no qk
  have q := q.trans qk
  refine go T_ok 200 rfl ?_
  repeat ((first | refine ldA T_ok rfl rfl rfl rfl rfl (Bk.all B3) ?_ | refine ldA T_ok rfl rfl rfl rfl rfl (Bk.all B8) ?_ | refine ld T_ok rfl rfl rfl rfl (Bk.get B3 rfl) ?_ | refine ld T_ok rfl rfl rfl rfl (Bk.get B8 rfl) ?_ | refine gT rfl rfl rfl rfl ?_ | refine gF rfl rfl rfl rfl ?_ | refine condT rfl rfl ?_ | refine condF rfl rfl ?_); refine go T_ok 200 rfl ?_)
  refine call rfl rfl rfl (ok _ (by decide) rfl) (rChoice_any m [(i : Int)] (some ⟨ga, 0, none⟩) 1 _ _ (cpm5 Sm) hc (Ba.sl (sz := 1) (m := 1) rfl) (by simp)) ?_
  rintro x w ⟨⟨b, rfl, hb⟩, qk⟩
  have B3 := B3.no qk
  have B8 := B8.no qk
  have So := So.no qk
  have Sm := Sm.no qk
  have q := q.trans qk
  cases b with
  | false =>
   refine go T_ok 200 rfl ?_
   repeat ((first | refine ldA T_ok rfl rfl rfl rfl rfl (Bk.all B3) ?_ | refine ldA T_ok rfl rfl rfl rfl rfl (Bk.all B8) ?_ | refine ld T_ok rfl rfl rfl rfl (Bk.get B3 rfl) ?_ | refine ld T_ok rfl rfl rfl rfl (Bk.get B8 rfl) ?_ | refine gT rfl rfl rfl rfl ?_ | refine gF rfl rfl rfl rfl ?_ | refine condT rfl rfl ?_ | refine condF rfl rfl ?_); refine go T_ok 200 rfl ?_)
   rw [ei]
   exact round ⟨i + 1, rfl, ⟨by omega, q, B3, B8⟩, by omega⟩
  | true =>
  have hco := hb.1 rfl
  have hlo := ls_ch hco
  have odo := odds_od hc hs false hlo
  have qo3 := odo.a0
  obtain ⟨v1, v2⟩ := t4 [(i : Int)] (mem_all.2 hco)
  refine go T_ok 200 rfl ?_
  repeat ((first | refine ldA T_ok rfl rfl rfl rfl rfl (Bk.all B3) ?_ | refine ldA T_ok rfl rfl rfl rfl rfl (Bk.all B8) ?_ | refine ld T_ok rfl rfl rfl rfl (Bk.get B3 rfl) ?_ | refine ld T_ok rfl rfl rfl rfl (Bk.get B8 rfl) ?_ | refine gT rfl rfl rfl rfl ?_ | refine gF rfl rfl rfl rfl ?_ | refine condT rfl rfl ?_ | refine condF rfl rfl ?_); refine go T_ok 200 rfl ?_)
  refine row T_ok rfl rfl rfl rfl rfl rfl (cs := [I (i : Int)]) rfl ?_
  intro gb w hgb hsb qk Bb _
  have B3 := B3.no qk
  have B8 := B8.no qk
  have So := So.no qk
  have Sm := Sm.no qk
  have q := q.trans qk
  refine go T_ok 200 rfl ?_
  repeat ((first | refine ldA T_ok rfl rfl rfl rfl rfl (Bk.all B3) ?_ | refine ldA T_ok rfl rfl rfl rfl rfl (Bk.all B8) ?_ | refine ld T_ok rfl rfl rfl rfl (Bk.get B3 rfl) ?_ | refine ld T_ok rfl rfl rfl rfl (Bk.get B8 rfl) ?_ | refine gT rfl rfl rfl rfl ?_ | refine gF rfl rfl rfl rfl ?_ | refine condT rfl rfl ?_ | refine condF rfl rfl ?_); refine go T_ok 200 rfl ?_)
  refine call rfl rfl rfl (ok _ (by decide) rfl) (Power_ok m s [(i : Int)] (some ⟨gb, 0, none⟩) 1 _ _ (cpm5 Sm) hc hs hco (Bb.sl (sz := 1) (m := 1) rfl)) ?_
  rintro x w ⟨rfl, qk⟩
  have B3 := B3.no qk
  have B8 := B8.no qk
  have So := So.no qk
  have Sm := Sm.no qk
  have q := q.trans qk
  obtain ⟨of, hof⟩ : ∃ a, a = oddsP m.c s false [(i : Int)] := ⟨_, rfl⟩
  have hless : lessP (oddsP m.c s false b5) of = false := by
   rw [hof, less_val hc hl5 hlo]
   exact decide_eq_false (by omega)
  rw [← hof] at odo qo3
  rw [← hof]
  clear Ba Bb
  refine go T_ok 200 rfl ?_
  repeat ((first | refine ldA T_ok rfl rfl rfl rfl rfl (Bk.all B3) ?_ | refine ldA T_ok rfl rfl rfl rfl rfl (Bk.all B8) ?_ | refine ld T_ok rfl rfl rfl rfl (Bk.get B3 rfl) ?_ | refine ld T_ok rfl rfl rfl rfl (Bk.get B8 rfl) ?_ | refine gT rfl rfl rfl rfl ?_ | refine gF rfl rfl rfl rfl ?_ | refine condT rfl rfl ?_ | refine condF rfl rfl ?_); refine go T_ok 200 rfl ?_)
  have yB3 := B3.lt
  have yB8 := B8.lt
  have ySo := So.2.1
  have ySm := Sm.2.1
  have yq := q.size
  refine nw rfl rfl (z := .agg #[I 0, I 0]) (by kernel_rfl) (cs := [I 0, I 0]) rfl ?_
  intro g11 w hg11 hs11 qk B11
  have B3 := B3.no qk
  have B8 := B8.no qk
  have So := So.no qk
  have Sm := Sm.no qk
  have q := q.trans qk
  refine go T_ok 200 rfl ?_
  refine stA T_ok rfl rfl rfl rfl (vs := odL of) rfl rfl rfl B11 rfl ?_
  intro w qk B11 hz11
  have B11 : Bk w g11 67 (odL of) := B11
  have B3 := Bk.keep B3 qk (by omega)
  have B8 := Bk.keep B8 qk (by omega)
  have So := Sl.keep So qk (fun k hk e => by omega)
  have Sm := Sl.keep Sm qk (fun k hk e => by omega)
  have q := q.step qk (fun k hk e => by omega)
  refine go T_ok 200 rfl ?_
  repeat ((first | refine ldA T_ok rfl rfl rfl rfl rfl (Bk.all B3) ?_ | refine ldA T_ok rfl rfl rfl rfl rfl (Bk.all B8) ?_ | refine ldA T_ok rfl rfl rfl rfl rfl (Bk.all B11) ?_ | refine ld T_ok rfl rfl rfl rfl (Bk.get B3 rfl) ?_ | refine ld T_ok rfl rfl rfl rfl (Bk.get B8 rfl) ?_ | refine ld T_ok rfl rfl rfl rfl (Bk.get B11 rfl) ?_ | refine gT rfl rfl rfl rfl ?_ | refine gF rfl rfl rfl rfl ?_ | refine condT rfl rfl ?_ | refine condF rfl rfl ?_); refine go T_ok 200 rfl ?_)
  rw [decide_eq_false (show ¬ of.2 < 1 by omega)]
  refine go T_ok 200 rfl ?_
  repeat ((first | refine ldA T_ok rfl rfl rfl rfl rfl (Bk.all B3) ?_ | refine ldA T_ok rfl rfl rfl rfl rfl (Bk.all B8) ?_ | refine ldA T_ok rfl rfl rfl rfl rfl (Bk.all B11) ?_ | refine ld T_ok rfl rfl rfl rfl (Bk.get B3 rfl) ?_ | refine ld T_ok rfl rfl rfl rfl (Bk.get B8 rfl) ?_ | refine ld T_ok rfl rfl rfl rfl (Bk.get B11 rfl) ?_ | refine gT rfl rfl rfl rfl ?_ | refine gF rfl rfl rfl rfl ?_ | refine condT rfl rfl ?_ | refine condF rfl rfl ?_); refine go T_ok 200 rfl ?_)
  refine call rfl rfl rfl (ok _ (by decide) rfl) (rLess_any (oddsP m.c s false b5) of _ od5 odo) ?_
  rintro x w ⟨rfl, qk⟩
  have B3 := B3.no qk
  have B8 := B8.no qk
  have So := So.no qk
  have Sm := Sm.no qk
  have B11 := B11.no qk
  have q := q.trans qk
  rw [hless]
  refine go T_ok 200 rfl ?_
  repeat ((first | refine ldA T_ok rfl rfl rfl rfl rfl (Bk.all B3) ?_ | refine ldA T_ok rfl rfl rfl rfl rfl (Bk.all B8) ?_ | refine ldA T_ok rfl rfl rfl rfl rfl (Bk.all B11) ?_ | refine ld T_ok rfl rfl rfl rfl (Bk.get B3 rfl) ?_ | refine ld T_ok rfl rfl rfl rfl (Bk.get B8 rfl) ?_ | refine ld T_ok rfl rfl rfl rfl (Bk.get B11 rfl) ?_ | refine gT rfl rfl rfl rfl ?_ | refine gF rfl rfl rfl rfl ?_ | refine condT rfl rfl ?_ | refine condF rfl rfl ?_); refine go T_ok 200 rfl ?_)
  rw [ei]
  exact round ⟨i + 1, rfl, ⟨by omega, q, B3, B8⟩, by omega⟩
 clear hlt
 refine go T_ok 200 rfl ?_
 repeat ((first | refine ldA T_ok rfl rfl rfl rfl rfl (Bk.all B3) ?_ | refine ldA T_ok rfl rfl rfl rfl rfl (Bk.all B8) ?_ | refine ld T_ok rfl rfl rfl rfl (Bk.get B3 rfl) ?_ | refine ld T_ok rfl rfl rfl rfl (Bk.get B8 rfl) ?_ | refine gT rfl rfl rfl rfl ?_ | refine gF rfl rfl rfl rfl ?_ | refine condT rfl rfl ?_ | refine condF rfl rfl ?_); refine go T_ok 200 rfl ?_)
 refine call rfl rfl rfl (ok _ (by decide) rfl) (rChoice_any m o.l o.A o.c _ _ (cpm5 Sm) hc So (by omega)) ?_
 rintro x w ⟨⟨b, rfl, hb⟩, qk⟩
 have B3 := B3.no qk
 have B8 := B8.no qk
 have So := So.no qk
 have Sm := Sm.no qk
 have q := q.trans qk
 cases b with
 | false =>
  refine go T_ok 200 rfl ?_
  repeat ((first | refine ldA T_ok rfl rfl rfl rfl rfl (Bk.all B3) ?_ | refine ldA T_ok rfl rfl rfl rfl rfl (Bk.all B8) ?_ | refine ld T_ok rfl rfl rfl rfl (Bk.get B3 rfl) ?_ | refine ld T_ok rfl rfl rfl rfl (Bk.get B8 rfl) ?_ | refine gT rfl rfl rfl rfl ?_ | refine gF rfl rfl rfl rfl ?_ | refine condT rfl rfl ?_ | refine condF rfl rfl ?_); refine go T_ok 200 rfl ?_)
  refine call rfl rfl rfl (ok _ (by decide) rfl) (known_any _) ?_
  rintro v wk ⟨rfl, qk⟩
  refine go T_ok 200 rfl ?_
  exact ret (ret1 (v := .bool true) Try.results5 rfl ⟨rfl, q.trans qk⟩)
 | true =>
 have hco := hb.1 rfl
 have hlo := ls_ch hco
 have odo := odds_od hc hs false hlo
 have qo3 := odo.a0
 have qo4 := odo.w0
 obtain ⟨hit1, hit2, hit3⟩ := odds_hit hc s hlo
 have hall : (oddsP m.c s false o.l).2 = (m.c.parts ^ s) ^ o.l.length := rfl
 refine go T_ok 200 rfl ?_
 repeat ((first | refine ldA T_ok rfl rfl rfl rfl rfl (Bk.all B3) ?_ | refine ldA T_ok rfl rfl rfl rfl rfl (Bk.all B8) ?_ | refine ld T_ok rfl rfl rfl rfl (Bk.get B3 rfl) ?_ | refine ld T_ok rfl rfl rfl rfl (Bk.get B8 rfl) ?_ | refine gT rfl rfl rfl rfl ?_ | refine gF rfl rfl rfl rfl ?_ | refine condT rfl rfl ?_ | refine condF rfl rfl ?_); refine go T_ok 200 rfl ?_)
 refine call rfl rfl rfl (ok _ (by decide) rfl) (Power_ok m s o.l o.A o.c _ _ (cpm5 Sm) hc hs hco So) ?_
 rintro x w ⟨rfl, qk⟩
 have B3 := B3.no qk
 have B8 := B8.no qk
 have So := So.no qk
 have Sm := Sm.no qk
 have q := q.trans qk
 obtain ⟨of, hof⟩ : ∃ a, a = oddsP m.c s false o.l := ⟨_, rfl⟩
 rw [← hof] at odo qo3 qo4 hit1 hall
 rw [← hof]
 refine go T_ok 200 rfl ?_
 repeat ((first | refine ldA T_ok rfl rfl rfl rfl rfl (Bk.all B3) ?_ | refine ldA T_ok rfl rfl rfl rfl rfl (Bk.all B8) ?_ | refine ld T_ok rfl rfl rfl rfl (Bk.get B3 rfl) ?_ | refine ld T_ok rfl rfl rfl rfl (Bk.get B8 rfl) ?_ | refine gT rfl rfl rfl rfl ?_ | refine gF rfl rfl rfl rfl ?_ | refine condT rfl rfl ?_ | refine condF rfl rfl ?_); refine go T_ok 200 rfl ?_)
 have yB3 := B3.lt
 have yB8 := B8.lt
 have ySo := So.2.1
 have ySm := Sm.2.1
 have yq := q.size
 refine nw rfl rfl (z := .agg #[I 0, I 0]) (by kernel_rfl) (cs := [I 0, I 0]) rfl ?_
 intro g13 w hg13 hs13 qk B13
 have B3 := B3.no qk
 have B8 := B8.no qk
 have So := So.no qk
 have Sm := Sm.no qk
 have q := q.trans qk
 refine go T_ok 200 rfl ?_
 refine stA T_ok rfl rfl rfl rfl (vs := odL of) rfl rfl rfl B13 rfl ?_
 intro w qk B13 hz13
 have B13 : Bk w g13 67 (odL of) := B13
 have B3 := Bk.keep B3 qk (by omega)
 have B8 := Bk.keep B8 qk (by omega)
 have So := Sl.keep So qk (fun k hk e => by omega)
 have Sm := Sl.keep Sm qk (fun k hk e => by omega)
 have q := q.step qk (fun k hk e => by omega)
 refine go T_ok 200 rfl ?_
 repeat ((first | refine ldA T_ok rfl rfl rfl rfl rfl (Bk.all B3) ?_ | refine ldA T_ok rfl rfl rfl rfl rfl (Bk.all B8) ?_ | refine ldA T_ok rfl rfl rfl rfl rfl (Bk.all B13) ?_ | refine ld T_ok rfl rfl rfl rfl (Bk.get B3 rfl) ?_ | refine ld T_ok rfl rfl rfl rfl (Bk.get B8 rfl) ?_ | refine ld T_ok rfl rfl rfl rfl (Bk.get B13 rfl) ?_ | refine gT rfl rfl rfl rfl ?_ | refine gF rfl rfl rfl rfl ?_ | refine condT rfl rfl ?_ | refine condF rfl rfl ?_); refine go T_ok 200 rfl ?_)
 obtain ⟨P, hP⟩ : ∃ P, P = m.c.parts ^ s := ⟨_, rfl⟩
 have hPb := slots_bd (show s ≤ 2 by omega) hp0 (show m.c.parts ≤ 8 by omega)
 rw [← hP] at hPb
 have hn1 := hco.n1
 clear B8 odo od5 hl5 hch t3 t4 q51 q52 q53 q54
 refine loop [1, 2, 3, 13, 14, 15, 16, 17] (fun x : Nat × Int × Int => [.slice o.A o.l.length o.c, I (s : Int), .pointer (some ⟨g3, 0, none⟩), .pointer (some ⟨g13, 0, none⟩), .int .i64 0, .int .i64 x.2.1, .int .i64 x.2.2, .int .i64 (x.1 : Int)])
  (fun x w' => x.1 ≤ o.l.length ∧ x.2.1 = noneP m.c s (o.l.take x.1) ∧ x.2.2 = P ^ x.1 ∧ Chg No w0 w' ∧ Bk w' g3 63 (cpL m) ∧ Bk w' g13 67 (odL of)) (fun x => o.l.length - x.1) (0, 1, 1) (fun _ => rfl) rfl ⟨Nat.zero_le _, rfl, (Int.pow_zero P).symm, q, B3, B13⟩ ?_
 clear q B3 B13 So Sm
 rintro ⟨j, xa, xb⟩ τ w ⟨hj, hxa, hxb, q, B3, B13⟩
 simp only at hj hxa hxb
 dsimp only
 have So := So0.no q
 have Sm := Sm0.no q
 have hsz := q.size
 refine go T_ok 200 rfl ?_
 repeat ((first | refine ldA T_ok rfl rfl rfl rfl rfl (Bk.all B3) ?_ | refine ldA T_ok rfl rfl rfl rfl rfl (Bk.all B8) ?_ | refine ldA T_ok rfl rfl rfl rfl rfl (Bk.all B13) ?_ | refine ld T_ok rfl rfl rfl rfl (Bk.get B3 rfl) ?_ | refine ld T_ok rfl rfl rfl rfl (Bk.get B8 rfl) ?_ | refine ld T_ok rfl rfl rfl rfl (Bk.get B13 rfl) ?_ | refine gT rfl rfl rfl rfl ?_ | refine gF rfl rfl rfl rfl ?_ | refine condT rfl rfl ?_ | refine condF rfl rfl ?_); refine go T_ok 200 rfl ?_)
 refine condD rfl (fun hlt => ?_) (fun hlt => ?_)
 ·have hltj : j < o.l.length := by have : (j : Int) < (o.l.length : Int) := hlt; omega
  have ej : w64 ((j : Int) + 1) = ((j + 1 : Nat) : Int) := w64_id (by omega) (by omega)
  obtain ⟨i, hi⟩ := getA_of hltj
  obtain ⟨i0, i1⟩ := hco.s i (List.mem_of_getElem? hi)
  obtain ⟨es, hso⟩ := siteAt_ok hc i0 i1
  obtain ⟨b2, o2, hA2, hb2, hc2⟩ := So.elI hi
  obtain ⟨b3, o3, hA3, hb3, hc3⟩ := Sl.el Sm siL_len es
  have hst := hso.t0
  have hst1 := hso.t1
  have etake : noneP m.c s (o.l.take (j + 1)) = noneP m.c s (o.l.take j) * (P - Q.tailT m.c.parts (siteAt m.c i).tru s 1) := by
   rw [hP, ← none_snoc]; congr 1
   rw [List.take_add_one, hi]; rfl
  have hb1 := none_bd hc s (l := o.l.take j) (fun x hx => hco.s x (List.mem_of_mem_take hx))
  have hb2' := none_bd hc s (l := o.l.take (j + 1)) (fun x hx => hco.s x (List.mem_of_mem_take hx))
  rw [← hP, List.length_take, Nat.min_eq_left (by omega)] at hb1 hb2'
  have hp1 := cube_bd hPb.1 hPb.2 (show j ≤ 3 by omega)
  have hp2 := cube_bd hPb.1 hPb.2 (show j + 1 ≤ 3 by omega)
  have htb := tail_bd hst hst1 s
  rw [← hP] at htb
  refine go T_ok 200 rfl ?_
  repeat ((first | refine ldA T_ok rfl rfl rfl rfl rfl (Bk.all B3) ?_ | refine ldA T_ok rfl rfl rfl rfl rfl (Bk.all B8) ?_ | refine ldA T_ok rfl rfl rfl rfl rfl (Bk.all B13) ?_ | refine ld T_ok rfl rfl rfl rfl (Bk.get B3 rfl) ?_ | refine ld T_ok rfl rfl rfl rfl (Bk.get B8 rfl) ?_ | refine ld T_ok rfl rfl rfl rfl (Bk.get B13 rfl) ?_ | refine gT rfl rfl rfl rfl ?_ | refine gF rfl rfl rfl rfl ?_ | refine condT rfl rfl ?_ | refine condF rfl rfl ?_); refine go T_ok 200 rfl ?_)
  refine draw mixed (fun w' => Chg No w w') ([0,1,2,3,4,5,6,7,8,9,10,11].map (fun i => (i, true)) ++ [(12, false)] ++ [13,14,15,16,17].map (fun i => (i, true))) rfl (by kernel_rfl) (Chg.drew _) ?_
  refine goH T_ok 200 rfl ?_
  repeat (first | (refine quietH rfl (fun w' hS => r_load T_ok rfl rfl rfl (Bk.get (B3.no hS) rfl)) ?_; refine goH T_ok 200 rfl ?_))
  rw [hA2]
  refine quietH rfl (fun w' hS => r_idx T_ok rfl rfl rfl rfl j rfl hltj) ?_
  refine goH T_ok 200 rfl ?_
  refine quietH rfl (fun w' hS => r_load T_ok rfl rfl rfl ((hS.cell (a := ⟨b2, o2 + j * 1, none⟩) (by show b2 < _; omega) (fun h => h)).trans hc2)) ?_
  rw [← hA2]
  refine goH T_ok 200 rfl ?_
  rw [hA3]
  refine quietH rfl (fun w' hS => r_idx T_ok rfl rfl rfl rfl i.toNat (by omega) (by omega)) ?_
  refine goH T_ok 200 rfl ?_
  refine quietH rfl (fun w' hS => r_load T_ok rfl rfl rfl ((hc3.keep (by omega) hS (fun h => h)).get (i := 3) rfl)) ?_
  rw [← hA3]
  refine goH T_ok 200 rfl ?_
  have qd := Chg.drew w
  refine callE rfl rfl rfl (ok _ (by decide) rfl) (Tail_small s m.c.parts (siteAt m.c i).tru 1 (show s ≤ 2 by omega) hp0 (by omega) hst hst1 (.inr rfl) _) ?_
  rintro x w1 ⟨rfl, qk⟩
  have qd := qd.trans qk
  refine ⟨qd, ?_⟩
  refine goH T_ok 200 rfl ?_
  repeat (first | (refine gTH rfl rfl rfl rfl ?_; refine goH T_ok 200 rfl ?_) | (refine gFH rfl rfl rfl rfl ?_; refine goH T_ok 200 rfl ?_))
  refine endH ?_
  have B3 := B3.no qd
  have B13 := B13.no qd
  have q := q.trans qd
  have hzd := qd.size
  have hc2 := (qd.cell (a := ⟨b2, o2 + j * 1, none⟩) (by show b2 < _; omega) (fun h => h)).trans hc2
  have hc3 := hc3.keep (by omega) qd (fun h => h)
  clear qd
  refine go T_ok 200 rfl ?_
  refine draw mixed (fun w' => Chg No w1 w') ([0,1,2,3,4,5,6,7,8,9,10,11].map (fun i => (i, true)) ++ [(12, false)] ++ [13,14,15,16,17].map (fun i => (i, true))) rfl (by kernel_rfl) (Chg.drew _) ?_
  generalize w1 = w at *
  refine goH T_ok 200 rfl ?_
  repeat (first | (refine quietH rfl (fun w' hS => r_load T_ok rfl rfl rfl (Bk.get (B3.no hS) rfl)) ?_; refine goH T_ok 200 rfl ?_))
  rw [hA2]
  refine quietH rfl (fun w' hS => r_idx T_ok rfl rfl rfl rfl j rfl hltj) ?_
  refine goH T_ok 200 rfl ?_
  refine quietH rfl (fun w' hS => r_load T_ok rfl rfl rfl ((hS.cell (a := ⟨b2, o2 + j * 1, none⟩) (by show b2 < _; omega) (fun h => h)).trans hc2)) ?_
  rw [← hA2]
  refine goH T_ok 200 rfl ?_
  rw [hA3]
  refine quietH rfl (fun w' hS => r_idx T_ok rfl rfl rfl rfl i.toNat (by omega) (by omega)) ?_
  refine goH T_ok 200 rfl ?_
  refine quietH rfl (fun w' hS => r_load T_ok rfl rfl rfl ((hc3.keep (by omega) hS (fun h => h)).get (i := 3) rfl)) ?_
  rw [← hA3]
  refine goH T_ok 200 rfl ?_
  have qd := Chg.drew w
  refine callE rfl rfl rfl (ok _ (by decide) rfl) (Tail_small s m.c.parts (siteAt m.c i).tru 0 (show s ≤ 2 by omega) hp0 (by omega) hst hst1 (.inl rfl) _) ?_
  rintro x w1 ⟨rfl, qk⟩
  have qd := qd.trans qk
  refine ⟨qd, ?_⟩
  refine goH T_ok 200 rfl ?_
  repeat (first | (refine gTH rfl rfl rfl rfl ?_; refine goH T_ok 200 rfl ?_) | (refine gFH rfl rfl rfl rfl ?_; refine goH T_ok 200 rfl ?_))
  refine endH ?_
  have B3 := B3.no qd
  have B13 := B13.no qd
  have q := q.trans qd
  have hzd := qd.size
  rw [tail_all, ← hP]
  refine go T_ok 200 rfl ?_
  repeat ((first | refine ldA T_ok rfl rfl rfl rfl rfl (Bk.all B3) ?_ | refine ldA T_ok rfl rfl rfl rfl rfl (Bk.all B8) ?_ | refine ldA T_ok rfl rfl rfl rfl rfl (Bk.all B13) ?_ | refine ld T_ok rfl rfl rfl rfl (Bk.get B3 rfl) ?_ | refine ld T_ok rfl rfl rfl rfl (Bk.get B8 rfl) ?_ | refine ld T_ok rfl rfl rfl rfl (Bk.get B13 rfl) ?_ | refine gT rfl rfl rfl rfl ?_ | refine gF rfl rfl rfl rfl ?_ | refine condT rfl rfl ?_ | refine condF rfl rfl ?_); refine go T_ok 200 rfl ?_)
  generalize htl : Q.tailT m.c.parts (siteAt m.c i).tru s 1 = t at *
  rw [w64_id (x := P - t) (by omega) (by omega), hxa, ← etake, w64_id (x := noneP m.c s (o.l.take (j + 1))) (by omega) (by omega), hxb, ← Int.pow_succ, w64_id (x := P ^ (j + 1)) (by omega) (by omega), ej]
  exact round ⟨(j + 1, _, _), rfl, ⟨by simp only; omega, rfl, rfl, q, B3, B13⟩, by simp only; omega⟩
 have hje : j = o.l.length := by have : ¬ (j : Int) < (o.l.length : Int) := hlt; omega
 subst hje
 rw [List.take_length] at hxa
 subst hxa hxb
 rw [← hP] at hit1 hall hit3
 refine go T_ok 200 rfl ?_
 repeat ((first | refine ldA T_ok rfl rfl rfl rfl rfl (Bk.all B3) ?_ | refine ldA T_ok rfl rfl rfl rfl rfl (Bk.all B13) ?_ | refine ld T_ok rfl rfl rfl rfl (Bk.get B3 rfl) ?_ | refine ld T_ok rfl rfl rfl rfl (Bk.get B13 rfl) ?_ | refine gT rfl rfl rfl rfl ?_ | refine gF rfl rfl rfl rfl ?_ | refine condT rfl rfl ?_ | refine condF rfl rfl ?_); refine go T_ok 200 rfl ?_)
 rw [show ((of.2 : Int) == P ^ o.l.length) = true by rw [hall]; exact beq_self_eq_true _]
 refine go T_ok 200 rfl ?_
 repeat ((first | refine ldA T_ok rfl rfl rfl rfl rfl (Bk.all B3) ?_ | refine ldA T_ok rfl rfl rfl rfl rfl (Bk.all B13) ?_ | refine ld T_ok rfl rfl rfl rfl (Bk.get B3 rfl) ?_ | refine ld T_ok rfl rfl rfl rfl (Bk.get B13 rfl) ?_ | refine gT rfl rfl rfl rfl ?_ | refine gF rfl rfl rfl rfl ?_ | refine condT rfl rfl ?_ | refine condF rfl rfl ?_); refine go T_ok 200 rfl ?_)
 have hp1 := cube_bd hPb.1 hPb.2 hn1
 rw [w64_id (x := P ^ o.l.length - noneP m.c s o.l) (by omega) (by omega), decide_eq_true hit1]
 refine go T_ok 200 rfl ?_
 repeat ((first | refine ldA T_ok rfl rfl rfl rfl rfl (Bk.all B3) ?_ | refine ldA T_ok rfl rfl rfl rfl rfl (Bk.all B13) ?_ | refine ld T_ok rfl rfl rfl rfl (Bk.get B3 rfl) ?_ | refine ld T_ok rfl rfl rfl rfl (Bk.get B13 rfl) ?_ | refine gT rfl rfl rfl rfl ?_ | refine gF rfl rfl rfl rfl ?_ | refine condT rfl rfl ?_ | refine condF rfl rfl ?_); refine go T_ok 200 rfl ?_)
 rw [decide_eq_true qo4]
 refine go T_ok 200 rfl ?_
 repeat ((first | refine ldA T_ok rfl rfl rfl rfl rfl (Bk.all B3) ?_ | refine ldA T_ok rfl rfl rfl rfl rfl (Bk.all B13) ?_ | refine ld T_ok rfl rfl rfl rfl (Bk.get B3 rfl) ?_ | refine ld T_ok rfl rfl rfl rfl (Bk.get B13 rfl) ?_ | refine gT rfl rfl rfl rfl ?_ | refine gF rfl rfl rfl rfl ?_ | refine condT rfl rfl ?_ | refine condF rfl rfl ?_); refine go T_ok 200 rfl ?_)
 refine call rfl rfl rfl (ok _ (by decide) rfl) (known_any _) ?_
 rintro v wk ⟨rfl, qk⟩
 refine go T_ok 200 rfl ?_
 exact ret (ret1 (v := .bool true) Try.results5 rfl ⟨rfl, q.trans qk⟩)
end Go.Proofs.Ytolhfimknimliaa.K
