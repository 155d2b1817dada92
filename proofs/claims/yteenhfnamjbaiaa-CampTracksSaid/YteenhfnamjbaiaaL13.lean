/- The walk of CampTracks. -/
import Derived.Test.YteenhfnamjbaiaaK1
import Derived.Test.YteenhfnamjbaiaaWA
import Derived.Test.YteenhfnamjbaiaaW6
import Derived.Test.YteenhfnamjbaiaaE4
namespace Go.Proofs.Yteenhfnamjbaiaa
open Go.Ev Go.Proofs
open Go.Camp (Sc ScOk Sc8 smallP small_ok prodP prRaw prRaw_ok prRaw_len runS runS_len trackP trRaw trRaw_ok seenG tr_run prod_run)
attribute [local irreducible] At AtH
def Vt (need gap : Int) : Prop := (1 ≤ need ∧ need ≤ 5) ∧ 0 ≤ gap ∧ gap ≤ 3
theorem vt_last {n g : Nat} (h : Vt (n : Int) (g : Int)) : n + g - 1 ≤ 7 := by
 have h1 := h.1.2
 have h2 := h.2.2
 omega
/-- a tracker and its error -/
def TrR (need gap : Int) (m : Scm) (r : Int) : Prop := (¬ Vt need gap ∧ m = mZ ∧ r = 2) ∨ (Vt need gap ∧ r = 0 ∧ scP m = trackP need.toNat gap.toNat ∧ m.N.l.length ≤ 128 ∧ m.O.l.length ≤ 128)
theorem track_run {n g : Nat} (h : n + g - 1 ≤ 7) (cs : List Bool) (i : Nat) (c : Bool) (hc : cs[i]? = some c) : (runS (trackP n g) 0 cs)[i]? = some (c && decide (n ≤ seenG (n + g - 1) cs i)) := by
 have e : runS (trackP n g) 0 cs = runS (trRaw n (n + g - 1) (2 ^ (n + g - 1))) 0 cs := (small_ok (trRaw_ok h)).2.2.1 cs
 rw [e]
 exact tr_run n (n + g - 1) cs i c hc
theorem seen_step (cs : List Bool) {k0 k : Nat} {c : Bool} (h : k0 ≤ k) (hc : cs[k]? = some c) : ((cs.take (k + 1)).drop k0).count true = ((cs.take k).drop k0).count true + (if c then 1 else 0) := by
 have hk := (List.getElem?_eq_some_iff.1 hc).1
 rw [List.take_add_one, hc, List.drop_append_of_le_length (by rw [List.length_take]; omega), List.count_append]
 cases c <;> simp
theorem track_post {need gap : Int} {w0 w' : World} {v : Value} (q : Chg No w0 w') (h : (¬ ((1 ≤ need ∧ need ≤ 5) ∧ 0 ≤ gap ∧ gap ≤ 3) ∧ v = .tuple #[.agg #[.slice none 0 0, .slice none 0 0], I 2]) ∨
  ((1 ≤ need ∧ need ≤ 5) ∧ (0 ≤ gap ∧ gap ≤ 3) ∧ ∃ gx gy n : Nat, v = .tuple #[.agg #[.slice (some ⟨gx, 0, none⟩) n n, .slice (some ⟨gy, 0, none⟩) n n], I 0] ∧ w0.heap.size ≤ gx ∧ w0.heap.size ≤ gy ∧
   Bk w' gx 124 ((trackP need.toNat gap.toNat).nx.flatMap nV) ∧ Bk w' gy 125 ((trackP need.toNat gap.toNat).al.flatMap bV) ∧ n = (Go.Camp.smE (trRaw need.toNat (need.toNat + gap.toNat - 1) (2 ^ (need.toNat + gap.toNat - 1)))).2.2)) :
  ∃ m r, v = .tuple #[.agg (scL m).toArray, I r] ∧ ScM w' w'.heap.size m ∧ TrR need gap m r := by
 rcases h with ⟨h, rfl⟩ | ⟨h1, h2, gx, gy, n, rfl, l1, l2, Bx, By, hn⟩
 ·exact ⟨mZ, 2, rfl, ⟨(mZ_m w').n.more (Nat.zero_le _) (Nat.le_refl _), (mZ_m w').o.more (Nat.zero_le _) (Nat.le_refl _), by decide, by decide⟩, .inl ⟨h, rfl, rfl⟩⟩
 ·have hl : need.toNat + gap.toNat - 1 ≤ 7 := by omega
  have hV := track_V hl l1 l2 Bx By hn
  have hk := track_ok hl
  obtain ⟨m, hm, e, HM⟩ := hV.m hk.1.al hk.1.n2
  refine ⟨m, 0, ?_, HM, .inr ⟨⟨h1, h2⟩, rfl, hm, ?_, ?_⟩⟩
  ·rw [← e]
  ·have e2 : (scP m).nx.length = m.N.l.length := rfl
   rw [hm] at e2
   have := hk.2
   omega
  ·have e2 : (scP m).al.length = m.O.l.length := rfl
   rw [hm, hk.1.al] at e2
   have := hk.2
   omega
set_option maxRecDepth 20000 in
set_option maxHeartbeats 32000000 in
theorem walk_CampTracks (nd gp od wd : Int) (o : Sli Bool) (w0 : World) (_h1 : I64 nd) (_h2 : I64 gp) (_h3 : I64 od) (_h4 : I64 wd) (ho : InB w0 o) :
  Ret Try.prog 13 [I nd, I gp, I od, I wd, .slice o.A o.l.length o.c] w0 fun x w' => x = .bool true ∧ Chg No w0 w' := by
 have So := ho.sl
 have q := Chg.refl No w0
 refine enter Try.func13 rfl Try.ntmps13 rfl ?_
 refine go TD_ok 200 rfl ?_
 repeat ((first | refine gT rfl rfl rfl rfl ?_ | refine gF rfl rfl rfl rfl ?_ | refine condT rfl rfl ?_ | refine condF rfl rfl ?_); refine go TD_ok 200 rfl ?_)
 by_cases h100 : 100 < (o.l.length : Int)
 ·rw [decide_eq_true h100]
  refine go TD_ok 200 rfl ?_
  repeat ((first | refine gT rfl rfl rfl rfl ?_ | refine gF rfl rfl rfl rfl ?_ | refine condT rfl rfl ?_ | refine condF rfl rfl ?_); refine go TD_ok 200 rfl ?_)
  refine call rfl rfl rfl (ok _ (by decide) rfl) (known_any _) ?_
  rintro v wk ⟨rfl, qk⟩
  refine go TD_ok 200 rfl ?_
  exact ret (ret1 (v := .bool true) Try.results13 rfl ⟨rfl, q.trans qk⟩)
 rw [decide_eq_false h100]
 refine go TD_ok 200 rfl ?_
 repeat ((first | refine gT rfl rfl rfl rfl ?_ | refine gF rfl rfl rfl rfl ?_ | refine condT rfl rfl ?_ | refine condF rfl rfl ?_); refine go TD_ok 200 rfl ?_)
 refine call rfl rfl rfl (ok _ (by decide) rfl) (Tracker_any nd gp _) ?_
 rintro x w ⟨qk, hT⟩
 have So := So.no qk
 have q := q.trans qk
 obtain ⟨m1, r1, rfl, H1, T1⟩ := track_post qk hT
 clear hT
 refine go TD_ok 200 rfl ?_
 refine nw rfl rfl (z := .agg #[.slice none 0 0, .slice none 0 0]) (by kernel_rfl) (cs := [.slice none 0 0, .slice none 0 0]) rfl ?_
 intro g11 w hg hs qk B11
 have lq := q.size
 (have l1 := H1.n.2.1)
 have So := So.no qk
 have H1 := H1.no qk
 have q := q.trans qk
 refine go TD_ok 200 rfl ?_
 refine stA TD_ok rfl rfl rfl rfl (vs := scL m1) rfl rfl rfl B11 rfl ?_
 intro w qk B11 hz
 have B11 : Bk w g11 77 (scL m1) := B11
 have So := So.keep qk (fun k hk e => by omega)
 have H1 := H1.keep qk (fun k hk e => by omega)
 have q := q.step qk (fun k hk e => by omega)
 clear hz hg hs lq l1
 refine go TD_ok 200 rfl ?_
 repeat ((first | refine ldA TD_ok rfl rfl rfl rfl rfl (Bk.all B11) ?_ | refine ld TD_ok rfl rfl rfl rfl (Bk.get B11 rfl) ?_ | refine gT rfl rfl rfl rfl ?_ | refine gF rfl rfl rfl rfl ?_ | refine condT rfl rfl ?_ | refine condF rfl rfl ?_); refine go TD_ok 200 rfl ?_)
 refine call rfl rfl rfl (ok _ (by decide) rfl) (Tracker_any od wd _) ?_
 rintro x w ⟨qk, hT⟩
 have So := So.no qk
 have H1 := H1.no qk
 have B11 := B11.no qk
 have q := q.trans qk
 obtain ⟨m2, r2, rfl, H2, T2⟩ := track_post qk hT
 clear hT
 refine go TD_ok 200 rfl ?_
 refine nw rfl rfl (z := .agg #[.slice none 0 0, .slice none 0 0]) (by kernel_rfl) (cs := [.slice none 0 0, .slice none 0 0]) rfl ?_
 intro g13 w hg hs qk B13
 have lq := q.size
 (have l1 := H2.n.2.1; have l2 := H1.n.2.1; have l3 := B11.lt)
 have So := So.no qk
 have H1 := H1.no qk
 have B11 := B11.no qk
 have H2 := H2.no qk
 have q := q.trans qk
 refine go TD_ok 200 rfl ?_
 refine stA TD_ok rfl rfl rfl rfl (vs := scL m2) rfl rfl rfl B13 rfl ?_
 intro w qk B13 hz
 have B13 : Bk w g13 77 (scL m2) := B13
 have So := So.keep qk (fun k hk e => by omega)
 have H1 := H1.keep qk (fun k hk e => by omega)
 have H2 := H2.keep qk (fun k hk e => by omega)
 have B11 := B11.keep qk (by omega)
 have q := q.step qk (fun k hk e => by omega)
 clear hz hg hs lq l1 l2 l3
 refine go TD_ok 200 rfl ?_
 repeat ((first | refine ldA TD_ok rfl rfl rfl rfl rfl (Bk.all B11) ?_ | refine ldA TD_ok rfl rfl rfl rfl rfl (Bk.all B13) ?_ | refine ld TD_ok rfl rfl rfl rfl (Bk.get B11 rfl) ?_ | refine ld TD_ok rfl rfl rfl rfl (Bk.get B13 rfl) ?_ | refine gT rfl rfl rfl rfl ?_ | refine gF rfl rfl rfl rfl ?_ | refine condT rfl rfl ?_ | refine condF rfl rfl ?_); refine go TD_ok 200 rfl ?_)
 by_cases v1 : nd < 1
 ·rw [decide_eq_true v1]
  have hnv : ¬ Vt nd gp := fun h => absurd h.1.1 (by omega)
  obtain ⟨rfl, rfl⟩ : m1 = mZ ∧ r1 = 2 := by
   rcases T1 with ⟨_, h1, h2⟩ | ⟨h, _⟩
   ·exact ⟨h1, h2⟩
   ·exact absurd h hnv
  refine go TD_ok 200 rfl ?_
  repeat ((first | refine ldA TD_ok rfl rfl rfl rfl rfl (Bk.all B11) ?_ | refine ldA TD_ok rfl rfl rfl rfl rfl (Bk.all B13) ?_ | refine ld TD_ok rfl rfl rfl rfl (Bk.get B11 rfl) ?_ | refine ld TD_ok rfl rfl rfl rfl (Bk.get B13 rfl) ?_ | refine gT rfl rfl rfl rfl ?_ | refine gF rfl rfl rfl rfl ?_ | refine condT rfl rfl ?_ | refine condF rfl rfl ?_); refine go TD_ok 200 rfl ?_)
  refine call rfl rfl rfl (ok _ (by decide) rfl) (SameScanner_any mZ mZ 0 0 _ (mZ_m _) (mZ_m _) (by decide) (by decide)) ?_
  rintro x w ⟨rfl, qk⟩
  have So := So.no qk
  have H1 := H1.no qk
  have H2 := H2.no qk
  have B11 := B11.no qk
  have B13 := B13.no qk
  have q := q.trans qk
  rw [decide_eq_true (rfl : scP mZ = scP mZ)]
  refine go TD_ok 200 rfl ?_
  repeat ((first | refine ldA TD_ok rfl rfl rfl rfl rfl (Bk.all B11) ?_ | refine ldA TD_ok rfl rfl rfl rfl rfl (Bk.all B13) ?_ | refine ld TD_ok rfl rfl rfl rfl (Bk.get B11 rfl) ?_ | refine ld TD_ok rfl rfl rfl rfl (Bk.get B13 rfl) ?_ | refine gT rfl rfl rfl rfl ?_ | refine gF rfl rfl rfl rfl ?_ | refine condT rfl rfl ?_ | refine condF rfl rfl ?_); refine go TD_ok 200 rfl ?_)
  refine call rfl rfl rfl (ok _ (by decide) rfl) (known_any _) ?_
  rintro v wk ⟨rfl, qk⟩
  refine go TD_ok 200 rfl ?_
  exact ret (ret1 (v := .bool true) Try.results13 rfl ⟨rfl, q.trans qk⟩)
 rw [decide_eq_false v1]
 refine go TD_ok 200 rfl ?_
 repeat ((first | refine ldA TD_ok rfl rfl rfl rfl rfl (Bk.all B11) ?_ | refine ldA TD_ok rfl rfl rfl rfl rfl (Bk.all B13) ?_ | refine ld TD_ok rfl rfl rfl rfl (Bk.get B11 rfl) ?_ | refine ld TD_ok rfl rfl rfl rfl (Bk.get B13 rfl) ?_ | refine gT rfl rfl rfl rfl ?_ | refine gF rfl rfl rfl rfl ?_ | refine condT rfl rfl ?_ | refine condF rfl rfl ?_); refine go TD_ok 200 rfl ?_)
 by_cases v2 : 5 < nd
 ·rw [decide_eq_true v2]
  have hnv : ¬ Vt nd gp := fun h => absurd h.1.2 (by omega)
  obtain ⟨rfl, rfl⟩ : m1 = mZ ∧ r1 = 2 := by
   rcases T1 with ⟨_, h1, h2⟩ | ⟨h, _⟩
   ·exact ⟨h1, h2⟩
   ·exact absurd h hnv
  refine go TD_ok 200 rfl ?_
  repeat ((first | refine ldA TD_ok rfl rfl rfl rfl rfl (Bk.all B11) ?_ | refine ldA TD_ok rfl rfl rfl rfl rfl (Bk.all B13) ?_ | refine ld TD_ok rfl rfl rfl rfl (Bk.get B11 rfl) ?_ | refine ld TD_ok rfl rfl rfl rfl (Bk.get B13 rfl) ?_ | refine gT rfl rfl rfl rfl ?_ | refine gF rfl rfl rfl rfl ?_ | refine condT rfl rfl ?_ | refine condF rfl rfl ?_); refine go TD_ok 200 rfl ?_)
  refine call rfl rfl rfl (ok _ (by decide) rfl) (SameScanner_any mZ mZ 0 0 _ (mZ_m _) (mZ_m _) (by decide) (by decide)) ?_
  rintro x w ⟨rfl, qk⟩
  have So := So.no qk
  have H1 := H1.no qk
  have H2 := H2.no qk
  have B11 := B11.no qk
  have B13 := B13.no qk
  have q := q.trans qk
  rw [decide_eq_true (rfl : scP mZ = scP mZ)]
  refine go TD_ok 200 rfl ?_
  repeat ((first | refine ldA TD_ok rfl rfl rfl rfl rfl (Bk.all B11) ?_ | refine ldA TD_ok rfl rfl rfl rfl rfl (Bk.all B13) ?_ | refine ld TD_ok rfl rfl rfl rfl (Bk.get B11 rfl) ?_ | refine ld TD_ok rfl rfl rfl rfl (Bk.get B13 rfl) ?_ | refine gT rfl rfl rfl rfl ?_ | refine gF rfl rfl rfl rfl ?_ | refine condT rfl rfl ?_ | refine condF rfl rfl ?_); refine go TD_ok 200 rfl ?_)
  refine call rfl rfl rfl (ok _ (by decide) rfl) (known_any _) ?_
  rintro v wk ⟨rfl, qk⟩
  refine go TD_ok 200 rfl ?_
  exact ret (ret1 (v := .bool true) Try.results13 rfl ⟨rfl, q.trans qk⟩)
 rw [decide_eq_false v2]
 refine go TD_ok 200 rfl ?_
 repeat ((first | refine ldA TD_ok rfl rfl rfl rfl rfl (Bk.all B11) ?_ | refine ldA TD_ok rfl rfl rfl rfl rfl (Bk.all B13) ?_ | refine ld TD_ok rfl rfl rfl rfl (Bk.get B11 rfl) ?_ | refine ld TD_ok rfl rfl rfl rfl (Bk.get B13 rfl) ?_ | refine gT rfl rfl rfl rfl ?_ | refine gF rfl rfl rfl rfl ?_ | refine condT rfl rfl ?_ | refine condF rfl rfl ?_); refine go TD_ok 200 rfl ?_)
 by_cases v3 : gp < 0
 ·rw [decide_eq_true v3]
  have hnv : ¬ Vt nd gp := fun h => absurd h.2.1 (by omega)
  obtain ⟨rfl, rfl⟩ : m1 = mZ ∧ r1 = 2 := by
   rcases T1 with ⟨_, h1, h2⟩ | ⟨h, _⟩
   ·exact ⟨h1, h2⟩
   ·exact absurd h hnv
  refine go TD_ok 200 rfl ?_
  repeat ((first | refine ldA TD_ok rfl rfl rfl rfl rfl (Bk.all B11) ?_ | refine ldA TD_ok rfl rfl rfl rfl rfl (Bk.all B13) ?_ | refine ld TD_ok rfl rfl rfl rfl (Bk.get B11 rfl) ?_ | refine ld TD_ok rfl rfl rfl rfl (Bk.get B13 rfl) ?_ | refine gT rfl rfl rfl rfl ?_ | refine gF rfl rfl rfl rfl ?_ | refine condT rfl rfl ?_ | refine condF rfl rfl ?_); refine go TD_ok 200 rfl ?_)
  refine call rfl rfl rfl (ok _ (by decide) rfl) (SameScanner_any mZ mZ 0 0 _ (mZ_m _) (mZ_m _) (by decide) (by decide)) ?_
  rintro x w ⟨rfl, qk⟩
  have So := So.no qk
  have H1 := H1.no qk
  have H2 := H2.no qk
  have B11 := B11.no qk
  have B13 := B13.no qk
  have q := q.trans qk
  rw [decide_eq_true (rfl : scP mZ = scP mZ)]
  refine go TD_ok 200 rfl ?_
  repeat ((first | refine ldA TD_ok rfl rfl rfl rfl rfl (Bk.all B11) ?_ | refine ldA TD_ok rfl rfl rfl rfl rfl (Bk.all B13) ?_ | refine ld TD_ok rfl rfl rfl rfl (Bk.get B11 rfl) ?_ | refine ld TD_ok rfl rfl rfl rfl (Bk.get B13 rfl) ?_ | refine gT rfl rfl rfl rfl ?_ | refine gF rfl rfl rfl rfl ?_ | refine condT rfl rfl ?_ | refine condF rfl rfl ?_); refine go TD_ok 200 rfl ?_)
  refine call rfl rfl rfl (ok _ (by decide) rfl) (known_any _) ?_
  rintro v wk ⟨rfl, qk⟩
  refine go TD_ok 200 rfl ?_
  exact ret (ret1 (v := .bool true) Try.results13 rfl ⟨rfl, q.trans qk⟩)
 rw [decide_eq_false v3]
 refine go TD_ok 200 rfl ?_
 repeat ((first | refine ldA TD_ok rfl rfl rfl rfl rfl (Bk.all B11) ?_ | refine ldA TD_ok rfl rfl rfl rfl rfl (Bk.all B13) ?_ | refine ld TD_ok rfl rfl rfl rfl (Bk.get B11 rfl) ?_ | refine ld TD_ok rfl rfl rfl rfl (Bk.get B13 rfl) ?_ | refine gT rfl rfl rfl rfl ?_ | refine gF rfl rfl rfl rfl ?_ | refine condT rfl rfl ?_ | refine condF rfl rfl ?_); refine go TD_ok 200 rfl ?_)
 by_cases v4 : 3 < gp
 ·rw [decide_eq_true v4]
  have hnv : ¬ Vt nd gp := fun h => absurd h.2.2 (by omega)
  obtain ⟨rfl, rfl⟩ : m1 = mZ ∧ r1 = 2 := by
   rcases T1 with ⟨_, h1, h2⟩ | ⟨h, _⟩
   ·exact ⟨h1, h2⟩
   ·exact absurd h hnv
  refine go TD_ok 200 rfl ?_
  repeat ((first | refine ldA TD_ok rfl rfl rfl rfl rfl (Bk.all B11) ?_ | refine ldA TD_ok rfl rfl rfl rfl rfl (Bk.all B13) ?_ | refine ld TD_ok rfl rfl rfl rfl (Bk.get B11 rfl) ?_ | refine ld TD_ok rfl rfl rfl rfl (Bk.get B13 rfl) ?_ | refine gT rfl rfl rfl rfl ?_ | refine gF rfl rfl rfl rfl ?_ | refine condT rfl rfl ?_ | refine condF rfl rfl ?_); refine go TD_ok 200 rfl ?_)
  refine call rfl rfl rfl (ok _ (by decide) rfl) (SameScanner_any mZ mZ 0 0 _ (mZ_m _) (mZ_m _) (by decide) (by decide)) ?_
  rintro x w ⟨rfl, qk⟩
  have So := So.no qk
  have H1 := H1.no qk
  have H2 := H2.no qk
  have B11 := B11.no qk
  have B13 := B13.no qk
  have q := q.trans qk
  rw [decide_eq_true (rfl : scP mZ = scP mZ)]
  refine go TD_ok 200 rfl ?_
  repeat ((first | refine ldA TD_ok rfl rfl rfl rfl rfl (Bk.all B11) ?_ | refine ldA TD_ok rfl rfl rfl rfl rfl (Bk.all B13) ?_ | refine ld TD_ok rfl rfl rfl rfl (Bk.get B11 rfl) ?_ | refine ld TD_ok rfl rfl rfl rfl (Bk.get B13 rfl) ?_ | refine gT rfl rfl rfl rfl ?_ | refine gF rfl rfl rfl rfl ?_ | refine condT rfl rfl ?_ | refine condF rfl rfl ?_); refine go TD_ok 200 rfl ?_)
  refine call rfl rfl rfl (ok _ (by decide) rfl) (known_any _) ?_
  rintro v wk ⟨rfl, qk⟩
  refine go TD_ok 200 rfl ?_
  exact ret (ret1 (v := .bool true) Try.results13 rfl ⟨rfl, q.trans qk⟩)
 rw [decide_eq_false v4]
 have hv : Vt nd gp := ⟨⟨by omega, by omega⟩, by omega, by omega⟩
 obtain ⟨rfl, hm1, n1l, o1l⟩ : r1 = 0 ∧ scP m1 = trackP nd.toNat gp.toNat ∧ m1.N.l.length ≤ 128 ∧ m1.O.l.length ≤ 128 := by
  rcases T1 with ⟨h, _⟩ | ⟨_, h1, h2, h3, h4⟩
  ·exact absurd hv h
  ·exact ⟨h1, h2, h3, h4⟩
 clear T1
 obtain ⟨n, rfl⟩ : ∃ k : Nat, nd = (k : Int) := ⟨nd.toNat, by omega⟩
 obtain ⟨g, rfl⟩ : ∃ k : Nat, gp = (k : Int) := ⟨gp.toNat, by omega⟩
 rw [Int.toNat_natCast, Int.toNat_natCast] at hm1
 have hl7 := vt_last hv
 have hk8 := track_ok hl7
 have h18 : Sc8 (scP m1) := by rw [hm1]; exact hk8
 refine go TD_ok 200 rfl ?_
 repeat ((first | refine ldA TD_ok rfl rfl rfl rfl rfl (Bk.all B11) ?_ | refine ldA TD_ok rfl rfl rfl rfl rfl (Bk.all B13) ?_ | refine ld TD_ok rfl rfl rfl rfl (Bk.get B11 rfl) ?_ | refine ld TD_ok rfl rfl rfl rfl (Bk.get B13 rfl) ?_ | refine gT rfl rfl rfl rfl ?_ | refine gF rfl rfl rfl rfl ?_ | refine condT rfl rfl ?_ | refine condF rfl rfl ?_); refine go TD_ok 200 rfl ?_)
 refine draw mixed (fun w' => Chg No w w') ([0,1,2,3,4,5].map (fun i => (i, true)) ++ [(6, false)] ++ [(7, false)] ++ [8,9].map (fun i => (i, true))) rfl (by kernel_rfl) (Chg.drew _) ?_
 have qd := Chg.drew w
 refine goH TD_ok 200 rfl ?_
 repeat (first | (refine gTH rfl rfl rfl rfl ?_; refine goH TD_ok 200 rfl ?_) | (refine gFH rfl rfl rfl rfl ?_; refine goH TD_ok 200 rfl ?_))
 refine quietH rfl (fun w' hS => r_loadA TD_ok rfl rfl rfl rfl (B11.no hS).all) ?_
 refine goH TD_ok 200 rfl ?_
 repeat (first | (refine gTH rfl rfl rfl rfl ?_; refine goH TD_ok 200 rfl ?_) | (refine gFH rfl rfl rfl rfl ?_; refine goH TD_ok 200 rfl ?_))
 refine callE rfl rfl rfl (ok _ (by decide) rfl) (rTracker_any n g _ (by omega) (by omega) (by omega)) ?_
 rintro x w1 ⟨qk, hO⟩
 obtain ⟨my, hmy, rfl, HY⟩ := hO.m hk8.1.al hk8.1.n2
 have qd := qd.trans qk
 refine ⟨qd, ?_⟩
 refine goH TD_ok 200 rfl ?_
 refine callE rfl rfl rfl (ok _ (by decide) rfl) (SameScanner_any m1 my _ _ _ (H1.no qd) HY (by omega) (by omega)) ?_
 rintro x w2 ⟨rfl, qk⟩
 have qd := qd.trans qk
 refine ⟨qd, ?_⟩
 rw [decide_eq_true (show scP m1 = scP my by rw [hm1, hmy])]
 refine goH TD_ok 200 rfl ?_
 repeat (first | (refine gTH rfl rfl rfl rfl ?_; refine goH TD_ok 200 rfl ?_) | (refine gFH rfl rfl rfl rfl ?_; refine goH TD_ok 200 rfl ?_))
 refine endH ?_
 have qk := qd
 have So := So.no qk
 have H1 := H1.no qk
 have H2 := H2.no qk
 have B11 := B11.no qk
 have B13 := B13.no qk
 have q := q.trans qk
 clear qd HY hmy hO
 refine go TD_ok 200 rfl ?_
 repeat ((first | refine ldA TD_ok rfl rfl rfl rfl rfl (Bk.all B11) ?_ | refine ldA TD_ok rfl rfl rfl rfl rfl (Bk.all B13) ?_ | refine ld TD_ok rfl rfl rfl rfl (Bk.get B11 rfl) ?_ | refine ld TD_ok rfl rfl rfl rfl (Bk.get B13 rfl) ?_ | refine gT rfl rfl rfl rfl ?_ | refine gF rfl rfl rfl rfl ?_ | refine condT rfl rfl ?_ | refine condF rfl rfl ?_); refine go TD_ok 200 rfl ?_)
 refine call rfl rfl rfl (ok _ (by decide) rfl) (Scan_any m1 o.l o.A o.c _ _ _ H1 So (by omega)) ?_
 rintro x w ⟨qk, hS⟩
 have So := So.no qk
 have H1 := H1.no qk
 have H2 := H2.no qk
 have B11 := B11.no qk
 have B13 := B13.no qk
 have q := q.trans qk
 obtain ⟨A15, c15, rfl, U15⟩ : ∃ A c, x = .tuple #[.slice A o.l.length c, I 0] ∧ OwB w A c o.l.length (runS (scP m1) 0 o.l) := by
  rcases hS with ⟨h, _⟩ | ⟨_, h, _⟩ | ⟨_, _, A, c, h, own⟩
  ·exact absurd h18 h
  ·omega
  ·exact ⟨A, c, h, OwB.of own⟩
 clear hS
 have enl : ((o.l.length : Int) != (o.l.length : Int)) = false := bne_self_eq_false _
 refine go TD_ok 200 rfl ?_
 repeat ((first | refine ldA TD_ok rfl rfl rfl rfl rfl (Bk.all B11) ?_ | refine ldA TD_ok rfl rfl rfl rfl rfl (Bk.all B13) ?_ | refine ld TD_ok rfl rfl rfl rfl (Bk.get B11 rfl) ?_ | refine ld TD_ok rfl rfl rfl rfl (Bk.get B13 rfl) ?_ | refine gT rfl rfl rfl rfl ?_ | refine gF rfl rfl rfl rfl ?_ | refine condT rfl rfl ?_ | refine condF rfl rfl ?_); refine go TD_ok 200 rfl ?_)
 rw [enl]
 refine go TD_ok 200 rfl ?_
 repeat ((first | refine ldA TD_ok rfl rfl rfl rfl rfl (Bk.all B11) ?_ | refine ldA TD_ok rfl rfl rfl rfl rfl (Bk.all B13) ?_ | refine ld TD_ok rfl rfl rfl rfl (Bk.get B11 rfl) ?_ | refine ld TD_ok rfl rfl rfl rfl (Bk.get B13 rfl) ?_ | refine gT rfl rfl rfl rfl ?_ | refine gF rfl rfl rfl rfl ?_ | refine condT rfl rfl ?_ | refine condF rfl rfl ?_); refine go TD_ok 200 rfl ?_)
 obtain ⟨wL, hwL⟩ : ∃ w', w' = w := ⟨_, rfl⟩
 have U15o := U15
 have Soo := So
 rw [← hwL] at U15o Soo
 have qL : Chg No wL w := hwL ▸ Chg.refl _ _
 refine loop [0, 1, 4, 11, 13, 14, 15, 17] (fun i : Nat => [I (n : Int), I (g : Int), .slice o.A o.l.length o.c, .pointer (some ⟨g11, 0, none⟩), .pointer (some ⟨g13, 0, none⟩), I r2, .slice A15 o.l.length c15, .int .i64 (i : Int)])
  (fun i w' => i ≤ o.l.length ∧ Chg No wL w' ∧ Chg No w0 w' ∧ ScM w' w'.heap.size m1 ∧ ScM w' w'.heap.size m2 ∧ Bk w' g11 77 (scL m1) ∧ Bk w' g13 77 (scL m2)) (fun i => o.l.length - i) 0 (fun _ => rfl) rfl ⟨Nat.zero_le _, qL, q, H1.more H1.n.2.1 (Nat.le_refl _), H2.more H2.n.2.1 (Nat.le_refl _), B11, B13⟩ ?_
 clear B11 B13 H1 H2 q So U15 qL qk
 rintro i τ w ⟨hi, qL, q, H1, H2, B11, B13⟩
 have So := Soo.no qL
 have U15 := U15o.no qL
 refine go TD_ok 200 rfl ?_
 refine condD rfl (fun hlt => ?_) (fun hlt => ?_)
 ·have hlti : i < o.l.length := by have : (i : Int) < (o.l.length : Int) := hlt; omega
  have ei : w64 ((i : Int) + 1) = ((i + 1 : Nat) : Int) := w64_id (by omega) (by omega)
  have hn1 := hv.1.1
  have hn5 := hv.1.2
  have hg3 := hv.2.2
  have ek0 : max 0 (w64 (w64 (w64 ((i : Int) - (n : Int)) - (g : Int)) + 1)) = ((i - (n + g - 1) : Nat) : Int) := by
   rw [w64_id (x := (i : Int) - (n : Int)) (by omega) (by omega), w64_id (x := (i : Int) - (n : Int) - (g : Int)) (by omega) (by omega), w64_id (x := (i : Int) - (n : Int) - (g : Int) + 1) (by omega) (by omega)]
   omega
  obtain ⟨k0, hk0⟩ : ∃ k0, k0 = i - (n + g - 1) := ⟨_, rfl⟩
  rw [← hk0] at ek0
  refine go TD_ok 200 rfl ?_
  rw [ek0]
  refine loop [0, 1, 4, 11, 13, 14, 15, 17, 18, 19] (fun k : Nat => [I (n : Int), I (g : Int), .slice o.A o.l.length o.c, .pointer (some ⟨g11, 0, none⟩), .pointer (some ⟨g13, 0, none⟩), I r2, .slice A15 o.l.length c15, .int .i64 (i : Int), I ((((o.l.take k).drop k0).count true : Nat) : Int), I (k : Int)])
   (fun k w' => k0 ≤ k ∧ k ≤ i + 1 ∧ w' = w) (fun k => i + 1 - k) k0 (fun _ => rfl) (by rw [List.drop_of_length_le (by rw [List.length_take]; omega)]; rfl) ⟨Nat.le_refl _, by omega, rfl⟩ ?_
  rintro k τ w' ⟨hk1, hk2, rfl⟩
  have hcl : ((o.l.take k).drop k0).count true ≤ o.l.length := by
   have h1 := List.count_le_length (a := true) (l := (o.l.take k).drop k0)
   rw [List.length_drop, List.length_take] at h1
   omega
  refine go TD_ok 200 rfl ?_
  refine condD rfl (fun hlt => ?_) (fun hlt => ?_)
  ·have hltk : k ≤ i := by have : (k : Int) ≤ (i : Int) := hlt; omega
   obtain ⟨cb, hcb⟩ := getA_of (l := o.l) (i := k) (by omega)
   obtain ⟨b0, o0, hA0, hb0, hc0⟩ := Sl_elB So hcb
   have hst := seen_step o.l hk1 hcb
   refine go TD_ok 200 rfl ?_
   rw [hA0]
   refine idx TD_ok rfl rfl rfl rfl rfl k rfl (by omega) ?_
   refine go TD_ok 200 rfl ?_
   refine ld TD_ok rfl rfl rfl rfl (hc0) ?_
   refine go TD_ok 200 rfl ?_
   rw [← hA0]
   refine call rfl rfl rfl (ok _ (by decide) rfl) (rCell_any cb _) ?_
   rintro v w1 ⟨rfl, rfl⟩
   refine go TD_ok 200 rfl ?_
   rw [w64_id (x := (k : Int) + 1) (by omega) (by omega), w64_id (x := ((((o.l.take k).drop k0).count true : Nat) : Int) + (if cb = true then 1 else 0)) (by split <;> omega) (by split <;> omega)]
   rw [show ((((o.l.take k).drop k0).count true : Nat) : Int) + (if cb = true then 1 else 0) = ((((o.l.take (k + 1)).drop k0).count true : Nat) : Int) by rw [hst]; cases cb <;> simp]
   rw [show (k : Int) + 1 = ((k + 1 : Nat) : Int) by omega]
   exact round ⟨k + 1, rfl, ⟨by omega, by omega, rfl⟩, by omega⟩
  have hki : k = i + 1 := by have : ¬ (k : Int) ≤ (i : Int) := hlt; omega
  subst hki
  have hseen : ((o.l.take (i + 1)).drop k0).count true = seenG (n + g - 1) o.l i := by rw [hk0]; rfl
  rw [hseen]
  obtain ⟨cb, hcb⟩ := getA_of hlti
  have hrun := track_run hl7 o.l i cb hcb
  rw [← hm1] at hrun
  obtain ⟨b0, o0, hA0, hb0, hc0⟩ := Sl_elB So hcb
  have S15 : Sl w' w'.heap.size 1 A15 (runS (scP m1) 0 o.l).length (bL (runS (scP m1) 0 o.l)) := by rw [runS_len]; exact U15.sl
  obtain ⟨b1, o1, hA1, hb1, hc1⟩ := Sl_elB S15 hrun
  have hSz := So.2.1
  refine go TD_ok 200 rfl ?_
  refine draw mixed (fun w'' => Chg No w' w'') ([0,1,2,3,4,5,6,7,8,9,10,11,12,13].map (fun i => (i, true))) rfl (by kernel_rfl) (Chg.drew _) ?_
  refine goH TD_ok 200 rfl ?_
  rw [hA1]
  refine quietH rfl (fun w' hS => r_idx TD_ok rfl rfl rfl rfl i rfl hlti) ?_
  refine goH TD_ok 200 rfl ?_
  refine quietH rfl (fun w' hS => r_load TD_ok rfl rfl rfl ((hS.cell (a := ⟨b1, o1 + i * 1, none⟩) (by show b1 < _; omega) (fun h => h)).trans hc1)) ?_
  rw [← hA1]
  refine goH TD_ok 200 rfl ?_
  rw [hA0]
  refine quietH rfl (fun w' hS => r_idx TD_ok rfl rfl rfl rfl i rfl hlti) ?_
  refine goH TD_ok 200 rfl ?_
  refine quietH rfl (fun w' hS => r_load TD_ok rfl rfl rfl ((hS.cell (a := ⟨b0, o0 + i * 1, none⟩) (by show b0 < _; omega) (fun h => h)).trans hc0)) ?_
  rw [← hA0]
  cases cb with
  | false =>
   rw [Bool.false_and]
   refine goH TD_ok 200 rfl ?_
   repeat (first | (refine gTH rfl rfl rfl rfl ?_; refine goH TD_ok 200 rfl ?_) | (refine gFH rfl rfl rfl rfl ?_; refine goH TD_ok 200 rfl ?_))
   refine quietH rfl (fun w' hS => r_neqB rfl Try.underlying4 rfl rfl) ?_
   refine goH TD_ok 200 rfl ?_
   refine endH ?_
   have qk := Chg.drew w'
   have qL := qL.trans qk
   have q := q.trans qk
   have H1 := H1.no qk
   have H2 := H2.no qk
   have B11 := B11.no qk
   have B13 := B13.no qk
   refine go TD_ok 200 rfl ?_
   refine condF rfl rfl ?_
   refine go TD_ok 200 rfl ?_
   rw [ei]
   exact round ⟨i + 1, rfl, ⟨by omega, qL, q, H1.more H1.n.2.1 (Nat.le_refl _), H2.more H2.n.2.1 (Nat.le_refl _), B11, B13⟩, by omega⟩
  | true =>
   rw [Bool.true_and]
   have edd : decide ((n : Int) ≤ ((seenG (n + g - 1) o.l i : Nat) : Int)) = decide (n ≤ seenG (n + g - 1) o.l i) := by by_cases h : n ≤ seenG (n + g - 1) o.l i <;> simp [h]
   refine goH TD_ok 200 rfl ?_
   repeat (first | (refine gTH rfl rfl rfl rfl ?_; refine goH TD_ok 200 rfl ?_) | (refine gFH rfl rfl rfl rfl ?_; refine goH TD_ok 200 rfl ?_))
   rw [edd]
   refine quietH rfl (fun w' hS => r_neqB rfl Try.underlying4 rfl rfl) ?_
   rw [bne_self_eq_false]
   refine goH TD_ok 200 rfl ?_
   refine endH ?_
   have qk := Chg.drew w'
   have qL := qL.trans qk
   have q := q.trans qk
   have H1 := H1.no qk
   have H2 := H2.no qk
   have B11 := B11.no qk
   have B13 := B13.no qk
   refine go TD_ok 200 rfl ?_
   refine condF rfl rfl ?_
   refine go TD_ok 200 rfl ?_
   rw [ei]
   exact round ⟨i + 1, rfl, ⟨by omega, qL, q, H1.more H1.n.2.1 (Nat.le_refl _), H2.more H2.n.2.1 (Nat.le_refl _), B11, B13⟩, by omega⟩
 have hie : i = o.l.length := by have : ¬ (i : Int) < (o.l.length : Int) := hlt; omega
 clear hie hlt hi hwL
 rcases T2 with ⟨_, _, rfl⟩ | ⟨hv2, rfl, hm2, n2l, o2l⟩
 ·skip
  refine go TD_ok 200 rfl ?_
  repeat ((first | refine ldA TD_ok rfl rfl rfl rfl rfl (Bk.all B11) ?_ | refine ldA TD_ok rfl rfl rfl rfl rfl (Bk.all B13) ?_ | refine ld TD_ok rfl rfl rfl rfl (Bk.get B11 rfl) ?_ | refine ld TD_ok rfl rfl rfl rfl (Bk.get B13 rfl) ?_ | refine gT rfl rfl rfl rfl ?_ | refine gF rfl rfl rfl rfl ?_ | refine condT rfl rfl ?_ | refine condF rfl rfl ?_); refine go TD_ok 200 rfl ?_)
  refine call rfl rfl rfl (ok _ (by decide) rfl) (known_any _) ?_
  rintro v wk ⟨rfl, qk⟩
  refine go TD_ok 200 rfl ?_
  exact ret (ret1 (v := .bool true) Try.results13 rfl ⟨rfl, q.trans qk⟩)
 obtain ⟨n2, rfl⟩ : ∃ k : Nat, od = (k : Int) := ⟨od.toNat, by have := hv2.1.1; omega⟩
 obtain ⟨g2, rfl⟩ : ∃ k : Nat, wd = (k : Int) := ⟨wd.toNat, by have := hv2.2.1; omega⟩
 rw [Int.toNat_natCast, Int.toNat_natCast] at hm2
 have hk82 := track_ok (vt_last hv2)
 have h28 : Sc8 (scP m2) := by rw [hm2]; exact hk82
 clear U15o Soo
 refine go TD_ok 200 rfl ?_
 repeat ((first | refine ldA TD_ok rfl rfl rfl rfl rfl (Bk.all B11) ?_ | refine ldA TD_ok rfl rfl rfl rfl rfl (Bk.all B13) ?_ | refine ld TD_ok rfl rfl rfl rfl (Bk.get B11 rfl) ?_ | refine ld TD_ok rfl rfl rfl rfl (Bk.get B13 rfl) ?_ | refine gT rfl rfl rfl rfl ?_ | refine gF rfl rfl rfl rfl ?_ | refine condT rfl rfl ?_ | refine condF rfl rfl ?_); refine go TD_ok 200 rfl ?_)
 refine call rfl rfl rfl (ok _ (by decide) rfl) (Product_any m1 m2 _ _ H1 H2) ?_
 rintro x w ⟨qk, hX⟩
 have B11 := B11.no qk
 have B13 := B13.no qk
 have So := So.no qk
 have H1 := H1.no qk
 have H2 := H2.no qk
 have U15 := U15.no qk
 have q := q.trans qk
 rcases hX with ⟨h, _⟩ | ⟨_, _, rfl⟩ | ⟨_, hle, x, rfl, hV⟩
 ·exact absurd ⟨h18, h28⟩ h
 ·skip
  refine go TD_ok 200 rfl ?_
  refine nw rfl rfl (z := .agg #[.slice none 0 0, .slice none 0 0]) (by kernel_rfl) (cs := [.slice none 0 0, .slice none 0 0]) rfl ?_
  intro g20 w hg hs qk B20
  have lq := q.size
  skip
  have B11 := B11.no qk
  have B13 := B13.no qk
  have q := q.trans qk
  refine go TD_ok 200 rfl ?_
  refine stA TD_ok rfl rfl rfl rfl (vs := scL mZ) rfl rfl rfl B20 rfl ?_
  intro w qk B20 hz
  have B20 : Bk w g20 77 (scL mZ) := B20
  have q := q.step qk (fun k hk e => by omega)
  refine go TD_ok 200 rfl ?_
  repeat ((first | refine ldA TD_ok rfl rfl rfl rfl rfl (Bk.all B20) ?_ | refine ld TD_ok rfl rfl rfl rfl (Bk.get B20 rfl) ?_ | refine gT rfl rfl rfl rfl ?_ | refine gF rfl rfl rfl rfl ?_ | refine condT rfl rfl ?_ | refine condF rfl rfl ?_); refine go TD_ok 200 rfl ?_)
  refine call rfl rfl rfl (ok _ (by decide) rfl) (known_any _) ?_
  rintro v wk ⟨rfl, qk⟩
  refine go TD_ok 200 rfl ?_
  exact ret (ret1 (v := .bool true) Try.results13 rfl ⟨rfl, q.trans qk⟩)
 obtain ⟨k1, k2, _, _⟩ := small_ok (prRaw_ok h18 h28)
 have k1 : ScOk (prodP (scP m1) (scP m2)) := k1
 obtain ⟨mp, hmp, rfl, HP⟩ := hV.m k1.al (by omega)
 have hp8 : Sc8 (scP mp) := by rw [hmp]; exact ⟨k1, hle⟩
 have hpr := prod_run h18 h28 o.l
 rw [← hmp] at hpr
 clear hV
 refine go TD_ok 200 rfl ?_
 refine nw rfl rfl (z := .agg #[.slice none 0 0, .slice none 0 0]) (by kernel_rfl) (cs := [.slice none 0 0, .slice none 0 0]) rfl ?_
 intro g20 w hg hs qk B20
 have lq := q.size
 (have l1 := B11.lt; have l2 := B13.lt; have l3 := HP.n.2.1; have l4 := H1.n.2.1; have l5 := H2.n.2.1; have l6 := So.2.1; have l7 := fun k e => lt_own (k := k) U15 e)
 have B11 := B11.no qk
 have B13 := B13.no qk
 have So := So.no qk
 have H1 := H1.no qk
 have H2 := H2.no qk
 have U15 := U15.no qk
 have HP := HP.no qk
 have q := q.trans qk
 refine go TD_ok 200 rfl ?_
 refine stA TD_ok rfl rfl rfl rfl (vs := scL mp) rfl rfl rfl B20 rfl ?_
 intro w qk B20 hz
 have B20 : Bk w g20 77 (scL mp) := B20
 have U15 : OwB w A15 c15 o.l.length (runS (scP m1) 0 o.l) := own_keep U15 qk (fun k e hh => by have := l7 k e; omega)
 have So := So.keep qk (fun k hk e => by omega)
 have H1 := H1.keep qk (fun k hk e => by omega)
 have H2 := H2.keep qk (fun k hk e => by omega)
 have HP := HP.keep qk (fun k hk e => by omega)
 have B11 := B11.keep qk (by omega)
 have B13 := B13.keep qk (by omega)
 have q := q.step qk (fun k hk e => by omega)
 clear hz hg hs lq l1 l2 l3 l4 l5 l6 l7
 refine go TD_ok 200 rfl ?_
 repeat ((first | refine ldA TD_ok rfl rfl rfl rfl rfl (Bk.all B11) ?_ | refine ldA TD_ok rfl rfl rfl rfl rfl (Bk.all B13) ?_ | refine ldA TD_ok rfl rfl rfl rfl rfl (Bk.all B20) ?_ | refine ld TD_ok rfl rfl rfl rfl (Bk.get B11 rfl) ?_ | refine ld TD_ok rfl rfl rfl rfl (Bk.get B13 rfl) ?_ | refine ld TD_ok rfl rfl rfl rfl (Bk.get B20 rfl) ?_ | refine gT rfl rfl rfl rfl ?_ | refine gF rfl rfl rfl rfl ?_ | refine condT rfl rfl ?_ | refine condF rfl rfl ?_); refine go TD_ok 200 rfl ?_)
 refine call rfl rfl rfl (ok _ (by decide) rfl) (Scan_any m2 o.l o.A o.c _ _ _ H2 So (by omega)) ?_
 rintro x w ⟨qk, hS⟩
 have B11 := B11.no qk
 have B13 := B13.no qk
 have B20 := B20.no qk
 have So := So.no qk
 have H1 := H1.no qk
 have H2 := H2.no qk
 have HP := HP.no qk
 have U15 := U15.no qk
 have q := q.trans qk
 obtain ⟨A22, c22, rfl, U22⟩ : ∃ A c, x = .tuple #[.slice A o.l.length c, I 0] ∧ OwB w A c o.l.length (runS (scP m2) 0 o.l) := by
  rcases hS with ⟨h, _⟩ | ⟨_, h, _⟩ | ⟨_, _, A, c, h, own⟩
  ·exact absurd h28 h
  ·omega
  ·exact ⟨A, c, h, OwB.of own⟩
 clear hS
 refine go TD_ok 200 rfl ?_
 repeat ((first | refine ldA TD_ok rfl rfl rfl rfl rfl (Bk.all B11) ?_ | refine ldA TD_ok rfl rfl rfl rfl rfl (Bk.all B13) ?_ | refine ldA TD_ok rfl rfl rfl rfl rfl (Bk.all B20) ?_ | refine ld TD_ok rfl rfl rfl rfl (Bk.get B11 rfl) ?_ | refine ld TD_ok rfl rfl rfl rfl (Bk.get B13 rfl) ?_ | refine ld TD_ok rfl rfl rfl rfl (Bk.get B20 rfl) ?_ | refine gT rfl rfl rfl rfl ?_ | refine gF rfl rfl rfl rfl ?_ | refine condT rfl rfl ?_ | refine condF rfl rfl ?_); refine go TD_ok 200 rfl ?_)
 refine call rfl rfl rfl (ok _ (by decide) rfl) (Scan_any mp o.l o.A o.c _ _ _ HP So (by omega)) ?_
 rintro x w ⟨qk, hS⟩
 have B11 := B11.no qk
 have B13 := B13.no qk
 have B20 := B20.no qk
 have So := So.no qk
 have H1 := H1.no qk
 have H2 := H2.no qk
 have HP := HP.no qk
 have U15 := U15.no qk
 have U22 := U22.no qk
 have q := q.trans qk
 obtain ⟨A24, c24, rfl, U24⟩ : ∃ A c, x = .tuple #[.slice A o.l.length c, I 0] ∧ OwB w A c o.l.length (runS (scP mp) 0 o.l) := by
  rcases hS with ⟨h, _⟩ | ⟨_, h, _⟩ | ⟨_, _, A, c, h, own⟩
  ·exact absurd hp8 h
  ·omega
  ·exact ⟨A, c, h, OwB.of own⟩
 clear hS
 refine go TD_ok 200 rfl ?_
 repeat ((first | refine ldA TD_ok rfl rfl rfl rfl rfl (Bk.all B11) ?_ | refine ldA TD_ok rfl rfl rfl rfl rfl (Bk.all B13) ?_ | refine ldA TD_ok rfl rfl rfl rfl rfl (Bk.all B20) ?_ | refine ld TD_ok rfl rfl rfl rfl (Bk.get B11 rfl) ?_ | refine ld TD_ok rfl rfl rfl rfl (Bk.get B13 rfl) ?_ | refine ld TD_ok rfl rfl rfl rfl (Bk.get B20 rfl) ?_ | refine gT rfl rfl rfl rfl ?_ | refine gF rfl rfl rfl rfl ?_ | refine condT rfl rfl ?_ | refine condF rfl rfl ?_); refine go TD_ok 200 rfl ?_)
 rw [enl]
 refine go TD_ok 200 rfl ?_
 repeat ((first | refine ldA TD_ok rfl rfl rfl rfl rfl (Bk.all B11) ?_ | refine ldA TD_ok rfl rfl rfl rfl rfl (Bk.all B13) ?_ | refine ldA TD_ok rfl rfl rfl rfl rfl (Bk.all B20) ?_ | refine ld TD_ok rfl rfl rfl rfl (Bk.get B11 rfl) ?_ | refine ld TD_ok rfl rfl rfl rfl (Bk.get B13 rfl) ?_ | refine ld TD_ok rfl rfl rfl rfl (Bk.get B20 rfl) ?_ | refine gT rfl rfl rfl rfl ?_ | refine gF rfl rfl rfl rfl ?_ | refine condT rfl rfl ?_ | refine condF rfl rfl ?_); refine go TD_ok 200 rfl ?_)
 rw [enl]
 refine go TD_ok 200 rfl ?_
 repeat ((first | refine ldA TD_ok rfl rfl rfl rfl rfl (Bk.all B11) ?_ | refine ldA TD_ok rfl rfl rfl rfl rfl (Bk.all B13) ?_ | refine ldA TD_ok rfl rfl rfl rfl rfl (Bk.all B20) ?_ | refine ld TD_ok rfl rfl rfl rfl (Bk.get B11 rfl) ?_ | refine ld TD_ok rfl rfl rfl rfl (Bk.get B13 rfl) ?_ | refine ld TD_ok rfl rfl rfl rfl (Bk.get B20 rfl) ?_ | refine gT rfl rfl rfl rfl ?_ | refine gF rfl rfl rfl rfl ?_ | refine condT rfl rfl ?_ | refine condF rfl rfl ?_); refine go TD_ok 200 rfl ?_)
 obtain ⟨wL, hwL⟩ : ∃ w', w' = w := ⟨_, rfl⟩
 have U15o := U15
 have U22o := U22
 have U24o := U24
 rw [← hwL] at U15o U22o U24o
 have qL : Chg No wL w := hwL ▸ Chg.refl _ _
 refine loop [4, 15, 22, 24, 26] (fun i : Nat => [.slice o.A o.l.length o.c, .slice A15 o.l.length c15, .slice A22 o.l.length c22, .slice A24 o.l.length c24, .int .i64 (i : Int)])
  (fun i w' => i ≤ o.l.length ∧ Chg No wL w' ∧ Chg No w0 w') (fun i => o.l.length - i) 0 (fun _ => rfl) rfl ⟨Nat.zero_le _, qL, q⟩ ?_
 clear B11 B13 B20 H1 H2 HP q So U15 U22 U24 qL qk
 rintro i τ w ⟨hi, qL, q⟩
 have U15 := U15o.no qL
 have U22 := U22o.no qL
 have U24 := U24o.no qL
 refine go TD_ok 200 rfl ?_
 refine condD rfl (fun hlt => ?_) (fun hlt => ?_)
 ·have hlti : i < o.l.length := by have : (i : Int) < (o.l.length : Int) := hlt; omega
  have ei : w64 ((i : Int) + 1) = ((i + 1 : Nat) : Int) := w64_id (by omega) (by omega)
  obtain ⟨x, hx⟩ := getA_of (l := runS (scP m1) 0 o.l) (i := i) (by rw [runS_len]; exact hlti)
  obtain ⟨y, hy⟩ := getA_of (l := runS (scP m2) 0 o.l) (i := i) (by rw [runS_len]; exact hlti)
  have hz : (runS (scP mp) 0 o.l)[i]? = some (x && y) := by rw [hpr, List.getElem?_zipWith, hx, hy]
  have S15 : Sl w w.heap.size 1 A15 (runS (scP m1) 0 o.l).length (bL (runS (scP m1) 0 o.l)) := by rw [runS_len]; exact U15.sl
  have S22 : Sl w w.heap.size 1 A22 (runS (scP m2) 0 o.l).length (bL (runS (scP m2) 0 o.l)) := by rw [runS_len]; exact U22.sl
  have S24 : Sl w w.heap.size 1 A24 (runS (scP mp) 0 o.l).length (bL (runS (scP mp) 0 o.l)) := by rw [runS_len]; exact U24.sl
  obtain ⟨b1, o1, hA1, hb1, hc1⟩ := Sl_elB S15 hx
  obtain ⟨b2, o2, hA2, hb2, hc2⟩ := Sl_elB S22 hy
  obtain ⟨b3, o3, hA3, hb3, hc3⟩ := Sl_elB S24 hz
  refine go TD_ok 200 rfl ?_
  refine draw mixed (fun w'' => Chg No w w'') ([0,1,2,3,4,5,6,7,8,9,10,11,12,13,14].map (fun i => (i, true))) rfl (by kernel_rfl) (Chg.drew _) ?_
  refine goH TD_ok 200 rfl ?_
  rw [hA3]
  refine quietH rfl (fun w' hS => r_idx TD_ok rfl rfl rfl rfl i rfl hlti) ?_
  refine goH TD_ok 200 rfl ?_
  refine quietH rfl (fun w' hS => r_load TD_ok rfl rfl rfl ((hS.cell (a := ⟨b3, o3 + i * 1, none⟩) (by show b3 < _; omega) (fun h => h)).trans hc3)) ?_
  rw [← hA3]
  refine goH TD_ok 200 rfl ?_
  rw [hA1]
  refine quietH rfl (fun w' hS => r_idx TD_ok rfl rfl rfl rfl i rfl hlti) ?_
  refine goH TD_ok 200 rfl ?_
  refine quietH rfl (fun w' hS => r_load TD_ok rfl rfl rfl ((hS.cell (a := ⟨b1, o1 + i * 1, none⟩) (by show b1 < _; omega) (fun h => h)).trans hc1)) ?_
  rw [← hA1]
  cases x with
  | false =>
   rw [Bool.false_and]
   refine goH TD_ok 200 rfl ?_
   repeat (first | (refine gTH rfl rfl rfl rfl ?_; refine goH TD_ok 200 rfl ?_) | (refine gFH rfl rfl rfl rfl ?_; refine goH TD_ok 200 rfl ?_))
   refine quietH rfl (fun w' hS => r_neqB rfl Try.underlying4 rfl rfl) ?_
   rw [bne_self_eq_false]
   refine goH TD_ok 200 rfl ?_
   refine endH ?_
   have qk := Chg.drew w
   have qL := qL.trans qk
   have q := q.trans qk
   refine go TD_ok 200 rfl ?_
   refine condF rfl rfl ?_
   refine go TD_ok 200 rfl ?_
   rw [ei]
   exact round ⟨i + 1, rfl, ⟨by omega, qL, q⟩, by omega⟩
  | true =>
   rw [Bool.true_and]
   refine goH TD_ok 200 rfl ?_
   repeat (first | (refine gTH rfl rfl rfl rfl ?_; refine goH TD_ok 200 rfl ?_) | (refine gFH rfl rfl rfl rfl ?_; refine goH TD_ok 200 rfl ?_))
   rw [hA2]
   refine quietH rfl (fun w' hS => r_idx TD_ok rfl rfl rfl rfl i rfl hlti) ?_
   refine goH TD_ok 200 rfl ?_
   refine quietH rfl (fun w' hS => r_load TD_ok rfl rfl rfl ((hS.cell (a := ⟨b2, o2 + i * 1, none⟩) (by show b2 < _; omega) (fun h => h)).trans hc2)) ?_
   rw [← hA2]
   refine goH TD_ok 200 rfl ?_
   repeat (first | (refine gTH rfl rfl rfl rfl ?_; refine goH TD_ok 200 rfl ?_) | (refine gFH rfl rfl rfl rfl ?_; refine goH TD_ok 200 rfl ?_))
   refine quietH rfl (fun w' hS => r_neqB rfl Try.underlying4 rfl rfl) ?_
   rw [bne_self_eq_false]
   refine goH TD_ok 200 rfl ?_
   refine endH ?_
   have qk := Chg.drew w
   have qL := qL.trans qk
   have q := q.trans qk
   refine go TD_ok 200 rfl ?_
   refine condF rfl rfl ?_
   refine go TD_ok 200 rfl ?_
   rw [ei]
   exact round ⟨i + 1, rfl, ⟨by omega, qL, q⟩, by omega⟩
 ·refine go TD_ok 200 rfl ?_
  refine call rfl rfl rfl (ok _ (by decide) rfl) (known_any _) ?_
  rintro v wk ⟨rfl, qk⟩
  refine go TD_ok 200 rfl ?_
  exact ret (ret1 (v := .bool true) Try.results13 rfl ⟨rfl, q.trans qk⟩)
end Go.Proofs.Yteenhfnamjbaiaa
