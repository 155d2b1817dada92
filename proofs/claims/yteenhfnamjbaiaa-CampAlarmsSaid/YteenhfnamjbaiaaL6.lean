/- The walk of CampAlarms. -/
import Derived.Test.YteenhfnamjbaiaaK1
import Derived.Test.YteenhfnamjbaiaaV5
import Derived.Test.YteenhfnamjbaiaaE4
namespace Go.Proofs.Yteenhfnamjbaiaa
open Go.Ev Go.Proofs
open Go.Camp (Cp CpOk ChOk Site SiteOk Sites costP siteAt siteAt_ok SlOk)
attribute [local irreducible] At AtH
theorem cpm6 {w : World} {B : Nat} {m : Cm} (S : Sl w B 4 m.A m.c.sites.length (m.c.sites.flatMap siL)) : CpM w m := S.more S.2.1 (Nat.le_refl _)
/-- a site's place in its row -/
theorem site_get : ∀ (S : List Site) (i : Nat) (s : Site), S[i]? = some s → (S.flatMap siL)[i * 4 + 1]? = some (I s.lo) := by
 intro S
 induction S with
 | nil => intro i s h; simp at h
 | cons a S ih =>
  intro i s h
  cases i with
  | zero => simp at h; subst h; rfl
  | succ i =>
   have := ih i s (by simpa using h)
   rw [List.flatMap_cons, List.getElem?_append_right (by rw [siL_len]; omega), siL_len, show (i + 1) * 4 + 1 - 4 = i * 4 + 1 by omega]
   exact this
theorem site_set : ∀ (S : List Site) (i : Nat) (s : Site) (t : Int), S[i]? = some s → ((S.set i { s with tru := t }).flatMap siL) = (S.flatMap siL).set (i * 4 + 3) (I t) := by
 intro S
 induction S with
 | nil => intro i s t h; simp at h
 | cons a S ih =>
  intro i s t h
  cases i with
  | zero => simp at h; subst h; rfl
  | succ i =>
   have := ih i s t (by simpa using h)
   rw [List.set_cons_succ, List.flatMap_cons, List.flatMap_cons, this, List.set_append_right _ _ (by rw [siL_len]; omega), siL_len, show (i + 1) * 4 + 3 - 4 = i * 4 + 3 by omega]
/-- sites without a chamber, as far as they are made -/
structure QS (c : Cp) (l : List Int) (S : List Site) (j : Nat) : Prop where
 len : S.length = c.sites.length
 at_ : ∀ (i : Nat) s', S[i]? = some s' → ∃ s, c.sites[i]? = some s ∧ s'.cost = s.cost ∧ s'.lo = s.lo ∧ s'.hi = s.hi ∧ 0 ≤ s'.tru ∧ s'.tru ≤ c.parts
 low : ∀ j', j' < j → ∀ i, l[j']? = some i → ∀ s', S[i.toNat]? = some s' → s'.tru ≤ s'.lo
theorem QS.init {c : Cp} (hc : CpOk c) (l : List Int) : QS c l c.sites 0 := ⟨rfl, fun i s h => by have := hc.s s (List.mem_of_getElem? h); exact ⟨s, h, rfl, rfl, rfl, this.t0, this.t1⟩, fun j h => absurd h (Nat.not_lt_zero _)⟩
theorem QS.step {c : Cp} (hc : CpOk c) {l : List Int} {S : List Site} {j : Nat} (h : QS c l S j) {i : Int} (hi : l[j]? = some i) {s : Site} (hs : S[i.toNat]? = some s) {x : Int} (hx : 0 ≤ x) : QS c l (S.set i.toNat { s with tru := max 0 (s.lo - x) }) (j + 1) := by
 obtain ⟨s0, e0, e1, e2, e3, e4, e5⟩ := h.at_ _ _ hs
 have hso := hc.s s0 (List.mem_of_getElem? e0)
 have l0 := hso.l0; have lh := hso.lh; have h1 := hso.h1
 have hlt := (List.getElem?_eq_some_iff.1 hs).1
 refine ⟨by rw [List.length_set]; exact h.len, fun k s' hk => ?_, fun j' hj' i' hi' s' hs' => ?_⟩
 ·rw [List.getElem?_set] at hk
  by_cases hik : i.toNat = k
  ·subst hik
   rw [if_pos rfl, if_pos hlt] at hk
   cases hk
   exact ⟨s0, e0, e1, e2, e3, by simp only; omega, by simp only; omega⟩
  ·rw [if_neg hik] at hk
   exact h.at_ k s' hk
 ·rw [List.getElem?_set] at hs'
  by_cases hik : i.toNat = i'.toNat
  ·rw [if_pos hik, if_pos hlt] at hs'
   cases hs'
   simp only
   omega
  ·rw [if_neg hik] at hs'
   rcases Nat.lt_or_ge j' j with h' | h'
   ·exact h.low j' h' i' hi' s' hs'
   ·obtain rfl : j' = j := by omega
    rw [hi] at hi'
    cases hi'
    exact absurd rfl hik
def quietC (c : Cp) (S : List Site) : Cp := ⟨c.parts, c.level, c.budget, S⟩
theorem quiet_ok {c : Cp} (hc : CpOk c) {l : List Int} {S : List Site} {j : Nat} (h : QS c l S j) : CpOk (quietC c S) := by
 refine ⟨hc.p0, hc.p1, hc.v0, hc.v1, hc.b0, hc.b1, by show 1 ≤ S.length; rw [h.len]; exact hc.n0, by show S.length ≤ 8; rw [h.len]; exact hc.n1, fun s' hs' => ?_⟩
 obtain ⟨i, hi⟩ := List.getElem?_of_mem hs'
 obtain ⟨s, e0, e1, e2, e3, e4, e5⟩ := h.at_ i s' hi
 have := hc.s s (List.mem_of_getElem? e0)
 exact ⟨by rw [e1]; exact this.c0, by rw [e1]; exact this.c1, by rw [e2]; exact this.l0, by rw [e2, e3]; exact this.lh, by rw [e3]; exact this.h1, e4, e5⟩
theorem quiet_ch {c : Cp} {l : List Int} {S : List Site} {j : Nat} (h : QS c l S j) (hl : ChOk c l) : ChOk (quietC c S) l := by
 have hs : Sites (quietC c S) l := fun i hi => by have := hl.s i hi; show 0 ≤ i ∧ i < (S.length : Int); rw [h.len]; exact this
 refine ⟨hs, hl.up, hl.n0, hl.n1, ?_⟩
 have e : costP (quietC c S) l = costP c l := by
  unfold costP
  have key : ∀ (L : List Int) (a : Int), (∀ i ∈ L, i ∈ l) → L.foldl (fun a i => a + (siteAt (quietC c S) i).cost) a = L.foldl (fun a i => a + (siteAt c i).cost) a := by
   intro L
   induction L with
   | nil => intro a _; rfl
   | cons i L ih =>
    intro a hL
    rw [List.foldl_cons, List.foldl_cons, ih _ fun k hk => hL k (List.mem_cons_of_mem _ hk)]
    congr 2
    have hb := hl.s i (hL i (by simp))
    have hlt : i.toNat < S.length := by rw [h.len]; omega
    obtain ⟨s, e0, e1, _⟩ := h.at_ i.toNat _ (List.getElem?_eq_getElem hlt)
    unfold siteAt
    show ((S[i.toNat]?).getD _).cost = ((c.sites[i.toNat]?).getD _).cost
    rw [List.getElem?_eq_getElem hlt, e0]
    exact e1
  exact key l 0 fun i hi => hi
 rw [e]
 exact hl.b
theorem quiet_low {c : Cp} {l : List Int} {S : List Site} (h : QS c l S l.length) (hl : ChOk c l) : ∀ i ∈ l, rateP (siteAt (quietC c S) i) false ≤ (siteAt (quietC c S) i).lo := by
 intro i hi
 obtain ⟨j, hj⟩ := List.getElem?_of_mem hi
 have hb := hl.s i hi
 have hlt : i.toNat < S.length := by rw [h.len]; omega
 have := h.low j (List.getElem?_eq_some_iff.1 hj).1 i hj _ (List.getElem?_eq_getElem hlt)
 unfold rateP siteAt
 show ((S[i.toNat]?).getD _).tru ≤ ((S[i.toNat]?).getD _).lo
 rw [List.getElem?_eq_getElem hlt]
 exact this
structure AlX where
 j : Nat
 S : List Site
 f : Nat → Value
set_option maxRecDepth 20000 in
set_option maxHeartbeats 32000000 in
theorem walk_CampAlarms (m : Cm) (o : Sli Int) (s0 : Int) (ls : Sli Int) (w0 : World) (hm : InC w0 m) (ho : InI w0 o) (hs0 : I64 s0) (hls : InI w0 ls) :
  Ret Try.prog 6 [.agg (cpL m).toArray, .slice o.A o.l.length o.c, I s0, .slice ls.A ls.l.length ls.c] w0 fun x w' => x = .bool true ∧ Chg No w0 w' := by
 have Sm0 : Sl w0 w0.heap.size 4 m.A m.c.sites.length (m.c.sites.flatMap siL) := hm.m
 have So0 := ho.sl
 have Sl0 := hls.sl
 have hlx : ∀ x ∈ ls.l, I64 x := fun x hx => hls.2.2.2 x hx
 refine enter Try.func6 rfl Try.ntmps6 rfl ?_
 refine go T_ok 200 rfl ?_
 refine bx rfl rfl rfl (cs := cpL m) rfl ?_
 intro g4 u4 hg4 hs4 q4 B4
 have q := q4
 have Sm := Sm0.no q
 have So := So0.no q
 have Ss := Sl0.no q
 have u4 : w0.heap.size ≤ g4 := by omega
 refine go T_ok 200 rfl ?_
 repeat ((first | refine ldA T_ok rfl rfl rfl rfl rfl (Bk.all B4) ?_ | refine ld T_ok rfl rfl rfl rfl (Bk.get B4 rfl) ?_ | refine gT rfl rfl rfl rfl ?_ | refine gF rfl rfl rfl rfl ?_ | refine condT rfl rfl ?_ | refine condF rfl rfl ?_); refine go T_ok 200 rfl ?_)
 refine call rfl rfl rfl (ok _ (by decide) rfl) (small_any m 8 _ (by decide)) ?_
 rintro x w ⟨⟨b', rfl, hb⟩, qk⟩
 have B4 := B4.no qk
 have Sm := Sm.no qk
 have So := So.no qk
 have Ss := Ss.no qk
 have q := q.trans qk
 cases b' with
 | false =>
  refine go T_ok 200 rfl ?_
  repeat ((first | refine ldA T_ok rfl rfl rfl rfl rfl (Bk.all B4) ?_ | refine ld T_ok rfl rfl rfl rfl (Bk.get B4 rfl) ?_ | refine gT rfl rfl rfl rfl ?_ | refine gF rfl rfl rfl rfl ?_ | refine condT rfl rfl ?_ | refine condF rfl rfl ?_); refine go T_ok 200 rfl ?_)
  refine call rfl rfl rfl (ok _ (by decide) rfl) (known_any _) ?_
  rintro v wk ⟨rfl, qk⟩
  refine go T_ok 200 rfl ?_
  exact ret (ret1 (v := .bool true) Try.results6 rfl ⟨rfl, q.trans qk⟩)
 | true =>
 obtain ⟨n12, p8⟩ := hb rfl
 refine go T_ok 200 rfl ?_
 repeat ((first | refine ldA T_ok rfl rfl rfl rfl rfl (Bk.all B4) ?_ | refine ld T_ok rfl rfl rfl rfl (Bk.get B4 rfl) ?_ | refine gT rfl rfl rfl rfl ?_ | refine gF rfl rfl rfl rfl ?_ | refine condT rfl rfl ?_ | refine condF rfl rfl ?_); refine go T_ok 200 rfl ?_)
 by_cases h10 : 10 < (o.l.length : Int)
 ·rw [decide_eq_true h10]
  refine go T_ok 200 rfl ?_
  repeat ((first | refine ldA T_ok rfl rfl rfl rfl rfl (Bk.all B4) ?_ | refine ld T_ok rfl rfl rfl rfl (Bk.get B4 rfl) ?_ | refine gT rfl rfl rfl rfl ?_ | refine gF rfl rfl rfl rfl ?_ | refine condT rfl rfl ?_ | refine condF rfl rfl ?_); refine go T_ok 200 rfl ?_)
  refine call rfl rfl rfl (ok _ (by decide) rfl) (known_any _) ?_
  rintro v wk ⟨rfl, qk⟩
  refine go T_ok 200 rfl ?_
  exact ret (ret1 (v := .bool true) Try.results6 rfl ⟨rfl, q.trans qk⟩)
 rw [decide_eq_false h10]
 refine go T_ok 200 rfl ?_
 repeat ((first | refine ldA T_ok rfl rfl rfl rfl rfl (Bk.all B4) ?_ | refine ld T_ok rfl rfl rfl rfl (Bk.get B4 rfl) ?_ | refine gT rfl rfl rfl rfl ?_ | refine gF rfl rfl rfl rfl ?_ | refine condT rfl rfl ?_ | refine condF rfl rfl ?_); refine go T_ok 200 rfl ?_)
 by_cases h1 : s0 < 0
 ·rw [decide_eq_true h1]
  refine go T_ok 200 rfl ?_
  repeat ((first | refine ldA T_ok rfl rfl rfl rfl rfl (Bk.all B4) ?_ | refine ld T_ok rfl rfl rfl rfl (Bk.get B4 rfl) ?_ | refine gT rfl rfl rfl rfl ?_ | refine gF rfl rfl rfl rfl ?_ | refine condT rfl rfl ?_ | refine condF rfl rfl ?_); refine go T_ok 200 rfl ?_)
  refine call rfl rfl rfl (ok _ (by decide) rfl) (known_any _) ?_
  rintro v wk ⟨rfl, qk⟩
  refine go T_ok 200 rfl ?_
  exact ret (ret1 (v := .bool true) Try.results6 rfl ⟨rfl, q.trans qk⟩)
 rw [decide_eq_false h1]
 refine go T_ok 200 rfl ?_
 repeat ((first | refine ldA T_ok rfl rfl rfl rfl rfl (Bk.all B4) ?_ | refine ld T_ok rfl rfl rfl rfl (Bk.get B4 rfl) ?_ | refine gT rfl rfl rfl rfl ?_ | refine gF rfl rfl rfl rfl ?_ | refine condT rfl rfl ?_ | refine condF rfl rfl ?_); refine go T_ok 200 rfl ?_)
 by_cases h2 : 3 < s0
 ·rw [decide_eq_true h2]
  refine go T_ok 200 rfl ?_
  repeat ((first | refine ldA T_ok rfl rfl rfl rfl rfl (Bk.all B4) ?_ | refine ld T_ok rfl rfl rfl rfl (Bk.get B4 rfl) ?_ | refine gT rfl rfl rfl rfl ?_ | refine gF rfl rfl rfl rfl ?_ | refine condT rfl rfl ?_ | refine condF rfl rfl ?_); refine go T_ok 200 rfl ?_)
  refine call rfl rfl rfl (ok _ (by decide) rfl) (known_any _) ?_
  rintro v wk ⟨rfl, qk⟩
  refine go T_ok 200 rfl ?_
  exact ret (ret1 (v := .bool true) Try.results6 rfl ⟨rfl, q.trans qk⟩)
 rw [decide_eq_false h2]
 obtain ⟨s, rfl⟩ : ∃ k : Nat, s0 = (k : Int) := ⟨s0.toNat, by omega⟩
 refine go T_ok 200 rfl ?_
 repeat ((first | refine ldA T_ok rfl rfl rfl rfl rfl (Bk.all B4) ?_ | refine ld T_ok rfl rfl rfl rfl (Bk.get B4 rfl) ?_ | refine gT rfl rfl rfl rfl ?_ | refine gF rfl rfl rfl rfl ?_ | refine condT rfl rfl ?_ | refine condF rfl rfl ?_); refine go T_ok 200 rfl ?_)
 refine call rfl rfl rfl (ok _ (by decide) rfl) (rCampaign_any m _ (cpm6 Sm) (by omega)) ?_
 rintro x w ⟨⟨b', rfl, hb⟩, qk⟩
 have B4 := B4.no qk
 have Sm := Sm.no qk
 have So := So.no qk
 have Ss := Ss.no qk
 have q := q.trans qk
 cases b' with
 | false =>
  refine go T_ok 200 rfl ?_
  repeat ((first | refine ldA T_ok rfl rfl rfl rfl rfl (Bk.all B4) ?_ | refine ld T_ok rfl rfl rfl rfl (Bk.get B4 rfl) ?_ | refine gT rfl rfl rfl rfl ?_ | refine gF rfl rfl rfl rfl ?_ | refine condT rfl rfl ?_ | refine condF rfl rfl ?_); refine go T_ok 200 rfl ?_)
  refine call rfl rfl rfl (ok _ (by decide) rfl) (known_any _) ?_
  rintro v wk ⟨rfl, qk⟩
  refine go T_ok 200 rfl ?_
  exact ret (ret1 (v := .bool true) Try.results6 rfl ⟨rfl, q.trans qk⟩)
 | true =>
 have hc := hb.1 rfl
 refine go T_ok 200 rfl ?_
 repeat ((first | refine ldA T_ok rfl rfl rfl rfl rfl (Bk.all B4) ?_ | refine ld T_ok rfl rfl rfl rfl (Bk.get B4 rfl) ?_ | refine gT rfl rfl rfl rfl ?_ | refine gF rfl rfl rfl rfl ?_ | refine condT rfl rfl ?_ | refine condF rfl rfl ?_); refine go T_ok 200 rfl ?_)
 refine call rfl rfl rfl (ok _ (by decide) rfl) (rChoice_any m o.l o.A o.c _ _ (cpm6 Sm) hc So (by omega)) ?_
 rintro x w ⟨⟨b', rfl, hb⟩, qk⟩
 have B4 := B4.no qk
 have Sm := Sm.no qk
 have So := So.no qk
 have Ss := Ss.no qk
 have q := q.trans qk
 cases b' with
 | false =>
  refine go T_ok 200 rfl ?_
  repeat ((first | refine ldA T_ok rfl rfl rfl rfl rfl (Bk.all B4) ?_ | refine ld T_ok rfl rfl rfl rfl (Bk.get B4 rfl) ?_ | refine gT rfl rfl rfl rfl ?_ | refine gF rfl rfl rfl rfl ?_ | refine condT rfl rfl ?_ | refine condF rfl rfl ?_); refine go T_ok 200 rfl ?_)
  refine call rfl rfl rfl (ok _ (by decide) rfl) (known_any _) ?_
  rintro v wk ⟨rfl, qk⟩
  refine go T_ok 200 rfl ?_
  exact ret (ret1 (v := .bool true) Try.results6 rfl ⟨rfl, q.trans qk⟩)
 | true =>
 have hch := hb.1 rfl
 refine go T_ok 200 rfl ?_
 repeat ((first | refine ldA T_ok rfl rfl rfl rfl rfl (Bk.all B4) ?_ | refine ld T_ok rfl rfl rfl rfl (Bk.get B4 rfl) ?_ | refine gT rfl rfl rfl rfl ?_ | refine gF rfl rfl rfl rfl ?_ | refine condT rfl rfl ?_ | refine condF rfl rfl ?_); refine go T_ok 200 rfl ?_)
 by_cases hll : ls.l.length = o.l.length
 case neg =>
  rw [show ((ls.l.length : Int) != (o.l.length : Int)) = true from bne_iff_ne.2 (by omega)]
  refine go T_ok 200 rfl ?_
  repeat ((first | refine ldA T_ok rfl rfl rfl rfl rfl (Bk.all B4) ?_ | refine ld T_ok rfl rfl rfl rfl (Bk.get B4 rfl) ?_ | refine gT rfl rfl rfl rfl ?_ | refine gF rfl rfl rfl rfl ?_ | refine condT rfl rfl ?_ | refine condF rfl rfl ?_); refine go T_ok 200 rfl ?_)
  refine call rfl rfl rfl (ok _ (by decide) rfl) (known_any _) ?_
  rintro v wk ⟨rfl, qk⟩
  refine go T_ok 200 rfl ?_
  exact ret (ret1 (v := .bool true) Try.results6 rfl ⟨rfl, q.trans qk⟩)
 rw [show ((ls.l.length : Int) != (o.l.length : Int)) = false by simp [hll]]
 refine go T_ok 200 rfl ?_
 repeat ((first | refine ldA T_ok rfl rfl rfl rfl rfl (Bk.all B4) ?_ | refine ld T_ok rfl rfl rfl rfl (Bk.get B4 rfl) ?_ | refine gT rfl rfl rfl rfl ?_ | refine gF rfl rfl rfl rfl ?_ | refine condT rfl rfl ?_ | refine condF rfl rfl ?_); refine go T_ok 200 rfl ?_)
 rw [w64_id (x := (s : Int) + 1) (by omega) (by omega)]
 have hL := rLong_any m (s + 1) w hc (by omega)
 rw [show ((s + 1 : Nat) : Int) = (s : Int) + 1 by omega] at hL
 refine call rfl rfl rfl (ok _ (by decide) rfl) hL ?_
 rintro x w ⟨⟨b', rfl, hb⟩, qk⟩
 have B4 := B4.no qk
 have Sm := Sm.no qk
 have So := So.no qk
 have Ss := Ss.no qk
 have q := q.trans qk
 clear hL
 cases b' with
 | true =>
  refine go T_ok 200 rfl ?_
  repeat ((first | refine ldA T_ok rfl rfl rfl rfl rfl (Bk.all B4) ?_ | refine ld T_ok rfl rfl rfl rfl (Bk.get B4 rfl) ?_ | refine gT rfl rfl rfl rfl ?_ | refine gF rfl rfl rfl rfl ?_ | refine condT rfl rfl ?_ | refine condF rfl rfl ?_); refine go T_ok 200 rfl ?_)
  refine call rfl rfl rfl (ok _ (by decide) rfl) (known_any _) ?_
  rintro v wk ⟨rfl, qk⟩
  refine go T_ok 200 rfl ?_
  exact ret (ret1 (v := .bool true) Try.results6 rfl ⟨rfl, q.trans qk⟩)
 | false =>
 have hs1 := hb.1 rfl
 have hs : SlOk m.c s := by
  refine ⟨by have := hs1.n; omega, ?_⟩
  have h5 := pow_mono' (D := m.c.parts) (by have := hc.p0; omega) (show 3 * s ≤ 3 * (s + 1) by omega)
  have := hs1.w
  omega
 have hv0 := hc.v0; have hv1 := hc.v1; have hp0 := hc.p0; have hp1 := hc.p1
 have hn0 := hc.n0; have hn1 := hc.n1
 refine go T_ok 200 rfl ?_
 repeat ((first | refine ldA T_ok rfl rfl rfl rfl rfl (Bk.all B4) ?_ | refine ld T_ok rfl rfl rfl rfl (Bk.get B4 rfl) ?_ | refine gT rfl rfl rfl rfl ?_ | refine gF rfl rfl rfl rfl ?_ | refine condT rfl rfl ?_ | refine condF rfl rfl ?_); refine go T_ok 200 rfl ?_)
 refine nw rfl rfl (z := .agg #[I 0, I 0, I 0, .slice none 0 0]) (by kernel_rfl) (cs := [I 0, I 0, I 0, .slice none 0 0]) rfl ?_
 intro g9 w hg9 hs9 qk B9
 have l4 := B4.lt
 have lq := q.size
 have B4 := B4.no qk
 have Sm := Sm.no qk
 have So := So.no qk
 have Ss := Ss.no qk
 have q := q.trans qk
 have u9 : g4 < g9 := by omega
 clear hg9 hs9 l4 lq
 refine go T_ok 200 rfl ?_
 repeat ((first | refine ldA T_ok rfl rfl rfl rfl rfl (Bk.all B4) ?_ | refine ld T_ok rfl rfl rfl rfl (Bk.get B4 rfl) ?_ | refine gT rfl rfl rfl rfl ?_ | refine gF rfl rfl rfl rfl ?_ | refine condT rfl rfl ?_ | refine condF rfl rfl ?_); refine go T_ok 200 rfl ?_)
 refine stA T_ok rfl rfl rfl rfl (vs := cpL m) rfl rfl rfl B9 rfl ?_
 intro w qk B9 hz9
 have B9 : Bk w g9 24 (cpL m) := B9
 have B4 := B4.keep qk (by omega)
 have q := q.step qk (fun k hk e => by omega)
 have Sm := Sm0.no q
 refine go T_ok 200 rfl ?_
 repeat ((first | refine ldA T_ok rfl rfl rfl rfl rfl (Bk.all B4) ?_ | refine ldA T_ok rfl rfl rfl rfl rfl (Bk.all B9) ?_ | refine ld T_ok rfl rfl rfl rfl (Bk.get B4 rfl) ?_ | refine ld T_ok rfl rfl rfl rfl (Bk.get B9 rfl) ?_ | refine gT rfl rfl rfl rfl ?_ | refine gF rfl rfl rfl rfl ?_ | refine condT rfl rfl ?_ | refine condF rfl rfl ?_); refine go T_ok 200 rfl ?_)
 refine appS T_ok rfl rfl rfl rfl rfl (own_nil (B' := w.heap.size) (e := 65) (sz := 4)) Sm (by rw [List.all_eq_true]; intro v hv; obtain ⟨x, _, hx⟩ := List.mem_flatMap.1 hv; simp [siL] at hx; rcases hx with rfl | rfl | rfl | rfl <;> rfl) (by unfold maxLen; omega) (by show (0 + m.c.sites.length) * 32 ≤ _; omega) (Nat.le_refl _) ?_
 intro Aq cq w3 oq qk hownq
 rw [show 0 + m.c.sites.length = m.c.sites.length from Nat.zero_add _, List.nil_append] at oq
 rw [show 0 + m.c.sites.length = m.c.sites.length from Nat.zero_add _]
 have qk : Chg No w w3 := qk.mono fun _ _ h => by cases h
 have l9 := B9.lt
 have lq := q.size
 have B4 := B4.no qk
 have B9 := B9.no qk
 have q := q.trans qk
 obtain ⟨gq, mm, f0, rfl, hgq, hrow, hmm, hf0⟩ := own_row oq (by omega)
 have u9q : g9 < gq := by omega
 have u0q : w0.heap.size ≤ gq := by omega
 clear oq hownq l9 lq
 refine go T_ok 200 rfl ?_
 refine st T_ok rfl rfl rfl rfl (v := .slice (some ⟨gq, 0, none⟩) m.c.sites.length cq) rfl rfl B9 rfl ?_
 intro w qk B9 hz
 have B9 : Bk w g9 24 [I m.c.parts, I m.c.level, I m.c.budget, .slice (some ⟨gq, 0, none⟩) m.c.sites.length cq] := B9
 have B4 := B4.keep qk (by omega)
 have hrow := rowIs_keep hrow qk (by omega)
 have q := q.step qk (fun k hk e => by omega)
 clear hz qk
 have hf0' : ∀ k v, (m.c.sites.flatMap siL)[k]? = some v → f0 k = v := fun k v hv => by
  have hk := (List.getElem?_eq_some_iff.1 hv).1
  rw [flat_len siL_len] at hk
  have := hf0 k hk
  rw [hv] at this
  injection this with this
  exact this.symm
 refine go T_ok 200 rfl ?_
 refine loop [1, 2, 3, 4, 9, 10] (fun x : AlX => [.slice o.A o.l.length o.c, I (s : Int), .slice ls.A ls.l.length ls.c, .pointer (some ⟨g4, 0, none⟩), .pointer (some ⟨g9, 0, none⟩), .int .i64 (x.j : Int)])
  (fun x w' => x.j ≤ o.l.length ∧ QS m.c o.l x.S x.j ∧ Chg No w0 w' ∧ Bk w' g4 24 (cpL m) ∧ Bk w' g9 24 [I m.c.parts, I m.c.level, I m.c.budget, .slice (some ⟨gq, 0, none⟩) m.c.sites.length cq] ∧ w'.rowIs gq 65 mm x.f ∧ ∀ k v, (x.S.flatMap siL)[k]? = some v → x.f k = v) (fun x => o.l.length - x.j)
  ⟨0, m.c.sites, f0⟩ (fun _ => rfl) rfl ⟨Nat.zero_le _, QS.init hc o.l, q, B4, B9, hrow, hf0'⟩ ?_
 clear B4 B9 hrow hf0 hf0' q So Ss Sm
 rintro ⟨j, S, f⟩ τ w ⟨hj, hQ, q, B4, B9, hrow, hf⟩
 simp only at hj hQ hrow hf
 dsimp only
 have hSl := hQ.len
 refine go T_ok 200 rfl ?_
 refine condD rfl (fun hlt => ?_) (fun hlt => ?_)
 ·have hltj : j < o.l.length := by have : (j : Int) < (o.l.length : Int) := hlt; omega
  have ej : w64 ((j : Int) + 1) = ((j + 1 : Nat) : Int) := w64_id (by omega) (by omega)
  obtain ⟨x, hx⟩ := getA_of (l := ls.l) (i := j) (by omega)
  obtain ⟨i, hi⟩ := getA_of hltj
  have hx64 := hlx x (List.mem_of_getElem? hx)
  obtain ⟨i0, i1⟩ := hch.s i (List.mem_of_getElem? hi)
  obtain ⟨s', hs'⟩ := getA_of (l := S) (i := i.toNat) (by rw [hSl]; omega)
  obtain ⟨sx, e0, e1, e2, e3, e4, e5⟩ := hQ.at_ _ _ hs'
  have hso := hc.s sx (List.mem_of_getElem? e0)
  have hlo0 := hso.l0
  have hlo1 := hso.lh
  have hlo2 := hso.h1
  rw [← e2] at hlo0 hlo1
  have hst := QS.step hc hQ hi hs' (x := x)
  have hget := hf _ _ (site_get S i.toNat s' hs')
  have hset := site_set S i.toNat s' (max 0 (s'.lo - x)) hs'
  have So := So0.no q
  have Ss := Sl0.no q
  obtain ⟨b1, o1, hA1, hb1, hc1⟩ := Ss.elI hx
  obtain ⟨b2, o2, hA2, hb2, hc2⟩ := So.elI hi
  have hz := q.size
  have hil : i.toNat < m.c.sites.length := by omega
  have hi4 : i.toNat * 4 + 3 < mm := by omega
  refine go T_ok 200 rfl ?_
  rw [hA1]
  refine idx T_ok rfl rfl rfl rfl rfl j rfl (by omega) ?_
  refine go T_ok 200 rfl ?_
  refine ld T_ok rfl rfl rfl rfl (hc1) ?_
  refine go T_ok 200 rfl ?_
  rw [← hA1]
  by_cases hx0 : x < 0
  ·refine go T_ok 200 rfl ?_
   rw [decide_eq_true hx0]
   refine go T_ok 200 rfl ?_
   repeat ((first | refine ldA T_ok rfl rfl rfl rfl rfl (Bk.all B4) ?_ | refine ldA T_ok rfl rfl rfl rfl rfl (Bk.all B9) ?_ | refine ld T_ok rfl rfl rfl rfl (Bk.get B4 rfl) ?_ | refine ld T_ok rfl rfl rfl rfl (Bk.get B9 rfl) ?_ | refine gT rfl rfl rfl rfl ?_ | refine gF rfl rfl rfl rfl ?_ | refine condT rfl rfl ?_ | refine condF rfl rfl ?_); refine go T_ok 200 rfl ?_)
   refine call rfl rfl rfl (ok _ (by decide) rfl) (known_any _) ?_
   rintro v wk ⟨rfl, qk⟩
   refine go T_ok 200 rfl ?_
   exact ret (ret1 (v := .bool true) Try.results6 rfl ⟨rfl, q.trans qk⟩)
  refine go T_ok 200 rfl ?_
  rw [decide_eq_false hx0]
  refine go T_ok 200 rfl ?_
  refine condF rfl rfl ?_
  refine go T_ok 200 rfl ?_
  refine draw mixed (fun w' => Chg No w w') ([0,1,2,3,4,5,6,7].map (fun i => (i, true))) rfl (by kernel_rfl) (Chg.drew _) ?_
  refine goH T_ok 200 rfl ?_
  repeat (first | (refine quietH rfl (fun w' hS => r_load T_ok rfl rfl rfl (Bk.get (B9.no hS) rfl)) ?_; refine goH T_ok 200 rfl ?_))
  rw [hA2]
  refine quietH rfl (fun w' hS => r_idx T_ok rfl rfl rfl rfl j rfl hltj) ?_
  refine goH T_ok 200 rfl ?_
  refine quietH rfl (fun w' hS => r_load T_ok rfl rfl rfl ((hS.cell (a := ⟨b2, o2 + j * 1, none⟩) (by show b2 < _; omega) (fun h => h)).trans hc2)) ?_
  rw [← hA2]
  refine goH T_ok 200 rfl ?_
  refine quietH rfl (fun w' hS => r_idx T_ok rfl rfl rfl rfl i.toNat (by omega) hil) ?_
  refine goH T_ok 200 rfl ?_
  refine endH ?_
  have qd := Chg.drew w
  have B4 := B4.no qd
  have B9 := B9.no qd
  have hrow := rowIs_no hrow qd
  have q := q.trans qd
  have hc1 := (qd.cell (a := ⟨b1, o1 + j * 1, none⟩) (by show b1 < _; omega) (fun h => h)).trans hc1
  have hz2 := qd.size
  clear qd hc2
  generalize w.drew = w at *
  have hcell := hrow.cell (i := 0 + i.toNat * 4 + 1) (by omega)
  rw [show f (0 + i.toNat * 4 + 1) = I s'.lo by rw [show 0 + i.toNat * 4 + 1 = i.toNat * 4 + 1 by omega]; exact hget] at hcell
  have hgql := hrow.lt
  refine go T_ok 200 rfl ?_
  refine draw mixed (fun w' => Chg (fun k => k = gq) w w' ∧ w'.cell? ⟨gq, 0 + i.toNat * 4 + 1, none⟩ = some (I s'.lo)) ([0,1,2,3,4,5,6,7,8,9,10,11,12].map (fun i => (i, true)) ++ [(13, false)]) rfl (by kernel_rfl) ⟨(Chg.drew _).mono fun _ _ h => h.elim, ((Chg.drew w).cell (a := ⟨gq, 0 + i.toNat * 4 + 1, none⟩) hgql (fun h => h)).trans hcell⟩ ?_
  refine goH T_ok 200 rfl ?_
  refine quietH rfl (fun w' hS => r_load T_ok rfl rfl rfl hS.2) ?_
  refine goH T_ok 200 rfl ?_
  rw [hA1]
  refine quietH rfl (fun w' hS => r_idx T_ok rfl rfl rfl rfl j rfl (by omega)) ?_
  refine goH T_ok 200 rfl ?_
  refine quietH rfl (fun w' hS => r_load T_ok rfl rfl rfl ((hS.1.cell (a := ⟨b1, o1 + j * 1, none⟩) (by show b1 < _; omega) (by show ¬ b1 = gq; omega)).trans hc1)) ?_
  rw [← hA1]
  refine goH T_ok 200 rfl ?_
  rw [w64_id (x := s'.lo - x) (by have := hx64.2; omega) (by omega)]
  have qd := Chg.drew w
  refine stRE T_ok rfl rfl rfl rfl (v := I (max 0 (s'.lo - x))) rfl rfl (rowIs_no hrow qd) (i := 0 + i.toNat * 4 + 3) (by omega) ?_
  intro w5 qk hrow5 hz5
  have hrow5 : w5.rowIs gq 65 mm (fun k => if k = i.toNat * 4 + 3 then I (max 0 (s'.lo - x)) else f k) := by
   rw [show i.toNat * 4 + 3 = 0 + i.toNat * 4 + 3 by omega]; exact hrow5
  have hc5 := hrow5.cell (i := 0 + i.toNat * 4 + 1) (by omega)
  rw [if_neg (by omega), show f (0 + i.toNat * 4 + 1) = I s'.lo by rw [show 0 + i.toNat * 4 + 1 = i.toNat * 4 + 1 by omega]; exact hget] at hc5
  refine ⟨⟨(qd.mono fun _ _ h => h.elim).trans qk, hc5⟩, ?_⟩
  refine goH T_ok 200 rfl ?_
  refine endH ?_
  have B4 := (B4.no qd).keep qk (by omega)
  have B9 := (B9.no qd).keep qk (by omega)
  have q := (q.trans qd).step qk (fun k hk e => by omega)
  refine go T_ok 200 rfl ?_
  rw [ej]
  refine round ⟨⟨j + 1, S.set i.toNat { s' with tru := max 0 (s'.lo - x) }, fun k => if k = i.toNat * 4 + 3 then I (max 0 (s'.lo - x)) else f k⟩, rfl, ⟨by simp only; omega, hst (by omega), q, B4, B9, hrow5, fun k v hv => ?_⟩, by simp only; omega⟩
  simp only at hv ⊢
  rw [hset, List.getElem?_set] at hv
  by_cases hk : i.toNat * 4 + 3 = k
  ·subst hk
   rw [if_pos rfl] at hv
   split at hv
   ·cases hv
    rw [if_pos (by omega)]
   ·cases hv
  ·rw [if_neg hk] at hv
   rw [if_neg (by omega)]
   exact hf k v hv
 have hje : j = o.l.length := by have : ¬ (j : Int) < (o.l.length : Int) := hlt; omega
 subst hje
 obtain ⟨mq, hmq⟩ : ∃ mq : Cm, mq = ⟨quietC m.c S, some ⟨gq, 0, none⟩, cq⟩ := ⟨_, rfl⟩
 have hqc : mq.c = quietC m.c S := by rw [hmq]
 have Hq : CpM w mq := by
  rw [hmq]
  refine ⟨flat_len siL_len S, Nat.le_refl _, fun _ => ⟨gq, 0, rfl, hrow.lt, fun k v hv => ?_⟩⟩
  have hk : k < (S.flatMap siL).length := (List.getElem?_eq_some_iff.1 hv).1
  have hk2 : k < S.length * 4 := by
   have : (S.flatMap siL).length = S.length * 4 := flat_len siL_len S
   omega
  rw [hSl] at hk2
  rw [Nat.zero_add, ← hf k v hv]
  exact hrow.cell (by omega)
 have hqL : cpL mq = [I m.c.parts, I m.c.level, I m.c.budget, .slice (some ⟨gq, 0, none⟩) m.c.sites.length cq] := by
  rw [hmq]
  show [I m.c.parts, I m.c.level, I m.c.budget, Value.slice (some ⟨gq, 0, none⟩) S.length cq] = _
  rw [hSl]
 rw [← hqL] at B9
 have hcq : CpOk mq.c := by rw [hqc]; exact quiet_ok hc hQ
 have hchq : ChOk mq.c o.l := by rw [hqc]; exact quiet_ch hQ hch
 have hsq : SlOk mq.c s := by rw [hqc]; exact ⟨hs.n, hs.w⟩
 have alq := odds_alarm hcq s false (ls_ch hchq) (by rw [hqc]; exact quiet_low hQ hch)
 rw [show mq.c.level = m.c.level by rw [hqc]; rfl] at alq
 have alb := odds_alarm hc s true (ls_ch hch) (fun i _ => Int.le_refl _)
 obtain ⟨mo1, mo2, mo3⟩ := odds_more hc s false (ls_ch hch)
 have oda := odds_od hcq hsq false (ls_ch hchq)
 have odb := odds_od hc hs true (ls_ch hch)
 have odx := odds_od hc hs false (ls_ch hch)
 have ody := odds_od hc hs1 false (ls_ch hch)
 have odm := od_mul odx ody
 have Dk : 0 < (oddsP m.c s false o.l).2 := by have := odx.a0; omega
 have hdiv : (oddsP m.c (s + 1) false o.l).2 / (oddsP m.c s false o.l).2 = m.c.parts ^ o.l.length := by rw [mo2]; exact Int.mul_ediv_cancel_left _ (by omega)
 have hrem : (oddsP m.c (s + 1) false o.l).2 % (oddsP m.c s false o.l).2 = 0 := by rw [mo2]; exact Int.mul_emod_right _ _
 have hmul : (oddsP m.c s false o.l).1 * ((oddsP m.c (s + 1) false o.l).2 / (oddsP m.c s false o.l).2) ≤ (oddsP m.c (s + 1) false o.l).1 := by rw [hdiv]; exact mo1
 clear hrow hf hQ mo1 mo2 mo3 hqL hmq hdiv
 have Hm : CpM w m := cpm6 (Sm0.no q)
 have So := So0.no q
 refine go T_ok 200 rfl ?_
 refine ldA T_ok rfl rfl rfl rfl rfl B9.all ?_
 refine go T_ok 200 rfl ?_
 refine call rfl rfl rfl (ok _ (by decide) rfl) (Power_ok mq s o.l o.A o.c _ _ Hq hcq hsq hchq So) ?_
 rintro x w ⟨rfl, qk⟩
 have B4 := B4.no qk
 have B9 := B9.no qk
 have Hq := Hq.no qk
 have Hm := Hm.no qk
 have So := So.no qk
 have q := q.trans qk
 obtain ⟨oa, hoa⟩ : ∃ a, a = oddsP mq.c s false o.l := ⟨_, rfl⟩
 rw [← hoa] at alq oda
 rw [← hoa]
 clear hoa
 refine go T_ok 200 rfl ?_
 have yB4 := B4.lt
 have yq := q.size
 refine nw rfl rfl (z := .agg #[I 0, I 0]) (by kernel_rfl) (cs := [I 0, I 0]) rfl ?_
 intro g12 w hg12 hs12 qk B12
 have B4 := B4.no qk
 have q := q.trans qk
 refine go T_ok 200 rfl ?_
 refine stA T_ok rfl rfl rfl rfl (vs := odL oa) rfl rfl rfl B12 rfl ?_
 intro w qk B12 hz12
 have B12 : Bk w g12 30 (odL oa) := B12
 have B4 := Bk.keep B4 qk (by omega)
 have q := q.step qk (fun k hk e => by omega)
 have Hm : CpM w m := cpm6 (Sm0.no q)
 have So := So0.no q
 refine go T_ok 200 rfl ?_
 repeat ((first | refine ldA T_ok rfl rfl rfl rfl rfl (Bk.all B4) ?_ | refine ldA T_ok rfl rfl rfl rfl rfl (Bk.all B12) ?_ | refine ld T_ok rfl rfl rfl rfl (Bk.get B4 rfl) ?_ | refine ld T_ok rfl rfl rfl rfl (Bk.get B12 rfl) ?_ | refine gT rfl rfl rfl rfl ?_ | refine gF rfl rfl rfl rfl ?_ | refine condT rfl rfl ?_ | refine condF rfl rfl ?_); refine go T_ok 200 rfl ?_)
 refine call rfl rfl rfl (ok _ (by decide) rfl) (False_ok m s o.l o.A o.c _ _ Hm hc hs hch So) ?_
 rintro x w ⟨rfl, qk⟩
 have B4 := B4.no qk
 have B12 := B12.no qk
 have q := q.trans qk
 obtain ⟨ob, hob⟩ : ∃ a, a = oddsP m.c s true o.l := ⟨_, rfl⟩
 rw [← hob] at alb odb
 rw [← hob]
 clear hob
 refine go T_ok 200 rfl ?_
 have yB4 := B4.lt
 have yB12 := B12.lt
 have yq := q.size
 refine nw rfl rfl (z := .agg #[I 0, I 0]) (by kernel_rfl) (cs := [I 0, I 0]) rfl ?_
 intro g14 w hg14 hs14 qk B14
 have B4 := B4.no qk
 have B12 := B12.no qk
 have q := q.trans qk
 refine go T_ok 200 rfl ?_
 refine stA T_ok rfl rfl rfl rfl (vs := odL ob) rfl rfl rfl B14 rfl ?_
 intro w qk B14 hz14
 have B14 : Bk w g14 30 (odL ob) := B14
 have B4 := Bk.keep B4 qk (by omega)
 have B12 := Bk.keep B12 qk (by omega)
 have q := q.step qk (fun k hk e => by omega)
 have Hm : CpM w m := cpm6 (Sm0.no q)
 have So := So0.no q
 refine go T_ok 200 rfl ?_
 repeat ((first | refine ldA T_ok rfl rfl rfl rfl rfl (Bk.all B4) ?_ | refine ldA T_ok rfl rfl rfl rfl rfl (Bk.all B12) ?_ | refine ldA T_ok rfl rfl rfl rfl rfl (Bk.all B14) ?_ | refine ld T_ok rfl rfl rfl rfl (Bk.get B4 rfl) ?_ | refine ld T_ok rfl rfl rfl rfl (Bk.get B12 rfl) ?_ | refine ld T_ok rfl rfl rfl rfl (Bk.get B14 rfl) ?_ | refine gT rfl rfl rfl rfl ?_ | refine gF rfl rfl rfl rfl ?_ | refine condT rfl rfl ?_ | refine condF rfl rfl ?_); refine go T_ok 200 rfl ?_)
 refine call rfl rfl rfl (ok _ (by decide) rfl) (Power_ok m s o.l o.A o.c _ _ Hm hc hs hch So) ?_
 rintro x w ⟨rfl, qk⟩
 have B4 := B4.no qk
 have B12 := B12.no qk
 have B14 := B14.no qk
 have q := q.trans qk
 obtain ⟨ox, hox⟩ : ∃ a, a = oddsP m.c s false o.l := ⟨_, rfl⟩
 rw [← hox] at odx odm Dk hrem hmul
 rw [← hox]
 clear hox
 refine go T_ok 200 rfl ?_
 have yB4 := B4.lt
 have yB12 := B12.lt
 have yB14 := B14.lt
 have yq := q.size
 refine nw rfl rfl (z := .agg #[I 0, I 0]) (by kernel_rfl) (cs := [I 0, I 0]) rfl ?_
 intro g16 w hg16 hs16 qk B16
 have B4 := B4.no qk
 have B12 := B12.no qk
 have B14 := B14.no qk
 have q := q.trans qk
 refine go T_ok 200 rfl ?_
 refine stA T_ok rfl rfl rfl rfl (vs := odL ox) rfl rfl rfl B16 rfl ?_
 intro w qk B16 hz16
 have B16 : Bk w g16 30 (odL ox) := B16
 have B4 := Bk.keep B4 qk (by omega)
 have B12 := Bk.keep B12 qk (by omega)
 have B14 := Bk.keep B14 qk (by omega)
 have q := q.step qk (fun k hk e => by omega)
 have Hm : CpM w m := cpm6 (Sm0.no q)
 have So := So0.no q
 refine go T_ok 200 rfl ?_
 repeat ((first | refine ldA T_ok rfl rfl rfl rfl rfl (Bk.all B4) ?_ | refine ldA T_ok rfl rfl rfl rfl rfl (Bk.all B12) ?_ | refine ldA T_ok rfl rfl rfl rfl rfl (Bk.all B14) ?_ | refine ldA T_ok rfl rfl rfl rfl rfl (Bk.all B16) ?_ | refine ld T_ok rfl rfl rfl rfl (Bk.get B4 rfl) ?_ | refine ld T_ok rfl rfl rfl rfl (Bk.get B12 rfl) ?_ | refine ld T_ok rfl rfl rfl rfl (Bk.get B14 rfl) ?_ | refine ld T_ok rfl rfl rfl rfl (Bk.get B16 rfl) ?_ | refine gT rfl rfl rfl rfl ?_ | refine gF rfl rfl rfl rfl ?_ | refine condT rfl rfl ?_ | refine condF rfl rfl ?_); refine go T_ok 200 rfl ?_)
 rw [w64_id (x := (s : Int) + 1) (by omega) (by omega)]
 have hL := Power_ok m (s + 1) o.l o.A o.c _ _ Hm hc hs1 hch So
 rw [show ((s + 1 : Nat) : Int) = (s : Int) + 1 by omega] at hL
 refine call rfl rfl rfl (ok _ (by decide) rfl) hL ?_
 rintro x w ⟨rfl, qk⟩
 have B4 := B4.no qk
 have B12 := B12.no qk
 have B14 := B14.no qk
 have B16 := B16.no qk
 have q := q.trans qk
 obtain ⟨oy, hoy⟩ : ∃ a, a = oddsP m.c (s + 1) false o.l := ⟨_, rfl⟩
 rw [← hoy] at ody odm hrem hmul
 rw [← hoy]
 clear hoy hL
 refine go T_ok 200 rfl ?_
 have yB4 := B4.lt
 have yB12 := B12.lt
 have yB14 := B14.lt
 have yB16 := B16.lt
 have yq := q.size
 refine nw rfl rfl (z := .agg #[I 0, I 0]) (by kernel_rfl) (cs := [I 0, I 0]) rfl ?_
 intro g18 w hg18 hs18 qk B18
 have B4 := B4.no qk
 have B12 := B12.no qk
 have B14 := B14.no qk
 have B16 := B16.no qk
 have q := q.trans qk
 refine go T_ok 200 rfl ?_
 refine stA T_ok rfl rfl rfl rfl (vs := odL oy) rfl rfl rfl B18 rfl ?_
 intro w qk B18 hz18
 have B18 : Bk w g18 30 (odL oy) := B18
 have B4 := Bk.keep B4 qk (by omega)
 have B12 := Bk.keep B12 qk (by omega)
 have B14 := Bk.keep B14 qk (by omega)
 have B16 := Bk.keep B16 qk (by omega)
 have q := q.step qk (fun k hk e => by omega)
 have za := oda.a0; have zb := odb.a0; have zx := odx.a0; have zy := ody.a0
 have ya := oda.a1; have yb := odb.a1; have yx := odx.a1; have yy := ody.a1
 refine go T_ok 200 rfl ?_
 repeat ((first | refine ldA T_ok rfl rfl rfl rfl rfl (Bk.all B4) ?_ | refine ldA T_ok rfl rfl rfl rfl rfl (Bk.all B12) ?_ | refine ldA T_ok rfl rfl rfl rfl rfl (Bk.all B14) ?_ | refine ldA T_ok rfl rfl rfl rfl rfl (Bk.all B16) ?_ | refine ldA T_ok rfl rfl rfl rfl rfl (Bk.all B18) ?_ | refine ld T_ok rfl rfl rfl rfl (Bk.get B4 rfl) ?_ | refine ld T_ok rfl rfl rfl rfl (Bk.get B12 rfl) ?_ | refine ld T_ok rfl rfl rfl rfl (Bk.get B14 rfl) ?_ | refine ld T_ok rfl rfl rfl rfl (Bk.get B16 rfl) ?_ | refine ld T_ok rfl rfl rfl rfl (Bk.get B18 rfl) ?_ | refine gT rfl rfl rfl rfl ?_ | refine gF rfl rfl rfl rfl ?_ | refine condT rfl rfl ?_ | refine condF rfl rfl ?_); refine go T_ok 200 rfl ?_)
 rw [decide_eq_false (show ¬ oa.2 < 1 by omega)]
 refine go T_ok 200 rfl ?_
 repeat ((first | refine ldA T_ok rfl rfl rfl rfl rfl (Bk.all B4) ?_ | refine ldA T_ok rfl rfl rfl rfl rfl (Bk.all B12) ?_ | refine ldA T_ok rfl rfl rfl rfl rfl (Bk.all B14) ?_ | refine ldA T_ok rfl rfl rfl rfl rfl (Bk.all B16) ?_ | refine ldA T_ok rfl rfl rfl rfl rfl (Bk.all B18) ?_ | refine ld T_ok rfl rfl rfl rfl (Bk.get B4 rfl) ?_ | refine ld T_ok rfl rfl rfl rfl (Bk.get B12 rfl) ?_ | refine ld T_ok rfl rfl rfl rfl (Bk.get B14 rfl) ?_ | refine ld T_ok rfl rfl rfl rfl (Bk.get B16 rfl) ?_ | refine ld T_ok rfl rfl rfl rfl (Bk.get B18 rfl) ?_ | refine gT rfl rfl rfl rfl ?_ | refine gF rfl rfl rfl rfl ?_ | refine condT rfl rfl ?_ | refine condF rfl rfl ?_); refine go T_ok 200 rfl ?_)
 rw [decide_eq_false (show ¬ ob.2 < 1 by omega)]
 refine go T_ok 200 rfl ?_
 repeat ((first | refine ldA T_ok rfl rfl rfl rfl rfl (Bk.all B4) ?_ | refine ldA T_ok rfl rfl rfl rfl rfl (Bk.all B12) ?_ | refine ldA T_ok rfl rfl rfl rfl rfl (Bk.all B14) ?_ | refine ldA T_ok rfl rfl rfl rfl rfl (Bk.all B16) ?_ | refine ldA T_ok rfl rfl rfl rfl rfl (Bk.all B18) ?_ | refine ld T_ok rfl rfl rfl rfl (Bk.get B4 rfl) ?_ | refine ld T_ok rfl rfl rfl rfl (Bk.get B12 rfl) ?_ | refine ld T_ok rfl rfl rfl rfl (Bk.get B14 rfl) ?_ | refine ld T_ok rfl rfl rfl rfl (Bk.get B16 rfl) ?_ | refine ld T_ok rfl rfl rfl rfl (Bk.get B18 rfl) ?_ | refine gT rfl rfl rfl rfl ?_ | refine gF rfl rfl rfl rfl ?_ | refine condT rfl rfl ?_ | refine condF rfl rfl ?_); refine go T_ok 200 rfl ?_)
 rw [decide_eq_false (show ¬ ox.2 < 1 by omega)]
 refine go T_ok 200 rfl ?_
 repeat ((first | refine ldA T_ok rfl rfl rfl rfl rfl (Bk.all B4) ?_ | refine ldA T_ok rfl rfl rfl rfl rfl (Bk.all B12) ?_ | refine ldA T_ok rfl rfl rfl rfl rfl (Bk.all B14) ?_ | refine ldA T_ok rfl rfl rfl rfl rfl (Bk.all B16) ?_ | refine ldA T_ok rfl rfl rfl rfl rfl (Bk.all B18) ?_ | refine ld T_ok rfl rfl rfl rfl (Bk.get B4 rfl) ?_ | refine ld T_ok rfl rfl rfl rfl (Bk.get B12 rfl) ?_ | refine ld T_ok rfl rfl rfl rfl (Bk.get B14 rfl) ?_ | refine ld T_ok rfl rfl rfl rfl (Bk.get B16 rfl) ?_ | refine ld T_ok rfl rfl rfl rfl (Bk.get B18 rfl) ?_ | refine gT rfl rfl rfl rfl ?_ | refine gF rfl rfl rfl rfl ?_ | refine condT rfl rfl ?_ | refine condF rfl rfl ?_); refine go T_ok 200 rfl ?_)
 rw [decide_eq_false (show ¬ oy.2 < 1 by omega)]
 refine go T_ok 200 rfl ?_
 repeat ((first | refine ldA T_ok rfl rfl rfl rfl rfl (Bk.all B4) ?_ | refine ldA T_ok rfl rfl rfl rfl rfl (Bk.all B12) ?_ | refine ldA T_ok rfl rfl rfl rfl rfl (Bk.all B14) ?_ | refine ldA T_ok rfl rfl rfl rfl rfl (Bk.all B16) ?_ | refine ldA T_ok rfl rfl rfl rfl rfl (Bk.all B18) ?_ | refine ld T_ok rfl rfl rfl rfl (Bk.get B4 rfl) ?_ | refine ld T_ok rfl rfl rfl rfl (Bk.get B12 rfl) ?_ | refine ld T_ok rfl rfl rfl rfl (Bk.get B14 rfl) ?_ | refine ld T_ok rfl rfl rfl rfl (Bk.get B16 rfl) ?_ | refine ld T_ok rfl rfl rfl rfl (Bk.get B18 rfl) ?_ | refine gT rfl rfl rfl rfl ?_ | refine gF rfl rfl rfl rfl ?_ | refine condT rfl rfl ?_ | refine condF rfl rfl ?_); refine go T_ok 200 rfl ?_)
 refine remN rfl rfl rfl rfl (by omega) (by omega) ?_
 rw [hrem]
 refine go T_ok 200 rfl ?_
 repeat ((first | refine ldA T_ok rfl rfl rfl rfl rfl (Bk.all B4) ?_ | refine ldA T_ok rfl rfl rfl rfl rfl (Bk.all B12) ?_ | refine ldA T_ok rfl rfl rfl rfl rfl (Bk.all B14) ?_ | refine ldA T_ok rfl rfl rfl rfl rfl (Bk.all B16) ?_ | refine ldA T_ok rfl rfl rfl rfl rfl (Bk.all B18) ?_ | refine ld T_ok rfl rfl rfl rfl (Bk.get B4 rfl) ?_ | refine ld T_ok rfl rfl rfl rfl (Bk.get B12 rfl) ?_ | refine ld T_ok rfl rfl rfl rfl (Bk.get B14 rfl) ?_ | refine ld T_ok rfl rfl rfl rfl (Bk.get B16 rfl) ?_ | refine ld T_ok rfl rfl rfl rfl (Bk.get B18 rfl) ?_ | refine gT rfl rfl rfl rfl ?_ | refine gF rfl rfl rfl rfl ?_ | refine condT rfl rfl ?_ | refine condF rfl rfl ?_); refine go T_ok 200 rfl ?_)
 have qd := Chg.drew w
 refine draw mixed (fun w' => Chg No w w') ([0,1,2,3,4,5,6,7,8,9,10,11,12,13,14,15,16,17,18,19,20,21,22,23,24,25,26,27,28,29,30,31,32,33,34,35,36,37,38].map (fun i => (i, true)) ++ [(39, false)] ++ [40,41].map (fun i => (i, true))) rfl (by kernel_rfl) (Chg.drew _) ?_
 refine goH T_ok 200 rfl ?_
 repeat (first | (refine quietH rfl (fun w' hS => r_load T_ok rfl rfl rfl (Bk.get (B12.no hS) rfl)) ?_; refine goH T_ok 200 rfl ?_) | (refine quietH rfl (fun w' hS => r_load T_ok rfl rfl rfl (Bk.get (B14.no hS) rfl)) ?_; refine goH T_ok 200 rfl ?_) | (refine quietH rfl (fun w' hS => r_load T_ok rfl rfl rfl (Bk.get (B16.no hS) rfl)) ?_; refine goH T_ok 200 rfl ?_) | (refine quietH rfl (fun w' hS => r_load T_ok rfl rfl rfl (Bk.get (B18.no hS) rfl)) ?_; refine goH T_ok 200 rfl ?_) | (refine quietH rfl (fun w' hS => r_load T_ok rfl rfl rfl (Bk.get (B4.no hS) rfl)) ?_; refine goH T_ok 200 rfl ?_) | (refine gTH rfl rfl rfl rfl ?_; refine goH T_ok 200 rfl ?_) | (refine gFH rfl rfl rfl rfl ?_; refine goH T_ok 200 rfl ?_))
 refine quietH rfl (fun w' hS => r_quoN rfl rfl rfl (by omega) (by omega) (by omega)) ?_
 refine goH T_ok 200 rfl ?_
 rw [decide_eq_true alq]
 refine goH T_ok 200 rfl ?_
 repeat (first | (refine quietH rfl (fun w' hS => r_load T_ok rfl rfl rfl (Bk.get (B12.no hS) rfl)) ?_; refine goH T_ok 200 rfl ?_) | (refine quietH rfl (fun w' hS => r_load T_ok rfl rfl rfl (Bk.get (B14.no hS) rfl)) ?_; refine goH T_ok 200 rfl ?_) | (refine quietH rfl (fun w' hS => r_load T_ok rfl rfl rfl (Bk.get (B16.no hS) rfl)) ?_; refine goH T_ok 200 rfl ?_) | (refine quietH rfl (fun w' hS => r_load T_ok rfl rfl rfl (Bk.get (B18.no hS) rfl)) ?_; refine goH T_ok 200 rfl ?_) | (refine quietH rfl (fun w' hS => r_load T_ok rfl rfl rfl (Bk.get (B4.no hS) rfl)) ?_; refine goH T_ok 200 rfl ?_) | (refine gTH rfl rfl rfl rfl ?_; refine goH T_ok 200 rfl ?_) | (refine gFH rfl rfl rfl rfl ?_; refine goH T_ok 200 rfl ?_))
 refine quietH rfl (fun w' hS => r_quoN rfl rfl rfl (by omega) (by omega) (by omega)) ?_
 refine goH T_ok 200 rfl ?_
 rw [decide_eq_true alb]
 refine goH T_ok 200 rfl ?_
 repeat (first | (refine quietH rfl (fun w' hS => r_load T_ok rfl rfl rfl (Bk.get (B12.no hS) rfl)) ?_; refine goH T_ok 200 rfl ?_) | (refine quietH rfl (fun w' hS => r_load T_ok rfl rfl rfl (Bk.get (B14.no hS) rfl)) ?_; refine goH T_ok 200 rfl ?_) | (refine quietH rfl (fun w' hS => r_load T_ok rfl rfl rfl (Bk.get (B16.no hS) rfl)) ?_; refine goH T_ok 200 rfl ?_) | (refine quietH rfl (fun w' hS => r_load T_ok rfl rfl rfl (Bk.get (B18.no hS) rfl)) ?_; refine goH T_ok 200 rfl ?_) | (refine quietH rfl (fun w' hS => r_load T_ok rfl rfl rfl (Bk.get (B4.no hS) rfl)) ?_; refine goH T_ok 200 rfl ?_) | (refine gTH rfl rfl rfl rfl ?_; refine goH T_ok 200 rfl ?_) | (refine gFH rfl rfl rfl rfl ?_; refine goH T_ok 200 rfl ?_))
 rw [decide_eq_true odx.w1]
 refine goH T_ok 200 rfl ?_
 repeat (first | (refine quietH rfl (fun w' hS => r_load T_ok rfl rfl rfl (Bk.get (B12.no hS) rfl)) ?_; refine goH T_ok 200 rfl ?_) | (refine quietH rfl (fun w' hS => r_load T_ok rfl rfl rfl (Bk.get (B14.no hS) rfl)) ?_; refine goH T_ok 200 rfl ?_) | (refine quietH rfl (fun w' hS => r_load T_ok rfl rfl rfl (Bk.get (B16.no hS) rfl)) ?_; refine goH T_ok 200 rfl ?_) | (refine quietH rfl (fun w' hS => r_load T_ok rfl rfl rfl (Bk.get (B18.no hS) rfl)) ?_; refine goH T_ok 200 rfl ?_) | (refine quietH rfl (fun w' hS => r_load T_ok rfl rfl rfl (Bk.get (B4.no hS) rfl)) ?_; refine goH T_ok 200 rfl ?_) | (refine gTH rfl rfl rfl rfl ?_; refine goH T_ok 200 rfl ?_) | (refine gFH rfl rfl rfl rfl ?_; refine goH T_ok 200 rfl ?_))
 refine quietH rfl (fun w' hS => r_quoN rfl rfl rfl (by omega) (by omega) (by omega)) ?_
 refine goH T_ok 200 rfl ?_
 repeat (first | (refine quietH rfl (fun w' hS => r_load T_ok rfl rfl rfl (Bk.get (B12.no hS) rfl)) ?_; refine goH T_ok 200 rfl ?_) | (refine quietH rfl (fun w' hS => r_load T_ok rfl rfl rfl (Bk.get (B14.no hS) rfl)) ?_; refine goH T_ok 200 rfl ?_) | (refine quietH rfl (fun w' hS => r_load T_ok rfl rfl rfl (Bk.get (B16.no hS) rfl)) ?_; refine goH T_ok 200 rfl ?_) | (refine quietH rfl (fun w' hS => r_load T_ok rfl rfl rfl (Bk.get (B18.no hS) rfl)) ?_; refine goH T_ok 200 rfl ?_) | (refine quietH rfl (fun w' hS => r_load T_ok rfl rfl rfl (Bk.get (B4.no hS) rfl)) ?_; refine goH T_ok 200 rfl ?_) | (refine gTH rfl rfl rfl rfl ?_; refine goH T_ok 200 rfl ?_) | (refine gFH rfl rfl rfl rfl ?_; refine goH T_ok 200 rfl ?_))
 rw [w64_id (x := ox.1 * (oy.2 / ox.2)) (by omega) (by omega), decide_eq_true hmul]
 refine goH T_ok 200 rfl ?_
 repeat (first | (refine quietH rfl (fun w' hS => r_load T_ok rfl rfl rfl (Bk.get (B12.no hS) rfl)) ?_; refine goH T_ok 200 rfl ?_) | (refine quietH rfl (fun w' hS => r_load T_ok rfl rfl rfl (Bk.get (B14.no hS) rfl)) ?_; refine goH T_ok 200 rfl ?_) | (refine quietH rfl (fun w' hS => r_load T_ok rfl rfl rfl (Bk.get (B16.no hS) rfl)) ?_; refine goH T_ok 200 rfl ?_) | (refine quietH rfl (fun w' hS => r_load T_ok rfl rfl rfl (Bk.get (B18.no hS) rfl)) ?_; refine goH T_ok 200 rfl ?_) | (refine quietH rfl (fun w' hS => r_load T_ok rfl rfl rfl (Bk.get (B4.no hS) rfl)) ?_; refine goH T_ok 200 rfl ?_) | (refine gTH rfl rfl rfl rfl ?_; refine goH T_ok 200 rfl ?_) | (refine gFH rfl rfl rfl rfl ?_; refine goH T_ok 200 rfl ?_))
 refine callE rfl rfl rfl (ok _ (by decide) rfl) (known_any _) ?_
 rintro x w3 ⟨rfl, qk⟩
 have qd := qd.trans qk
 refine ⟨qd, ?_⟩
 refine goH T_ok 200 rfl ?_
 repeat (first | (refine gTH rfl rfl rfl rfl ?_; refine goH T_ok 200 rfl ?_) | (refine gFH rfl rfl rfl rfl ?_; refine goH T_ok 200 rfl ?_))
 refine endH ?_
 refine go T_ok 200 rfl ?_
 exact ret (ret1 (v := .bool true) Try.results6 rfl ⟨rfl, q.trans qd⟩)
end Go.Proofs.Yteenhfnamjbaiaa
