/- The contracts of tours that are as defined. -/
import Derived.Test.YteenhfnamjbaiaaCM
import Derived.Test.YteenhfnamjbaiaaSM
import Derived.Test.YteenhfnamjbaiaaQC
namespace Go.Proofs.Yteenhfnamjbaiaa
open Go.Ev Go.Proofs
open Go.Camp (Cl wayT stopT TrOk begT okT leaveT endT begs getE moreR Ms)
attribute [local irreducible] At AtH
def TR : Tab := [(56, .str 2 [(0,1,false),(1,1,false)] [.slice none 0 0, .slice none 0 0]), (53, .slc 25 1 24), (54, .slc 148 3 24), (148, .str 3 [(0,1,false),(1,1,false),(2,1,false)] [I 0, I 0, I 0]), (142, .arr 256 9 true), (141, .arr 9 1 false), (143, .one)] ++ T
theorem TR_ok : tabOk Try.prog TR = true := by kernel_rfl
def clL (c : Cl) : List Value := [I c.opn, I c.due, I c.work]
theorem clL_len (c : Cl) : (clL c).length = 3 := rfl
def slI (s : Sli Int) : List Value := [.slice s.A s.l.length s.c]
theorem slI_len (s : Sli Int) : (slI s).length = 1 := rfl
/-- a tour's value: its ways and stops, where they lie -/
structure Tm where
 W : Sli (Sli Int)
 S : Sli Cl
def trP (m : Tm) : Go.Camp.Tr := ⟨m.W.l.map (·.l), m.S.l⟩
def tmL (m : Tm) : List Value := [.slice m.W.A m.W.l.length m.W.c, .slice m.S.A m.S.l.length m.S.c]
/-- a tour in memory, below some block -/
structure TrM (w : World) (B : Nat) (m : Tm) : Prop where
 w1 : Sl w B 1 m.W.A m.W.l.length (m.W.l.flatMap slI)
 w2 : ∀ s ∈ m.W.l, Sl w B 1 s.A s.l.length (iL s.l) ∧ s.l.length ≤ 9223372036854775807
 s : Sl w B 3 m.S.A m.S.l.length (m.S.l.flatMap clL)
 lw : m.W.l.length ≤ 9223372036854775807
 ls : m.S.l.length ≤ 9223372036854775807
theorem TrM.keep {w w' : World} {B : Nat} {m : Tm} {M : Nat → Prop} (h : TrM w B m) (c : Chg M w w') (hm : ∀ k, k < B → ¬ M k) : TrM w' B m :=
 ⟨h.w1.keep c hm, fun s hs => ⟨(h.w2 s hs).1.keep c hm, (h.w2 s hs).2⟩, h.s.keep c hm, h.lw, h.ls⟩
theorem TrM.no {w w' : World} {B : Nat} {m : Tm} (h : TrM w B m) (c : Chg No w w') : TrM w' B m := h.keep c fun _ _ h => h
def Way (x : Int) : Prop := 0 ≤ x ∧ x ≤ 1000000
theorem far_any (x : Int) (w : World) : Ret Try.prog 113 [I x] w fun v w' => v = .bool (!(decide (0 ≤ x ∧ x ≤ 1000000))) ∧ w = w' := by
 refine enter Try.func113 rfl Try.ntmps113 rfl ?_
 refine go TR_ok 200 rfl ?_
 refine call rfl rfl rfl (ok _ (by decide) rfl) (within_any x 0 1000000 _) ?_
 rintro v w ⟨rfl, rfl⟩
 refine go TR_ok 200 rfl ?_
 exact ret (ret1 (v := .bool _) Try.results113 rfl ⟨rfl, rfl⟩)
theorem idxFar_any (l : List Int) (A : Option Addr) (c B : Nat) (w0 : World) (h : Sl w0 B 1 A l.length (iL l)) (hl : l.length ≤ 9223372036854775807) :
  Ret Try.prog 132 [.slice A l.length c, .func (.func 113) #[] #[]] w0 fun v w' => w0 = w' ∧ ∃ r : Int, v = I r ∧ (0 ≤ r ↔ ¬ ∀ x ∈ l, 0 ≤ x ∧ x ≤ 1000000) := by
 refine enter Try.func132 rfl Try.ntmps132 rfl ?_
 refine go TR_ok 200 rfl ?_
 refine loop [0, 1, 7, 8] (fun j : Nat => [.slice A l.length c, .func (.func 113) #[] #[], .int .i64 (l.length : Int), .int .i64 (j : Int)])
  (fun j w' => w0 = w' ∧ j ≤ l.length ∧ ∀ i x, i < j → l[i]? = some x → 0 ≤ x ∧ x ≤ 1000000) (fun j => l.length - j) 0 (fun _ => rfl) rfl ⟨rfl, Nat.zero_le _, fun i x h => absurd h (Nat.not_lt_zero _)⟩ ?_
 rintro j τ w ⟨rfl, hj, hm⟩
 refine go TR_ok 200 rfl ?_
 refine condD rfl (fun hlt => ?_) (fun hlt => ?_)
 ·have hlt : j < l.length := by omega
  obtain ⟨x, hx⟩ := getA_of hlt
  obtain ⟨b1, o1, hA1, hb1, hc1⟩ := h.elI hx
  refine go TR_ok 200 rfl ?_
  rw [hA1]
  refine idx TR_ok rfl rfl rfl rfl rfl j rfl hlt ?_
  refine go TR_ok 200 rfl ?_
  refine ld TR_ok rfl rfl rfl rfl (hc1) ?_
  refine go TR_ok 200 rfl ?_
  rw [← hA1]
  refine call rfl rfl rfl (ok _ (by decide) rfl) (far_any x _) ?_
  rintro v w ⟨rfl, rfl⟩
  by_cases hxx : 0 ≤ x ∧ x ≤ 1000000
  ·rw [decide_eq_true hxx]
   refine go TR_ok 200 rfl ?_
   refine condF rfl rfl ?_
   refine go TR_ok 200 rfl ?_
   rw [w64_id (x := (j : Int) + 1) (by omega) (by omega)]
   refine round ⟨j + 1, rfl, ⟨rfl, by omega, fun i y hi hy => ?_⟩, by omega⟩
   rcases Nat.lt_or_ge i j with h' | h'
   ·exact hm i y h' hy
   ·obtain rfl : i = j := by omega
    rw [hx] at hy; cases hy; exact hxx
  ·rw [decide_eq_false hxx]
   refine go TR_ok 200 rfl ?_
   refine condT rfl rfl ?_
   refine go TR_ok 200 rfl ?_
   exact ret (ret1 (v := I _) Try.results132 rfl ⟨rfl, _, rfl, fun _ h => hxx (h x (List.mem_of_getElem? hx)), fun _ => by omega⟩)
 ·obtain rfl : j = l.length := by omega
  refine go TR_ok 200 rfl ?_
  refine ret (ret1 (v := I _) Try.results132 rfl ⟨rfl, _, rfl, fun h => by omega, fun h => absurd (fun x hx => ?_) h⟩)
  obtain ⟨i, hi, rfl⟩ := List.getElem_of_mem hx
  exact hm i _ hi (List.getElem?_eq_getElem hi)
theorem hasFar_any (l : List Int) (A : Option Addr) (c B : Nat) (w0 : World) (h : Sl w0 B 1 A l.length (iL l)) (hl : l.length ≤ 9223372036854775807) :
  Ret Try.prog 112 [.slice A l.length c, .func (.func 113) #[] #[]] w0 fun v w' => w0 = w' ∧ ∃ b, v = .bool b ∧ (b = true ↔ ¬ ∀ x ∈ l, 0 ≤ x ∧ x ≤ 1000000) := by
 refine enter Try.func112 rfl Try.ntmps112 rfl ?_
 refine go TR_ok 200 rfl ?_
 refine call rfl rfl rfl (ok _ (by decide) rfl) (idxFar_any l A c B _ h hl) ?_
 rintro v w ⟨rfl, r, rfl, hr⟩
 refine go TR_ok 200 rfl ?_
 exact ret (ret1 (v := .bool _) Try.results112 rfl ⟨rfl, _, rfl, by rw [decide_eq_true_iff]; exact hr⟩)
end Go.Proofs.Yteenhfnamjbaiaa
namespace Go.Proofs.Yteenhfnamjbaiaa
open Go.Ev Go.Proofs
open Go.Camp (Cl wayT stopT TrOk begT okT leaveT endT begs getE moreR Ms)
attribute [local irreducible] At AtH
def ClOk (c : Cl) : Prop := (0 ≤ c.opn ∧ c.opn ≤ c.due) ∧ c.due ≤ 1000000 ∧ 0 ≤ c.work ∧ c.work ≤ 1000000
def RowOk (n : Nat) (l : List Int) : Prop := l.length = n + 1 ∧ ∀ x ∈ l, 0 ≤ x ∧ x ≤ 1000000
set_option maxRecDepth 20000 in
set_option maxHeartbeats 8000000 in
theorem toured_any (m : Tm) (B : Nat) (w0 : World) (H : TrM w0 B m) : Ret Try.prog 82 [.agg (tmL m).toArray] w0 fun v w' => (∃ b, v = .bool b ∧ (b = true ↔ TrOk (trP m))) ∧ Chg No w0 w' := by
 have lw := H.lw
 have ls := H.ls
 refine enter Try.func82 rfl Try.ntmps82 rfl ?_
 refine go TR_ok 200 rfl ?_
 refine bx rfl rfl rfl (cs := tmL m) rfl ?_
 intro g1 u1 hg1 hs1 q1 B1
 have q := q1
 refine go TR_ok 200 rfl ?_
 repeat ((first | refine ldA TR_ok rfl rfl rfl rfl rfl (Bk.all B1) ?_ | refine ld TR_ok rfl rfl rfl rfl (Bk.get B1 rfl) ?_ | refine gT rfl rfl rfl rfl ?_ | refine gF rfl rfl rfl rfl ?_ | refine condT rfl rfl ?_ | refine condF rfl rfl ?_); refine go TR_ok 200 rfl ?_)
 refine call rfl rfl rfl (ok _ (by decide) rfl) (within_any (m.S.l.length : Int) 1 8 _) ?_
 rintro x w ⟨rfl, rfl⟩
 by_cases h1 : 1 ≤ (m.S.l.length : Int) ∧ (m.S.l.length : Int) ≤ 8
 case neg =>
  rw [decide_eq_false h1]
  refine go TR_ok 200 rfl ?_
  repeat ((first | refine ldA TR_ok rfl rfl rfl rfl rfl (Bk.all B1) ?_ | refine ld TR_ok rfl rfl rfl rfl (Bk.get B1 rfl) ?_ | refine gT rfl rfl rfl rfl ?_ | refine gF rfl rfl rfl rfl ?_ | refine condT rfl rfl ?_ | refine condF rfl rfl ?_); refine go TR_ok 200 rfl ?_)
  exact ret (ret1 (v := .bool false) Try.results82 rfl ⟨⟨false, rfl, by simp; exact fun h => h1 ⟨by have : 1 ≤ m.S.l.length := h.n1; omega, by have : m.S.l.length ≤ 8 := h.n8; omega⟩⟩, q⟩)
 rw [decide_eq_true h1]
 refine go TR_ok 200 rfl ?_
 repeat ((first | refine ldA TR_ok rfl rfl rfl rfl rfl (Bk.all B1) ?_ | refine ld TR_ok rfl rfl rfl rfl (Bk.get B1 rfl) ?_ | refine gT rfl rfl rfl rfl ?_ | refine gF rfl rfl rfl rfl ?_ | refine condT rfl rfl ?_ | refine condF rfl rfl ?_); refine go TR_ok 200 rfl ?_)
 rw [w64_id (x := (m.S.l.length : Int) + 1) (by omega) (by omega)]
 by_cases h2 : m.W.l.length = m.S.l.length + 1
 case neg =>
  have e : ((m.W.l.length : Int) != (m.S.l.length : Int) + 1) = true := by simp; omega
  rw [e]
  refine go TR_ok 200 rfl ?_
  repeat ((first | refine ldA TR_ok rfl rfl rfl rfl rfl (Bk.all B1) ?_ | refine ld TR_ok rfl rfl rfl rfl (Bk.get B1 rfl) ?_ | refine gT rfl rfl rfl rfl ?_ | refine gF rfl rfl rfl rfl ?_ | refine condT rfl rfl ?_ | refine condF rfl rfl ?_); refine go TR_ok 200 rfl ?_)
  exact ret (ret1 (v := .bool false) Try.results82 rfl ⟨⟨false, rfl, by simp; exact fun h => h2 (by have := h.w; simpa [trP] using this)⟩, q⟩)
 have e : ((m.W.l.length : Int) != (m.S.l.length : Int) + 1) = false := by simp; omega
 rw [e]
 refine go TR_ok 200 rfl ?_
 repeat ((first | refine ldA TR_ok rfl rfl rfl rfl rfl (Bk.all B1) ?_ | refine ld TR_ok rfl rfl rfl rfl (Bk.get B1 rfl) ?_ | refine gT rfl rfl rfl rfl ?_ | refine gF rfl rfl rfl rfl ?_ | refine condT rfl rfl ?_ | refine condF rfl rfl ?_); refine go TR_ok 200 rfl ?_)
 refine loop [1, 3, 23, 24, 25] (fun j : Nat => [.pointer (some ⟨g1, 0, none⟩), I (m.S.l.length : Int), .slice m.W.A m.W.l.length m.W.c, .int .i64 (m.W.l.length : Int), .int .i64 (j : Int)])
  (fun j w' => j ≤ m.W.l.length ∧ Chg No w0 w' ∧ Bk w' g1 56 (tmL m) ∧ ∀ i s, i < j → m.W.l[i]? = some s → RowOk m.S.l.length s.l) (fun j => m.W.l.length - j) 0 (fun _ => rfl) rfl ⟨Nat.zero_le _, q, B1, fun i s h => absurd h (Nat.not_lt_zero _)⟩ ?_
 rintro j τ w ⟨hj, q, B1, hm⟩
 have H1 := H.no q
 refine go TR_ok 200 rfl ?_
 repeat ((first | refine ldA TR_ok rfl rfl rfl rfl rfl (Bk.all B1) ?_ | refine ld TR_ok rfl rfl rfl rfl (Bk.get B1 rfl) ?_ | refine gT rfl rfl rfl rfl ?_ | refine gF rfl rfl rfl rfl ?_ | refine condT rfl rfl ?_ | refine condF rfl rfl ?_); refine go TR_ok 200 rfl ?_)
 refine condD rfl (fun hlt => ?_) (fun hlt => ?_)
 ·have hlt : j < m.W.l.length := by omega
  obtain ⟨s, hs⟩ := getA_of hlt
  obtain ⟨b1, o1, hA1, hb1, hc1⟩ := Sl.el H1.w1 slI_len hs
  have hmem := List.mem_of_getElem? hs
  obtain ⟨S2, l2⟩ := H1.w2 s hmem
  have hmp : s.l ∈ (trP m).ways := List.mem_map.2 ⟨s, hmem, rfl⟩
  refine go TR_ok 200 rfl ?_
  rw [hA1]
  refine idx TR_ok rfl rfl rfl rfl rfl j rfl hlt ?_
  refine go TR_ok 200 rfl ?_
  refine ld TR_ok rfl rfl rfl rfl (hc1.get (i := 0) rfl) ?_
  refine go TR_ok 200 rfl ?_
  rw [← hA1]
  rw [w64_id (x := (m.S.l.length : Int) + 1) (by omega) (by omega)]
  by_cases h3 : s.l.length = m.S.l.length + 1
  case neg =>
   have e : ((s.l.length : Int) != (m.S.l.length : Int) + 1) = true := by simp; omega
   rw [e]
   refine go TR_ok 200 rfl ?_
   repeat ((first | refine ldA TR_ok rfl rfl rfl rfl rfl (Bk.all B1) ?_ | refine ld TR_ok rfl rfl rfl rfl (Bk.get B1 rfl) ?_ | refine gT rfl rfl rfl rfl ?_ | refine gF rfl rfl rfl rfl ?_ | refine condT rfl rfl ?_ | refine condF rfl rfl ?_); refine go TR_ok 200 rfl ?_)
   exact ret (ret1 (v := .bool false) Try.results82 rfl ⟨⟨false, rfl, by simp; exact fun h => h3 (h.r s.l hmp).1⟩, q⟩)
  have e : ((s.l.length : Int) != (m.S.l.length : Int) + 1) = false := by simp; omega
  rw [e]
  refine go TR_ok 200 rfl ?_
  repeat ((first | refine ldA TR_ok rfl rfl rfl rfl rfl (Bk.all B1) ?_ | refine ld TR_ok rfl rfl rfl rfl (Bk.get B1 rfl) ?_ | refine gT rfl rfl rfl rfl ?_ | refine gF rfl rfl rfl rfl ?_ | refine condT rfl rfl ?_ | refine condF rfl rfl ?_); refine go TR_ok 200 rfl ?_)
  refine call rfl rfl rfl (ok _ (by decide) rfl) (hasFar_any s.l s.A s.c B _ S2 l2) ?_
  rintro x w ⟨rfl, b, rfl, hb⟩
  cases b with
  | true =>
   refine go TR_ok 200 rfl ?_
   repeat ((first | refine ldA TR_ok rfl rfl rfl rfl rfl (Bk.all B1) ?_ | refine ld TR_ok rfl rfl rfl rfl (Bk.get B1 rfl) ?_ | refine gT rfl rfl rfl rfl ?_ | refine gF rfl rfl rfl rfl ?_ | refine condT rfl rfl ?_ | refine condF rfl rfl ?_); refine go TR_ok 200 rfl ?_)
   exact ret (ret1 (v := .bool false) Try.results82 rfl ⟨⟨false, rfl, by simp; exact fun h => (hb.1 rfl) (h.r s.l hmp).2⟩, q⟩)
  | false =>
   have hall : ∀ x ∈ s.l, 0 ≤ x ∧ x ≤ 1000000 := by
    refine Classical.byContradiction fun h => ?_
    have := hb.2 h
    cases this
   refine go TR_ok 200 rfl ?_
   repeat ((first | refine ldA TR_ok rfl rfl rfl rfl rfl (Bk.all B1) ?_ | refine ld TR_ok rfl rfl rfl rfl (Bk.get B1 rfl) ?_ | refine gT rfl rfl rfl rfl ?_ | refine gF rfl rfl rfl rfl ?_ | refine condT rfl rfl ?_ | refine condF rfl rfl ?_); refine go TR_ok 200 rfl ?_)
   rw [w64_id (x := (j : Int) + 1) (by omega) (by omega)]
   refine round ⟨j + 1, rfl, ⟨by omega, q, B1, fun i s' hi hs' => ?_⟩, by omega⟩
   rcases Nat.lt_or_ge i j with h' | h'
   ·exact hm i s' h' hs'
   ·obtain rfl : i = j := by omega
    rw [hs] at hs'; cases hs'
    exact ⟨h3, hall⟩
 obtain rfl : j = m.W.l.length := by omega
 have hrows : ∀ l ∈ (trP m).ways, RowOk m.S.l.length l := fun l hl => by
  obtain ⟨s, hs, rfl⟩ := List.mem_map.1 hl
  obtain ⟨i, hi, rfl⟩ := List.getElem_of_mem hs
  exact hm i _ hi (List.getElem?_eq_getElem hi)
 refine go TR_ok 200 rfl ?_
 repeat ((first | refine ldA TR_ok rfl rfl rfl rfl rfl (Bk.all B1) ?_ | refine ld TR_ok rfl rfl rfl rfl (Bk.get B1 rfl) ?_ | refine gT rfl rfl rfl rfl ?_ | refine gF rfl rfl rfl rfl ?_ | refine condT rfl rfl ?_ | refine condF rfl rfl ?_); refine go TR_ok 200 rfl ?_)
 refine loop [1, 40, 41, 42] (fun j : Nat => [.pointer (some ⟨g1, 0, none⟩), .slice m.S.A m.S.l.length m.S.c, .int .i64 (m.S.l.length : Int), .int .i64 (j : Int)])
  (fun j w' => j ≤ m.S.l.length ∧ Chg No w0 w' ∧ ∀ i c, i < j → m.S.l[i]? = some c → ClOk c) (fun j => m.S.l.length - j) 0 (fun _ => rfl) rfl ⟨Nat.zero_le _, q, fun i s h => absurd h (Nat.not_lt_zero _)⟩ ?_
 rintro j τ w ⟨hj, q, hm2⟩
 have H1 := H.no q
 refine go TR_ok 200 rfl ?_
 repeat ((first | refine gT rfl rfl rfl rfl ?_ | refine gF rfl rfl rfl rfl ?_ | refine condT rfl rfl ?_ | refine condF rfl rfl ?_); refine go TR_ok 200 rfl ?_)
 refine condD rfl (fun hlt => ?_) (fun hlt => ?_)
 ·have hlt : j < m.S.l.length := by omega
  obtain ⟨c, hcl⟩ := getA_of hlt
  have hmem : c ∈ (trP m).stops := List.mem_of_getElem? hcl
  obtain ⟨b1, o1, hA1, hb1, hc1⟩ := Sl.el H1.s clL_len hcl
  refine go TR_ok 200 rfl ?_
  rw [hA1]
  refine idx TR_ok rfl rfl rfl rfl rfl j rfl hlt ?_
  refine go TR_ok 200 rfl ?_
  refine ldA TR_ok rfl rfl rfl rfl rfl hc1 ?_
  refine go TR_ok 200 rfl ?_
  rw [← hA1]
  have yq := q.size
  refine nw rfl rfl (z := .agg #[I 0, I 0, I 0]) (by kernel_rfl) (cs := [I 0, I 0, I 0]) rfl ?_
  intro g7 w hg7 hs7 qk B7
  have q := q.trans qk
  refine go TR_ok 200 rfl ?_
  refine stA TR_ok rfl rfl rfl rfl (vs := clL c) rfl rfl rfl B7 rfl ?_
  intro w qk B7 hz7
  have B7 : Bk w g7 148 (clL c) := B7
  have q := q.step qk (fun k hk e => by omega)
  refine go TR_ok 200 rfl ?_
  repeat ((first | refine ldA TR_ok rfl rfl rfl rfl rfl (Bk.all B7) ?_ | refine ld TR_ok rfl rfl rfl rfl (Bk.get B7 rfl) ?_ | refine gT rfl rfl rfl rfl ?_ | refine gF rfl rfl rfl rfl ?_ | refine condT rfl rfl ?_ | refine condF rfl rfl ?_); refine go TR_ok 200 rfl ?_)
  refine call rfl rfl rfl (ok _ (by decide) rfl) (within_any c.opn 0 c.due _) ?_
  rintro x w ⟨rfl, rfl⟩
  by_cases h4 : 0 ≤ c.opn ∧ c.opn ≤ c.due
  case neg =>
   rw [decide_eq_false h4]
   refine go TR_ok 200 rfl ?_
   repeat ((first | refine ldA TR_ok rfl rfl rfl rfl rfl (Bk.all B7) ?_ | refine ld TR_ok rfl rfl rfl rfl (Bk.get B7 rfl) ?_ | refine gT rfl rfl rfl rfl ?_ | refine gF rfl rfl rfl rfl ?_ | refine condT rfl rfl ?_ | refine condF rfl rfl ?_); refine go TR_ok 200 rfl ?_)
   exact ret (ret1 (v := .bool false) Try.results82 rfl ⟨⟨false, rfl, by simp; exact fun h => h4 (h.s c hmem).1⟩, q⟩)
  rw [decide_eq_true h4]
  refine go TR_ok 200 rfl ?_
  repeat ((first | refine ldA TR_ok rfl rfl rfl rfl rfl (Bk.all B7) ?_ | refine ld TR_ok rfl rfl rfl rfl (Bk.get B7 rfl) ?_ | refine gT rfl rfl rfl rfl ?_ | refine gF rfl rfl rfl rfl ?_ | refine condT rfl rfl ?_ | refine condF rfl rfl ?_); refine go TR_ok 200 rfl ?_)
  by_cases h5 : 1000000 < c.due
  ·rw [decide_eq_true h5]
   refine go TR_ok 200 rfl ?_
   repeat ((first | refine ldA TR_ok rfl rfl rfl rfl rfl (Bk.all B7) ?_ | refine ld TR_ok rfl rfl rfl rfl (Bk.get B7 rfl) ?_ | refine gT rfl rfl rfl rfl ?_ | refine gF rfl rfl rfl rfl ?_ | refine condT rfl rfl ?_ | refine condF rfl rfl ?_); refine go TR_ok 200 rfl ?_)
   exact ret (ret1 (v := .bool false) Try.results82 rfl ⟨⟨false, rfl, by simp; exact fun h => (by have := (h.s c hmem).2.1; omega)⟩, q⟩)
  rw [decide_eq_false h5]
  refine go TR_ok 200 rfl ?_
  repeat ((first | refine ldA TR_ok rfl rfl rfl rfl rfl (Bk.all B7) ?_ | refine ld TR_ok rfl rfl rfl rfl (Bk.get B7 rfl) ?_ | refine gT rfl rfl rfl rfl ?_ | refine gF rfl rfl rfl rfl ?_ | refine condT rfl rfl ?_ | refine condF rfl rfl ?_); refine go TR_ok 200 rfl ?_)
  refine call rfl rfl rfl (ok _ (by decide) rfl) (within_any c.work 0 1000000 _) ?_
  rintro x w ⟨rfl, rfl⟩
  by_cases h6 : 0 ≤ c.work ∧ c.work ≤ 1000000
  case neg =>
   rw [decide_eq_false h6]
   refine go TR_ok 200 rfl ?_
   repeat ((first | refine ldA TR_ok rfl rfl rfl rfl rfl (Bk.all B7) ?_ | refine ld TR_ok rfl rfl rfl rfl (Bk.get B7 rfl) ?_ | refine gT rfl rfl rfl rfl ?_ | refine gF rfl rfl rfl rfl ?_ | refine condT rfl rfl ?_ | refine condF rfl rfl ?_); refine go TR_ok 200 rfl ?_)
   exact ret (ret1 (v := .bool false) Try.results82 rfl ⟨⟨false, rfl, by simp; exact fun h => h6 (h.s c hmem).2.2⟩, q⟩)
  rw [decide_eq_true h6]
  refine go TR_ok 200 rfl ?_
  repeat ((first | refine ldA TR_ok rfl rfl rfl rfl rfl (Bk.all B7) ?_ | refine ld TR_ok rfl rfl rfl rfl (Bk.get B7 rfl) ?_ | refine gT rfl rfl rfl rfl ?_ | refine gF rfl rfl rfl rfl ?_ | refine condT rfl rfl ?_ | refine condF rfl rfl ?_); refine go TR_ok 200 rfl ?_)
  rw [w64_id (x := (j : Int) + 1) (by omega) (by omega)]
  refine round ⟨j + 1, rfl, ⟨by omega, q, fun i c' hi hc' => ?_⟩, by omega⟩
  rcases Nat.lt_or_ge i j with h' | h'
  ·exact hm2 i c' h' hc'
  ·obtain rfl : i = j := by omega
   rw [hcl] at hc'; cases hc'
   exact ⟨h4, by omega, h6⟩
 obtain rfl : j = m.S.l.length := by omega
 have hcls : ∀ c ∈ (trP m).stops, ClOk c := fun c hcm => by
  have hcm : c ∈ m.S.l := hcm
  obtain ⟨i, hi, rfl⟩ := List.getElem_of_mem hcm
  exact hm2 i _ hi (List.getElem?_eq_getElem hi)
 have hok : TrOk (trP m) := ⟨by show 1 ≤ m.S.l.length; omega, by show m.S.l.length ≤ 8; omega, by simpa [trP] using h2, hrows, hcls⟩
 refine go TR_ok 200 rfl ?_
 exact ret (ret1 (v := .bool true) Try.results82 rfl ⟨⟨true, rfl, by simp; exact hok⟩, q⟩)
/-- what is read of a tour that is as defined -/
theorem way_at {m : Tm} (h : TrOk (trP m)) {p q : Nat} (hp : p ≤ m.S.l.length) (hq : q ≤ m.S.l.length) : ∃ s, m.W.l[p]? = some s ∧ s.l.length = m.S.l.length + 1 ∧ s.l[q]? = some (wayT (trP m) p q) ∧ 0 ≤ wayT (trP m) p q ∧ wayT (trP m) p q ≤ 1000000 := by
 have hw : m.W.l.length = m.S.l.length + 1 := by have := h.w; simpa [trP] using this
 obtain ⟨s, hs⟩ := getA_of (l := m.W.l) (i := p) (by omega)
 have hmp : s.l ∈ (trP m).ways := List.mem_map.2 ⟨s, List.mem_of_getElem? hs, rfl⟩
 obtain ⟨hl, hb⟩ := h.r s.l hmp
 have hl : s.l.length = m.S.l.length + 1 := hl
 obtain ⟨x, hx⟩ := getA_of (l := s.l) (i := q) (by omega)
 have e : wayT (trP m) p q = x := by
  unfold wayT trP
  simp only [List.getElem?_map, hs, Option.map_some, Option.bind_some, hx, Option.getD_some]
 rw [e]
 exact ⟨s, hs, hl, hx, hb x (List.mem_of_getElem? hx)⟩
theorem stop_at {m : Tm} (h : TrOk (trP m)) {i : Nat} (hi : i < m.S.l.length) : m.S.l[i]? = some (stopT (trP m) i) ∧ ClOk (stopT (trP m) i) := by
 obtain ⟨c, hcl⟩ := getA_of hi
 have e : stopT (trP m) i = c := by unfold stopT trP; simp only [hcl, Option.getD_some]
 rw [e]
 exact ⟨hcl, h.s c (List.mem_of_getElem? hcl)⟩
end Go.Proofs.Yteenhfnamjbaiaa
namespace Go.Proofs.Yteenhfnamjbaiaa
open Go.Ev Go.Proofs
open Go.Camp (Cl wayT stopT TrOk begT okT leaveT endT begs getE moreR Ms)
attribute [local irreducible] At AtH
set_option maxRecDepth 20000 in
set_option maxHeartbeats 8000000 in
theorem visit_any (m : Tm) (p i : Nat) (x : Int) (B : Nat) (w0 : World) (H : TrM w0 B m) (h : TrOk (trP m)) (hp : p ≤ m.S.l.length) (hi : i < m.S.l.length) (x0 : 0 ≤ x) (x1 : x ≤ 2000000) :
  Ret Try.prog 85 [.agg (tmL m).toArray, I (p : Int), I (i : Int), I x] w0 fun v w' => v = .tuple #[I (begT (trP m) p i x), I (leaveT (trP m) p i x), .bool (okT (trP m) p i x)] ∧ Chg No w0 w' := by
 have n8 : m.S.l.length ≤ 8 := h.n8
 have hw : m.W.l.length = m.S.l.length + 1 := by have := h.w; simpa [trP] using this
 obtain ⟨s, hs, hsl, hsx, hx0, hx1⟩ := way_at h hp (show i + 1 ≤ m.S.l.length by omega)
 obtain ⟨hst, hcl⟩ := stop_at h hi
 have hbg : begT (trP m) p i x = max (stopT (trP m) i).opn (x + wayT (trP m) p (i + 1)) := rfl
 have hok : okT (trP m) p i x = decide (begT (trP m) p i x ≤ (stopT (trP m) i).due) := rfl
 have hlv : leaveT (trP m) p i x = begT (trP m) p i x + (stopT (trP m) i).work := rfl
 rw [hok, hlv, hbg]
 generalize wayT (trP m) p (i + 1) = y at *
 generalize stopT (trP m) i = c at *
 obtain ⟨⟨c1, c2⟩, c3, c4, c5⟩ := hcl
 refine enter Try.func85 rfl Try.ntmps85 rfl ?_
 refine go TR_ok 200 rfl ?_
 refine bx rfl rfl rfl (cs := tmL m) rfl ?_
 intro g4 u4 hg4 hs4 q4 B4
 have q := q4
 refine go TR_ok 200 rfl ?_
 repeat ((first | refine ldA TR_ok rfl rfl rfl rfl rfl (Bk.all B4) ?_ | refine ld TR_ok rfl rfl rfl rfl (Bk.get B4 rfl) ?_ | refine gT rfl rfl rfl rfl ?_ | refine gF rfl rfl rfl rfl ?_ | refine condT rfl rfl ?_ | refine condF rfl rfl ?_); refine go TR_ok 200 rfl ?_)
 have H1 := H.no q
 obtain ⟨b1, o1, hA1, hb1, hc1⟩ := Sl.el H1.s clL_len hst
 rw [hA1]
 refine idx TR_ok rfl rfl rfl rfl rfl i rfl hi ?_
 refine go TR_ok 200 rfl ?_
 refine ldA TR_ok rfl rfl rfl rfl rfl hc1 ?_
 rw [← hA1]
 refine go TR_ok 200 rfl ?_
 have yB4 := B4.lt
 have yq := q.size
 refine nw rfl rfl (z := .agg #[I 0, I 0, I 0]) (by kernel_rfl) (cs := [I 0, I 0, I 0]) rfl ?_
 intro g11 w hg11 hs11 qk B11
 have B4 := B4.no qk
 have q := q.trans qk
 refine go TR_ok 200 rfl ?_
 refine stA TR_ok rfl rfl rfl rfl (vs := clL c) rfl rfl rfl B11 rfl ?_
 intro w qk B11 hz11
 have B11 : Bk w g11 148 (clL c) := B11
 have B4 := Bk.keep B4 qk (by omega)
 have q := q.step qk (fun k hk e => by omega)
 have H2 := H.no q
 obtain ⟨b2, o2, hA2, hb2, hc2⟩ := Sl.el H2.w1 slI_len hs
 obtain ⟨b3, o3, hA3, hb3, hc3⟩ := (H2.w2 s (List.mem_of_getElem? hs)).1.elI hsx
 have hBB := H2.w1.2.1
 refine go TR_ok 200 rfl ?_
 refine draw mixed (fun w' => Chg No w w') ([0,1,2,3,4,5,6,7,8,9,10,11,12,13,14].map (fun i => (i, true))) rfl (by kernel_rfl) (Chg.drew _) ?_
 refine goH TR_ok 200 rfl ?_
 repeat (first | (refine quietH rfl (fun w' hS => r_load TR_ok rfl rfl rfl (Bk.get (B4.no hS) rfl)) ?_; refine goH TR_ok 200 rfl ?_) | (refine quietH rfl (fun w' hS => r_load TR_ok rfl rfl rfl (Bk.get (B11.no hS) rfl)) ?_; refine goH TR_ok 200 rfl ?_))
 rw [hA2]
 refine quietH rfl (fun w' hS => r_idx TR_ok rfl rfl rfl rfl p rfl (by omega)) ?_
 refine goH TR_ok 200 rfl ?_
 refine quietH rfl (fun w' hS => r_load TR_ok rfl rfl rfl ((hc2.keep (by omega) hS (fun h => h)).get (i := 0) rfl)) ?_
 rw [← hA2]
 refine goH TR_ok 200 rfl ?_
 rw [w64_id (x := (i : Int) + 1) (by omega) (by omega), hA3]
 refine quietH rfl (fun w' hS => r_idx TR_ok rfl rfl rfl rfl (i + 1) rfl (by omega)) ?_
 refine goH TR_ok 200 rfl ?_
 refine quietH rfl (fun w' hS => r_load TR_ok rfl rfl rfl ((hS.cell (a := ⟨b3, o3 + (i + 1) * 1, none⟩) (by show b3 < _; omega) (fun h => h)).trans hc3)) ?_
 rw [← hA3]
 refine goH TR_ok 200 rfl ?_
 rw [w64_id (x := x + y) (by omega) (by omega)]
 refine endH ?_
 have B11 := B11.no (Chg.drew w)
 have B4 := B4.no (Chg.drew w)
 have q := q.trans (Chg.drew w)
 generalize w.drew = w3 at *
 refine go TR_ok 200 rfl ?_
 refine draw mixed (fun w' => Chg No w3 w') ([0,1,2,3,4,5,6,7,8,9,10,11].map (fun i => (i, true))) rfl (by kernel_rfl) (Chg.drew _) ?_
 refine goH TR_ok 200 rfl ?_
 repeat (first | (refine quietH rfl (fun w' hS => r_load TR_ok rfl rfl rfl (Bk.get (B4.no hS) rfl)) ?_; refine goH TR_ok 200 rfl ?_) | (refine quietH rfl (fun w' hS => r_load TR_ok rfl rfl rfl (Bk.get (B11.no hS) rfl)) ?_; refine goH TR_ok 200 rfl ?_))
 rw [w64_id (x := max c.opn (x + y) + c.work) (by omega) (by omega)]
 refine endH ?_
 refine go TR_ok 200 rfl ?_
 refine ret (ret3 Try.results85 rfl rfl rfl ⟨rfl, q.trans (Chg.drew _)⟩)
theorem or_lem {d i : Nat} (hd : d < 256) (hi : i < 8) : bitw .or (d : Int) (w64 (1 * 2 ^ i)) = ((d ||| 2 ^ i : Nat) : Int) := by
 have h2 : 2 ^ i < 256 := Nat.pow_lt_pow_right (by decide) hi
 have e0 : ((1 : Int) * 2 ^ i) = ((2 ^ i : Nat) : Int) := by simp
 rw [e0]
 generalize 2 ^ i = k at *
 have h3 : d ||| k < 2 ^ 8 := Nat.or_lt_two_pow hd h2
 rw [w64_id (x := (k : Int)) (by omega) (by omega)]
 unfold bitw
 have e2 : ((BitVec.ofInt 64 (d : Int)) ||| (BitVec.ofInt 64 (k : Int))).toNat = d ||| k := by
  rw [BitVec.ofInt_natCast, BitVec.ofInt_natCast, BitVec.toNat_or, BitVec.toNat_ofNat, BitVec.toNat_ofNat, Nat.mod_eq_of_lt (by omega), Nat.mod_eq_of_lt (by omega)]
 simp only
 rw [e2]
 generalize d ||| k = dd at *
 rw [w64_id (by omega) (by omega)]
section
open Go.RowKit
variable {P : Program} {n : Nat} {ρ : Env} {w : World} {o : Oper}
theorem r_shl {t ty : TypeId} {x y : Operand} (ho : o.op = .binOp .shl t x y ty) {a b : Int} {kd : IntKind} (hx : ev n ρ x = .int .i64 a) (hy : ev n ρ y = .int kd b) (j : Nat) (hj : b = (j : Int)) (hj2 : j ≤ 64) : (execOp (ev n ρ) o).run P w = .ok (.value (.int .i64 (w64 (a * 2 ^ j)))) w := by
 subst hj
 have e1 : ¬ ((j : Int) < 0) := by omega
 have e2 : min j 64 = j := by omega
 simp only [execOp, ho, hx, hy, Sem.run_bind, eqGuard_shl, Sem.run_pure, Result.andThen_ok, binOp_shl, Op.shift, if_neg e1, Int.toNat_natCast, IntKind.bits, e2, w64]
end
end Go.Proofs.Yteenhfnamjbaiaa
namespace Go.Proofs.Yteenhfnamjbaiaa
open Go.Ev Go.Proofs
open Go.Camp (Cl wayT stopT TrOk begT okT leaveT endT begs getE moreR Ms)
attribute [local irreducible] At AtH
def iN (l : List Nat) : List Int := l.map (fun (i : Nat) => (i : Int))
theorem iN_len (l : List Nat) : (iL (iN l)).length = l.length := by simp [iL, iN]
theorem iN_snoc (l : List Nat) (i : Nat) : iL (iN (l ++ [i])) = iL (iN l) ++ [I (i : Int)] := by simp [iL, iN]
def capsR (g5 g6 g1 g8 g7 g9 : Nat) : List Value := [.pointer (some ⟨g5, 0, none⟩), .pointer (some ⟨g6, 0, none⟩), .pointer (some ⟨g1, 0, none⟩), .pointer (some ⟨g8, 0, none⟩), .pointer (some ⟨g7, 0, none⟩), .pointer (some ⟨g9, 0, none⟩)]
theorem own_nn {w : World} {B : Nat} {e : TypeId} {sz n c : Nat} {xs : List Value} (h : w.ownsRow B e sz (.slice none n c) n xs) : n = 0 := by
 rcases h.2 with ⟨hv, h0⟩ | ⟨g, cap, cur, hv, _⟩
 ·exact h0
 ·cases hv
structure RI (m : Tm) (B g5 g6 g1 g8 g7 g9 : Nat) (w : World) (now : List Nat) (s : Ms) : Prop where
 tm : TrM w B m
 b1 : Bk w g1 56 (tmL m)
 b5 : Bk w g5 142 (iL s.early)
 len : s.early.length = 2304
 b8 : Bk w g8 3 [I s.least]
 b9 : Bk w g9 143 [.func (.func 83) #[] (capsR g5 g6 g1 g8 g7 g9).toArray]
 bn : ∃ A c A' c', Bk w g6 25 [.slice A now.length c] ∧ w.ownsRow (g9 + 1) 3 1 (.slice A now.length c) now.length (iL (iN now)) ∧ Bk w g7 25 [.slice A' s.best.length c'] ∧ w.ownsRow (g9 + 1) 3 1 (.slice A' s.best.length c') s.best.length (iL (iN s.best)) ∧ ∀ k, (Value.slice A now.length c).ownBlock = some k → (Value.slice A' s.best.length c').ownBlock ≠ some k
structure RP (B g5 g6 g1 g8 g7 g9 : Nat) : Prop where
 p1 : B ≤ g1
 p2 : g1 < g5
 p3 : g5 < g6
 p4 : g6 < g7
 p5 : g7 < g8
 p6 : g8 < g9
theorem RI.no {m : Tm} {B g5 g6 g1 g8 g7 g9 : Nat} {w w' : World} {now : List Nat} {s : Ms} (h : RI m B g5 g6 g1 g8 g7 g9 w now s) (q : Chg No w w') : RI m B g5 g6 g1 g8 g7 g9 w' now s := by
 obtain ⟨A, c, A', c', x1, x2, x3, x4, x5⟩ := h.bn
 exact ⟨h.tm.no q, h.b1.no q, h.b5.no q, h.len, h.b8.no q, h.b9.no q, A, c, A', c', x1.no q, own_no x2 q, x3.no q, own_no x4 q, x5⟩
/-- the search's head -/
def seen (s : Ms) (d p : Nat) (x : Int) : Prop := 0 < getE s.early d p ∧ getE s.early d p ≤ x + 1
def stepR (t : Go.Camp.Tr) (f d p : Nat) (x : Int) (now : List Nat) (s : Ms) (i : Nat) : Ms := if d.testBit i then s else if okT t p i x then moreR t f (d ||| 2 ^ i) (i + 1) (leaveT t p i x) (now ++ [i]) s else s
theorem more_seen {t : Go.Camp.Tr} {f d p : Nat} {x : Int} {now : List Nat} {s : Ms} (h : seen s d p x) : moreR t f d p x now s = s := by
 have h' : 0 < getE s.early d p ∧ getE s.early d p ≤ x + 1 := h
 cases f <;> simp only [moreR] <;> rw [if_pos h']
theorem more_zero {t : Go.Camp.Tr} {d p : Nat} {x : Int} {now : List Nat} {s : Ms} (h : ¬ seen s d p x) : moreR t 0 d p x now s = if s.least < 0 ∨ x + wayT t p 0 < s.least then ⟨s.early.set (d * 9 + p) (x + 1), now, x + wayT t p 0⟩ else ⟨s.early.set (d * 9 + p) (x + 1), s.best, s.least⟩ := by
 have h' : ¬ (0 < getE s.early d p ∧ getE s.early d p ≤ x + 1) := h
 simp only [moreR]; rw [if_neg h']
theorem more_succ {t : Go.Camp.Tr} {f d p : Nat} {x : Int} {now : List Nat} {s : Ms} (h : ¬ seen s d p x) : moreR t (f + 1) d p x now s = (List.range t.stops.length).foldl (stepR t f d p x now) ⟨s.early.set (d * 9 + p) (x + 1), s.best, s.least⟩ := by
 have h' : ¬ (0 < getE s.early d p ∧ getE s.early d p ≤ x + 1) := h
 simp only [moreR]; rw [if_neg h']; rfl
set_option maxRecDepth 20000 in
set_option maxHeartbeats 16000000 in
theorem more_any2 (m : Tm) (B g5 g6 g1 g8 g7 g9 : Nat) (hp : RP B g5 g6 g1 g8 g7 g9) (h : TrOk (trP m)) : ∀ (f d p : Nat) (x : Int) (now : List Nat) (s : Ms) (w0 : World), now.length + f = m.S.l.length → d < 256 → p ≤ m.S.l.length → 0 ≤ x → x ≤ 2000000 → RI m B g5 g6 g1 g8 g7 g9 w0 now s →
  Ret Try.prog 83 (I (d : Int) :: I (p : Int) :: I x :: capsR g5 g6 g1 g8 g7 g9) w0 fun _ w' => RI m B g5 g6 g1 g8 g7 g9 w' now (moreR (trP m) f d p x now s) ∧ Chg (fun k => g5 ≤ k) w0 w' := by
 have n8 : m.S.l.length ≤ 8 := h.n8
 have hw : m.W.l.length = m.S.l.length + 1 := by have := h.w; simpa [trP] using this
 have p1 := hp.p1; have p2 := hp.p2; have p3 := hp.p3; have p4 := hp.p4; have p5 := hp.p5; have p6 := hp.p6
 intro f
 induction f using Nat.strongRecOn with
 | ind f ih =>
 intro d p x now s w0 hf hd hpl x0 x1 hI
 have hlen := hI.len
 have hi : d * 9 + p < s.early.length := by omega
 have hge : (iL s.early)[d * 9 + p]? = some (I (getE s.early d p)) := by
  unfold iL getE
  rw [List.getElem?_map, List.getElem?_eq_getElem hi]
  rfl
 have B5 := hI.b5
 have l9 := hI.b9.lt
 refine enter Try.func83 rfl Try.ntmps83 rfl ?_
 refine go TR_ok 1 rfl ?_
 refine join [0, 1, 2, 3, 4, 5, 6, 7, 8] (fun _ : Unit => I (d : Int) :: I (p : Int) :: I x :: capsR g5 g6 g1 g8 g7 g9) (fun _ w => w = w0 ∧ ¬ seen s d p x) (fun _ => rfl) ?_ ?_
 ·refine go TR_ok 200 rfl ?_
  refine idxA TR_ok rfl rfl rfl rfl rfl d rfl hd ?_
  refine go TR_ok 200 rfl ?_
  refine idxA TR_ok rfl rfl rfl rfl rfl p rfl (by omega) ?_
  refine go TR_ok 200 rfl ?_
  refine ld TR_ok rfl rfl rfl rfl (v := I (getE s.early d p)) (by simpa using B5.getE hge) ?_
  refine go TR_ok 200 rfl ?_
  by_cases h1 : 0 < getE s.early d p
  case neg =>
   rw [decide_eq_false h1]
   refine go TR_ok 200 rfl ?_
   repeat (first | (refine gT rfl rfl rfl rfl ?_; refine go TR_ok 200 rfl ?_) | (refine gF rfl rfl rfl rfl ?_; refine go TR_ok 200 rfl ?_) | (refine condT rfl rfl ?_; refine go TR_ok 200 rfl ?_) | (refine condF rfl rfl ?_; refine go TR_ok 200 rfl ?_))
   exact round ⟨(), rfl, rfl, fun h => h1 h.1⟩
  rw [decide_eq_true h1]
  refine go TR_ok 200 rfl ?_
  repeat (first | (refine gT rfl rfl rfl rfl ?_; refine go TR_ok 200 rfl ?_) | (refine gF rfl rfl rfl rfl ?_; refine go TR_ok 200 rfl ?_) | (refine condT rfl rfl ?_; refine go TR_ok 200 rfl ?_) | (refine condF rfl rfl ?_; refine go TR_ok 200 rfl ?_))
  rw [w64_id (x := x + 1) (by omega) (by omega)]
  by_cases h2 : getE s.early d p ≤ x + 1
  ·rw [decide_eq_true h2]
   refine go TR_ok 200 rfl ?_
   repeat (first | (refine gT rfl rfl rfl rfl ?_; refine go TR_ok 200 rfl ?_) | (refine gF rfl rfl rfl rfl ?_; refine go TR_ok 200 rfl ?_) | (refine condT rfl rfl ?_; refine go TR_ok 200 rfl ?_) | (refine condF rfl rfl ?_; refine go TR_ok 200 rfl ?_))
   exact ret (ret0 Try.results83 ⟨by rw [more_seen ⟨h1, h2⟩]; exact hI, Chg.refl _ _⟩)
  ·rw [decide_eq_false h2]
   refine go TR_ok 200 rfl ?_
   repeat (first | (refine gT rfl rfl rfl rfl ?_; refine go TR_ok 200 rfl ?_) | (refine gF rfl rfl rfl rfl ?_; refine go TR_ok 200 rfl ?_) | (refine condT rfl rfl ?_; refine go TR_ok 200 rfl ?_) | (refine condF rfl rfl ?_; refine go TR_ok 200 rfl ?_))
   exact round ⟨(), rfl, rfl, fun h => h2 h.2⟩
 rintro ⟨⟩ τ w ⟨rfl, hseen⟩
 obtain ⟨A, c, A', c', Bn, on, Bb, ob, ne⟩ := hI.bn
 have B1 := hI.b1
 have B8 := hI.b8
 have B9 := hI.b9
 have H := hI.tm
 have q := Chg.refl (fun k => g5 ≤ k) w
 refine go TR_ok 200 rfl ?_
 rw [w64_id (x := x + 1) (by omega) (by omega)]
 refine idxA TR_ok rfl rfl rfl rfl rfl d rfl hd ?_
 refine go TR_ok 200 rfl ?_
 refine idxA TR_ok rfl rfl rfl rfl rfl p rfl (by omega) ?_
 refine go TR_ok 200 rfl ?_
 refine st TR_ok rfl rfl rfl rfl (v := I (x + 1)) rfl rfl B5 (by rw [lenL_eq]; simp [iL]; omega) ?_
 intro w1 qk B5 hz1
 have B5 : Bk w1 g5 142 (iL (s.early.set (d * 9 + p) (x + 1))) := by
  have e : (iL s.early).set (0 + d * 9 + p * 1) (I (x + 1)) = iL (s.early.set (d * 9 + p) (x + 1)) := by simp [iL, List.map_set]
  rw [← e]; exact B5
 have B1 := B1.keep qk (by omega)
 have B8 := B8.keep qk (by omega)
 have B9 := B9.keep qk (by omega)
 have Bn := Bn.keep qk (by omega)
 have Bb := Bb.keep qk (by omega)
 have H := H.keep qk (fun k hk e => by omega)
 have on := own_keep on qk (fun k e hh => by have := own_ge on e; omega)
 have ob := own_keep ob qk (fun k e hh => by have := own_ge ob e; omega)
 have q := q.trans (qk.mono fun k _ e => by omega)
 have hI1 : RI m B g5 g6 g1 g8 g7 g9 w1 now ⟨s.early.set (d * 9 + p) (x + 1), s.best, s.least⟩ := ⟨H, B1, B5, by simpa using hlen, B8, B9, A, c, A', c', Bn, on, Bb, ob, ne⟩
 refine go TR_ok 200 rfl ?_
 repeat ((first | refine ldA TR_ok rfl rfl rfl rfl rfl (Bk.all B1) ?_ | refine ldA TR_ok rfl rfl rfl rfl rfl (Bk.all B8) ?_ | refine ldA TR_ok rfl rfl rfl rfl rfl (Bk.all B9) ?_ | refine ldA TR_ok rfl rfl rfl rfl rfl (Bk.all Bn) ?_ | refine ld TR_ok rfl rfl rfl rfl (Bk.get B1 rfl) ?_ | refine ld TR_ok rfl rfl rfl rfl (Bk.get B8 rfl) ?_ | refine ld TR_ok rfl rfl rfl rfl (Bk.get B9 rfl) ?_ | refine ld TR_ok rfl rfl rfl rfl (Bk.get Bn rfl) ?_ | refine gT rfl rfl rfl rfl ?_ | refine gF rfl rfl rfl rfl ?_ | refine condT rfl rfl ?_ | refine condF rfl rfl ?_); refine go TR_ok 200 rfl ?_)
 rcases f with _ | f
 ·-- all is done
  have hnl : now.length = m.S.l.length := by omega
  have e : ((now.length : Int) == (m.S.l.length : Int)) = true := by simp [hnl]
  rw [e]
  refine go TR_ok 200 rfl ?_
  repeat ((first | refine ldA TR_ok rfl rfl rfl rfl rfl (Bk.all B1) ?_ | refine ldA TR_ok rfl rfl rfl rfl rfl (Bk.all B8) ?_ | refine ldA TR_ok rfl rfl rfl rfl rfl (Bk.all B9) ?_ | refine ldA TR_ok rfl rfl rfl rfl rfl (Bk.all Bn) ?_ | refine ld TR_ok rfl rfl rfl rfl (Bk.get B1 rfl) ?_ | refine ld TR_ok rfl rfl rfl rfl (Bk.get B8 rfl) ?_ | refine ld TR_ok rfl rfl rfl rfl (Bk.get B9 rfl) ?_ | refine ld TR_ok rfl rfl rfl rfl (Bk.get Bn rfl) ?_ | refine gT rfl rfl rfl rfl ?_ | refine gF rfl rfl rfl rfl ?_ | refine condT rfl rfl ?_ | refine condF rfl rfl ?_); refine go TR_ok 200 rfl ?_)
  obtain ⟨ss, hs, hsl, hsx, hx0, hx1⟩ := way_at h hpl (Nat.zero_le _)
  have hmz := more_zero (t := trP m) (d := d) (p := p) (x := x) (now := now) (s := s) hseen
  generalize wayT (trP m) p 0 = y at *
  obtain ⟨b2, o2, hA2, hb2, hc2⟩ := Sl.el H.w1 slI_len hs
  obtain ⟨b3, o3, hA3, hb3, hc3⟩ := (H.w2 ss (List.mem_of_getElem? hs)).1.elI hsx
  rw [hA2]
  refine idx TR_ok rfl rfl rfl rfl rfl p rfl (by omega) ?_
  refine go TR_ok 200 rfl ?_
  refine ld TR_ok rfl rfl rfl rfl (hc2.get (i := 0) rfl) ?_
  refine go TR_ok 200 rfl ?_
  rw [← hA2, hA3]
  refine idx TR_ok rfl rfl rfl rfl rfl 0 rfl (by omega) ?_
  refine go TR_ok 200 rfl ?_
  refine ld TR_ok rfl rfl rfl rfl (hc3) ?_
  refine go TR_ok 200 rfl ?_
  rw [← hA3, w64_id (x := x + y) (by omega) (by omega)]
  refine go TR_ok 200 rfl ?_
  repeat ((first | refine ldA TR_ok rfl rfl rfl rfl rfl (Bk.all B1) ?_ | refine ldA TR_ok rfl rfl rfl rfl rfl (Bk.all B8) ?_ | refine ldA TR_ok rfl rfl rfl rfl rfl (Bk.all B9) ?_ | refine ldA TR_ok rfl rfl rfl rfl rfl (Bk.all Bn) ?_ | refine ld TR_ok rfl rfl rfl rfl (Bk.get B1 rfl) ?_ | refine ld TR_ok rfl rfl rfl rfl (Bk.get B8 rfl) ?_ | refine ld TR_ok rfl rfl rfl rfl (Bk.get B9 rfl) ?_ | refine ld TR_ok rfl rfl rfl rfl (Bk.get Bn rfl) ?_ | refine gT rfl rfl rfl rfl ?_ | refine gF rfl rfl rfl rfl ?_ | refine condT rfl rfl ?_ | refine condF rfl rfl ?_); refine go TR_ok 200 rfl ?_)
  by_cases h1 : s.least < 0
  ·rw [decide_eq_true h1]
   refine go TR_ok 200 rfl ?_
   repeat ((first | refine ldA TR_ok rfl rfl rfl rfl rfl (Bk.all B1) ?_ | refine ldA TR_ok rfl rfl rfl rfl rfl (Bk.all B8) ?_ | refine ldA TR_ok rfl rfl rfl rfl rfl (Bk.all B9) ?_ | refine ldA TR_ok rfl rfl rfl rfl rfl (Bk.all Bn) ?_ | refine ld TR_ok rfl rfl rfl rfl (Bk.get B1 rfl) ?_ | refine ld TR_ok rfl rfl rfl rfl (Bk.get B8 rfl) ?_ | refine ld TR_ok rfl rfl rfl rfl (Bk.get B9 rfl) ?_ | refine ld TR_ok rfl rfl rfl rfl (Bk.get Bn rfl) ?_ | refine gT rfl rfl rfl rfl ?_ | refine gF rfl rfl rfl rfl ?_ | refine condT rfl rfl ?_ | refine condF rfl rfl ?_); refine go TR_ok 200 rfl ?_)
   refine call rfl rfl rfl (ok _ (by decide) rfl) (cloneI_any (iL (iN now)) now.length A c w1.heap.size _ (own_sl on) (by simp [iL, Value.oneCell']) (by omega) (fun e => by subst e; exact own_nn on)) ?_
   rintro v w2 ⟨A2, c2, rfl, qk, o2, _⟩
   have hI2 := hI1.no qk
   have q := q.trans (qk.mono fun _ _ e => e.elim)
   have Bb := Bb.no qk
   have B8 := B8.no qk
   refine go TR_ok 200 rfl ?_
   refine st TR_ok rfl rfl rfl rfl (v := .slice A2 now.length c2) rfl rfl Bb rfl ?_
   intro w3 qk3 Bb hz3
   have Bb : Bk w3 g7 25 [.slice A2 now.length c2] := Bb
   have B8 := B8.keep qk3 (by omega)
   have q := q.trans (qk3.mono fun k _ e => by omega)
   refine go TR_ok 200 rfl ?_
   refine st TR_ok rfl rfl rfl rfl (v := I (x + y)) rfl rfl B8 rfl ?_
   intro w4 qk4 B8 hz4
   have q := q.trans (qk4.mono fun k _ e => by omega)
   have l9' := hI1.b9.lt
   refine go TR_ok 200 rfl ?_
   refine ret (ret0 Try.results83 ⟨?_, q⟩)
   rw [hmz, if_pos (Or.inl h1)]
   obtain ⟨X, cx, Y, cy, y1, y2, y3, y4, y5⟩ := hI2.bn
   have on2 := own_no on qk
   exact ⟨(hI2.tm.keep qk3 (fun k hk e => by omega)).keep qk4 (fun k hk e => by omega), (hI2.b1.keep qk3 (by omega)).keep qk4 (by omega), (hI2.b5.keep qk3 (by omega)).keep qk4 (by omega), hI2.len, B8, (hI2.b9.keep qk3 (by omega)).keep qk4 (by omega),
    A, c, A2, c2, ((Bn.no qk).keep qk3 (by omega)).keep qk4 (by omega), own_keep (own_keep on2 qk3 (fun k e hh => by have := own_ge on2 e; omega)) qk4 (fun k e hh => by have := own_ge on2 e; omega), Bb.keep qk4 (by omega),
    own_base (own_keep (own_keep o2 qk3 (fun k e hh => by have := own_ge o2 e; omega)) qk4 (fun k e hh => by have := own_ge o2 e; omega)) (by omega), fun k e e2 => by have := lt_own on e; have := own_ge o2 e2; omega⟩
  rw [decide_eq_false h1]
  refine go TR_ok 200 rfl ?_
  repeat ((first | refine ldA TR_ok rfl rfl rfl rfl rfl (Bk.all B1) ?_ | refine ldA TR_ok rfl rfl rfl rfl rfl (Bk.all B8) ?_ | refine ldA TR_ok rfl rfl rfl rfl rfl (Bk.all B9) ?_ | refine ldA TR_ok rfl rfl rfl rfl rfl (Bk.all Bn) ?_ | refine ld TR_ok rfl rfl rfl rfl (Bk.get B1 rfl) ?_ | refine ld TR_ok rfl rfl rfl rfl (Bk.get B8 rfl) ?_ | refine ld TR_ok rfl rfl rfl rfl (Bk.get B9 rfl) ?_ | refine ld TR_ok rfl rfl rfl rfl (Bk.get Bn rfl) ?_ | refine gT rfl rfl rfl rfl ?_ | refine gF rfl rfl rfl rfl ?_ | refine condT rfl rfl ?_ | refine condF rfl rfl ?_); refine go TR_ok 200 rfl ?_)
  by_cases h2 : x + y < s.least
  ·rw [decide_eq_true h2]
   refine go TR_ok 200 rfl ?_
   repeat ((first | refine ldA TR_ok rfl rfl rfl rfl rfl (Bk.all B1) ?_ | refine ldA TR_ok rfl rfl rfl rfl rfl (Bk.all B8) ?_ | refine ldA TR_ok rfl rfl rfl rfl rfl (Bk.all B9) ?_ | refine ldA TR_ok rfl rfl rfl rfl rfl (Bk.all Bn) ?_ | refine ld TR_ok rfl rfl rfl rfl (Bk.get B1 rfl) ?_ | refine ld TR_ok rfl rfl rfl rfl (Bk.get B8 rfl) ?_ | refine ld TR_ok rfl rfl rfl rfl (Bk.get B9 rfl) ?_ | refine ld TR_ok rfl rfl rfl rfl (Bk.get Bn rfl) ?_ | refine gT rfl rfl rfl rfl ?_ | refine gF rfl rfl rfl rfl ?_ | refine condT rfl rfl ?_ | refine condF rfl rfl ?_); refine go TR_ok 200 rfl ?_)
   refine call rfl rfl rfl (ok _ (by decide) rfl) (cloneI_any (iL (iN now)) now.length A c w1.heap.size _ (own_sl on) (by simp [iL, Value.oneCell']) (by omega) (fun e => by subst e; exact own_nn on)) ?_
   rintro v w2 ⟨A2, c2, rfl, qk, o2, _⟩
   have hI2 := hI1.no qk
   have q := q.trans (qk.mono fun _ _ e => e.elim)
   have Bb := Bb.no qk
   have B8 := B8.no qk
   refine go TR_ok 200 rfl ?_
   refine st TR_ok rfl rfl rfl rfl (v := .slice A2 now.length c2) rfl rfl Bb rfl ?_
   intro w3 qk3 Bb hz3
   have Bb : Bk w3 g7 25 [.slice A2 now.length c2] := Bb
   have B8 := B8.keep qk3 (by omega)
   have q := q.trans (qk3.mono fun k _ e => by omega)
   refine go TR_ok 200 rfl ?_
   refine st TR_ok rfl rfl rfl rfl (v := I (x + y)) rfl rfl B8 rfl ?_
   intro w4 qk4 B8 hz4
   have q := q.trans (qk4.mono fun k _ e => by omega)
   have l9' := hI1.b9.lt
   refine go TR_ok 200 rfl ?_
   refine ret (ret0 Try.results83 ⟨?_, q⟩)
   rw [hmz, if_pos (Or.inr h2)]
   obtain ⟨X, cx, Y, cy, y1, y2, y3, y4, y5⟩ := hI2.bn
   have on2 := own_no on qk
   exact ⟨(hI2.tm.keep qk3 (fun k hk e => by omega)).keep qk4 (fun k hk e => by omega), (hI2.b1.keep qk3 (by omega)).keep qk4 (by omega), (hI2.b5.keep qk3 (by omega)).keep qk4 (by omega), hI2.len, B8, (hI2.b9.keep qk3 (by omega)).keep qk4 (by omega),
    A, c, A2, c2, ((Bn.no qk).keep qk3 (by omega)).keep qk4 (by omega), own_keep (own_keep on2 qk3 (fun k e hh => by have := own_ge on2 e; omega)) qk4 (fun k e hh => by have := own_ge on2 e; omega), Bb.keep qk4 (by omega),
    own_base (own_keep (own_keep o2 qk3 (fun k e hh => by have := own_ge o2 e; omega)) qk4 (fun k e hh => by have := own_ge o2 e; omega)) (by omega), fun k e e2 => by have := lt_own on e; have := own_ge o2 e2; omega⟩
  ·rw [decide_eq_false h2]
   refine go TR_ok 200 rfl ?_
   repeat ((first | refine ldA TR_ok rfl rfl rfl rfl rfl (Bk.all B1) ?_ | refine ldA TR_ok rfl rfl rfl rfl rfl (Bk.all B8) ?_ | refine ldA TR_ok rfl rfl rfl rfl rfl (Bk.all B9) ?_ | refine ldA TR_ok rfl rfl rfl rfl rfl (Bk.all Bn) ?_ | refine ld TR_ok rfl rfl rfl rfl (Bk.get B1 rfl) ?_ | refine ld TR_ok rfl rfl rfl rfl (Bk.get B8 rfl) ?_ | refine ld TR_ok rfl rfl rfl rfl (Bk.get B9 rfl) ?_ | refine ld TR_ok rfl rfl rfl rfl (Bk.get Bn rfl) ?_ | refine gT rfl rfl rfl rfl ?_ | refine gF rfl rfl rfl rfl ?_ | refine condT rfl rfl ?_ | refine condF rfl rfl ?_); refine go TR_ok 200 rfl ?_)
   exact ret (ret0 Try.results83 ⟨by rw [hmz, if_neg (fun h => h.elim h1 h2)]; exact hI1, q⟩)
 ·have hnl : ((now.length : Int) == (m.S.l.length : Int)) = false := by simp; omega
  rw [hnl]
  refine go TR_ok 200 rfl ?_
  repeat ((first | refine ldA TR_ok rfl rfl rfl rfl rfl (Bk.all B1) ?_ | refine ldA TR_ok rfl rfl rfl rfl rfl (Bk.all B8) ?_ | refine ldA TR_ok rfl rfl rfl rfl rfl (Bk.all B9) ?_ | refine ldA TR_ok rfl rfl rfl rfl rfl (Bk.all Bn) ?_ | refine ld TR_ok rfl rfl rfl rfl (Bk.get B1 rfl) ?_ | refine ld TR_ok rfl rfl rfl rfl (Bk.get B8 rfl) ?_ | refine ld TR_ok rfl rfl rfl rfl (Bk.get B9 rfl) ?_ | refine ld TR_ok rfl rfl rfl rfl (Bk.get Bn rfl) ?_ | refine gT rfl rfl rfl rfl ?_ | refine gF rfl rfl rfl rfl ?_ | refine condT rfl rfl ?_ | refine condF rfl rfl ?_); refine go TR_ok 200 rfl ?_)
  rw [more_succ hseen]
  have hst : (trP m).stops.length = m.S.l.length := rfl
  rw [hst]
  generalize (⟨s.early.set (d * 9 + p) (x + 1), s.best, s.least⟩ : Ms) = s1 at *
  clear Bn on Bb ob ne B1 B8 B9 B5
  refine loop [0, 1, 2, 3, 4, 5, 6, 7, 8, 64, 65] (fun j : Nat => I (d : Int) :: I (p : Int) :: I x :: capsR g5 g6 g1 g8 g7 g9 ++ [.int .i64 (m.S.l.length : Int), .int .i64 (j : Int)])
   (fun j w' => j ≤ m.S.l.length ∧ RI m B g5 g6 g1 g8 g7 g9 w' now ((List.range j).foldl (stepR (trP m) f d p x now) s1) ∧ Chg (fun k => g5 ≤ k) w w') (fun j => m.S.l.length - j) 0 (fun _ => rfl) rfl ⟨Nat.zero_le _, hI1, q⟩ ?_
  rintro j τ w2 ⟨hj, hI2, q⟩
  have hsn : (List.range (j + 1)).foldl (stepR (trP m) f d p x now) s1 = stepR (trP m) f d p x now ((List.range j).foldl (stepR (trP m) f d p x now) s1) j := by rw [List.range_succ, List.foldl_append]; rfl
  generalize hs2 : (List.range j).foldl (stepR (trP m) f d p x now) s1 = s2 at *
  refine go TR_ok 200 rfl ?_
  refine condD rfl (fun hlt => ?_) (fun hlt => ?_)
  ·have hlt : j < m.S.l.length := by omega
   refine go TR_ok 200 rfl ?_
   refine shr rfl rfl rfl rfl j rfl (by omega) ?_
   refine go TR_ok 200 rfl ?_
   rw [Q.bit_lem (by omega)]
   cases hbit : d.testBit j with
   | true =>
    refine go TR_ok 200 rfl ?_
    repeat (first | (refine gT rfl rfl rfl rfl ?_; refine go TR_ok 200 rfl ?_) | (refine gF rfl rfl rfl rfl ?_; refine go TR_ok 200 rfl ?_) | (refine condT rfl rfl ?_; refine go TR_ok 200 rfl ?_) | (refine condF rfl rfl ?_; refine go TR_ok 200 rfl ?_))
    rw [w64_id (x := (j : Int) + 1) (by omega) (by omega)]
    refine round ⟨j + 1, rfl, ⟨by omega, by rw [hsn]; exact (by unfold stepR; rw [hbit]; exact hI2), q⟩, by omega⟩
   | false =>
    have B1 := hI2.b1
    refine go TR_ok 200 rfl ?_
    repeat ((first | refine ldA TR_ok rfl rfl rfl rfl rfl (Bk.all B1) ?_ | refine ld TR_ok rfl rfl rfl rfl (Bk.get B1 rfl) ?_ | refine gT rfl rfl rfl rfl ?_ | refine gF rfl rfl rfl rfl ?_ | refine condT rfl rfl ?_ | refine condF rfl rfl ?_); refine go TR_ok 200 rfl ?_)
    refine call rfl rfl rfl (ok _ (by decide) rfl) (visit_any m p j x B _ hI2.tm h hpl hlt x0 x1) ?_
    rintro v w3 ⟨rfl, qk⟩
    have hI3 := hI2.no qk
    have q := q.trans (qk.mono fun _ _ e => e.elim)
    cases hok : okT (trP m) p j x with
    | false =>
     refine go TR_ok 200 rfl ?_
     repeat (first | (refine gT rfl rfl rfl rfl ?_; refine go TR_ok 200 rfl ?_) | (refine gF rfl rfl rfl rfl ?_; refine go TR_ok 200 rfl ?_) | (refine condT rfl rfl ?_; refine go TR_ok 200 rfl ?_) | (refine condF rfl rfl ?_; refine go TR_ok 200 rfl ?_))
     rw [w64_id (x := (j : Int) + 1) (by omega) (by omega)]
     refine round ⟨j + 1, rfl, ⟨by omega, by rw [hsn]; exact (by unfold stepR; rw [hbit, hok]; exact hI3), q⟩, by omega⟩
    | true =>
     obtain ⟨A, c, A', c', Bn, on, Bb, ob, ne⟩ := hI3.bn
     refine go TR_ok 200 rfl ?_
     repeat ((first | refine ldA TR_ok rfl rfl rfl rfl rfl (Bk.all Bn) ?_ | refine ld TR_ok rfl rfl rfl rfl (Bk.get Bn rfl) ?_ | refine gT rfl rfl rfl rfl ?_ | refine gF rfl rfl rfl rfl ?_ | refine condT rfl rfl ?_ | refine condF rfl rfl ?_); refine go TR_ok 200 rfl ?_)
     refine app1 TR_ok rfl rfl rfl rfl rfl rfl (cs := [I (j : Int)]) rfl rfl rfl rfl (fun _ => rfl) (fun _ => rfl) (fun _ => rfl) on (by unfold maxLen; omega) (by omega) (by have := hI3.b9.lt; omega) ?_
     intro gx A4 c4 w4 on4 q4 hs4 hown
     have hgeb : ∀ k, (Value.slice A now.length c).ownBlock = some k → g9 + 1 ≤ k := fun k e => own_ge on e
     have Bn := Bn.keep q4 (fun e => by have := hgeb _ e; omega)
     refine go TR_ok 200 rfl ?_
     refine st TR_ok rfl rfl rfl rfl (v := .slice A4 (now.length + 1) c4) rfl rfl Bn rfl ?_
     intro w5 q5 Bn hz5
     have Bn : Bk w5 g6 25 [.slice A4 (now ++ [j]).length c4] := by rw [List.length_append]; exact Bn
     have q45 : Chg (fun k => k = g6 ∨ (Value.slice A now.length c).ownBlock = some k) w3 w5 := (q4.mono fun k _ e => .inr e).trans (q5.mono fun k _ e => .inl e)
     have q := q.trans (q45.mono fun k _ e => e.elim (fun e => by omega) (fun e => by have := hgeb _ e; omega))
     have hne : ∀ k, k ≤ g9 → k ≠ g6 → ¬ (k = g6 ∨ (Value.slice A now.length c).ownBlock = some k) := fun k hk h6 e => by
      rcases e with e | e
      ·exact h6 e
      ·have := hgeb _ e; omega
     have on5 := own_keep on4 q5 (fun k e hh => by have := own_ge on4 e; omega)
     have hI5 : RI m B g5 g6 g1 g8 g7 g9 w5 (now ++ [j]) s2 := by
      refine ⟨hI3.tm.keep q45 (fun k hk => hne k (by omega) (by omega)), hI3.b1.keep q45 (hne _ (by omega) (by omega)), hI3.b5.keep q45 (hne _ (by omega) (by omega)), hI3.len, hI3.b8.keep q45 (hne _ (by omega) (by omega)), hI3.b9.keep q45 (hne _ (by omega) (by omega)), A4, c4, A', c', Bn, ?_, Bb.keep q45 (hne _ (by omega) (by omega)), own_keep ob q45 (fun k e hh => ?_), fun k e => ?_⟩
      ·rw [iN_snoc, List.length_append]; exact on5
      ·rcases hh with hh | hh
       ·have := own_ge ob e; omega
       ·exact ne k hh e
      ·rw [List.length_append] at e
       rcases hown with hh | hh
       ·exact ne k (hh ▸ e)
       ·rw [show ([j] : List Nat).length = 1 from rfl, hh] at e
        simp only [Option.some.injEq] at e
        intro e2
        have := lt_own ob e2
        omega
     have B9 := hI5.b9
     refine go TR_ok 200 rfl ?_
     refine draw mixed (fun w' => Bk w' g9 143 [.func (.func 83) #[] (capsR g5 g6 g1 g8 g7 g9).toArray]) ([0,1,2,3,4,5,6,7].map (fun i => (i, true)) ++ [(8, false)]) rfl (by kernel_rfl) (B9.no (Chg.drew _)) ?_
     refine goH TR_ok 200 rfl ?_
     refine quietH rfl (fun w' hS => r_load TR_ok rfl rfl rfl (Bk.get hS rfl)) ?_
     refine goH TR_ok 200 rfl ?_
     refine quietH rfl (fun w' hS => r_shl rfl rfl rfl j rfl (by omega)) ?_
     refine goH TR_ok 200 rfl ?_
     rw [or_lem hd (by omega), w64_id (x := (j : Int) + 1) (by omega) (by omega)]
     obtain ⟨⟨e1, e2⟩, e3, e4, e5⟩ := (stop_at h hlt).2
     obtain ⟨s9, _, _, _, hy0, hy1⟩ := way_at h hpl (show j + 1 ≤ m.S.l.length by omega)
     have hbd : 0 ≤ leaveT (trP m) p j x ∧ leaveT (trP m) p j x ≤ 2000000 := by
      have hok' : decide (begT (trP m) p j x ≤ (stopT (trP m) j).due) = true := hok
      rw [decide_eq_true_eq] at hok'
      unfold leaveT begT at *
      omega
     have X := ih f (by omega) (d ||| 2 ^ j) (j + 1) (leaveT (trP m) p j x) (now ++ [j]) s2 _ (by rw [List.length_append]; simp; omega) (Nat.or_lt_two_pow (n := 8) hd (Nat.pow_lt_pow_right (by decide) (by omega))) (by omega) hbd.1 hbd.2 (hI5.no (Chg.drew w5))
     refine callE rfl rfl rfl (ok _ (by decide) rfl) X ?_
     rintro v w6 ⟨hI6, q6⟩
     refine ⟨hI6.b9, ?_⟩
     refine goH TR_ok 200 rfl ?_
     refine endH ?_
     have q := (q.trans ((Chg.drew w5).mono fun _ _ e => e.elim)).trans q6
     obtain ⟨A6, c6, A7, c7, Bn6, on6, Bb6, ob6, ne6⟩ := hI6.bn
     rw [List.length_append, show ([j] : List Nat).length = 1 from rfl] at Bn6 on6 ne6
     refine go TR_ok 200 rfl ?_
     repeat ((first | refine ldA TR_ok rfl rfl rfl rfl rfl (Bk.all Bn6) ?_ | refine ld TR_ok rfl rfl rfl rfl (Bk.get Bn6 rfl) ?_ | refine gT rfl rfl rfl rfl ?_ | refine gF rfl rfl rfl rfl ?_ | refine condT rfl rfl ?_ | refine condF rfl rfl ?_); refine go TR_ok 200 rfl ?_)
     rw [w64_id (x := ((now.length + 1 : Nat) : Int) - 1) (by omega) (by omega)]
     have hc6 := own_cap on6
     refine slcHi TR_ok rfl rfl rfl rfl rfl now.length (by omega) (by omega) ?_
     refine go TR_ok 200 rfl ?_
     refine st TR_ok rfl rfl rfl rfl (v := .slice A6 now.length c6) rfl rfl Bn6 rfl ?_
     intro w7 q7 Bn7 hz7
     refine go TR_ok 200 rfl ?_
     have on7 : w6.ownsRow (g9 + 1) 3 1 (.slice A6 now.length c6) now.length (iL (iN now)) := by rw [iN_snoc] at on6; exact own_pop on6
     have hI7 : RI m B g5 g6 g1 g8 g7 g9 w7 now (moreR (trP m) f (d ||| 2 ^ j) (j + 1) (leaveT (trP m) p j x) (now ++ [j]) s2) :=
      ⟨hI6.tm.keep q7 (fun k hk e => by omega), hI6.b1.keep q7 (by omega), hI6.b5.keep q7 (by omega), hI6.len, hI6.b8.keep q7 (by omega), hI6.b9.keep q7 (by omega), A6, c6, A7, c7, Bn7, own_keep on7 q7 (fun k e hh => by have := own_ge on7 e; omega), Bb6.keep q7 (by omega), own_keep ob6 q7 (fun k e hh => by have := own_ge ob6 e; omega), fun k e => ne6 k (by cases A6 <;> exact e)⟩
     have q := q.trans (q7.mono fun k _ e => by omega)
     rw [w64_id (x := (j : Int) + 1) (by omega) (by omega)]
     refine round ⟨j + 1, rfl, ⟨by omega, by rw [hsn]; exact (by unfold stepR; rw [hbit, hok]; exact hI7), q⟩, by omega⟩
  ·obtain rfl : j = m.S.l.length := by omega
   refine go TR_ok 200 rfl ?_
   exact fin (ret0 Try.results83 ⟨by rw [hs2]; exact hI2, q⟩)
end Go.Proofs.Yteenhfnamjbaiaa
namespace Go.Proofs.Yteenhfnamjbaiaa
open Go.Ev Go.Proofs
open Go.Camp (Cl wayT stopT TrOk begT okT leaveT endT begs getE moreR Ms)
attribute [local irreducible] At AtH
def roundP (t : Go.Camp.Tr) : Ms := moreR t t.stops.length 0 0 0 [] ⟨List.replicate 2304 0, [], -1⟩
theorem iL_rep (n : Nat) : iL (List.replicate n 0) = List.replicate n (I 0) := by simp [iL]
set_option maxRecDepth 20000 in
set_option maxHeartbeats 16000000 in
theorem Round_any (m : Tm) (w0 : World) (H : TrM w0 w0.heap.size m) : Ret Try.prog 31 [.agg (tmL m).toArray] w0 fun v w' => Chg No w0 w' ∧
  ((¬ TrOk (trP m) ∧ v = .tuple #[.slice none 0 0, I 0, I 2]) ∨ (TrOk (trP m) ∧ (roundP (trP m)).least < 0 ∧ v = .tuple #[.slice none 0 0, I 0, I 5]) ∨
   (TrOk (trP m) ∧ 0 ≤ (roundP (trP m)).least ∧ ∃ A c, v = .tuple #[.slice A (roundP (trP m)).best.length c, I (roundP (trP m)).least, I 0] ∧ w'.ownsRow w0.heap.size 3 1 (.slice A (roundP (trP m)).best.length c) (roundP (trP m)).best.length (iL (iN (roundP (trP m)).best)))) := by
 refine enter Try.func31 rfl Try.ntmps31 rfl ?_
 refine go TR_ok 200 rfl ?_
 refine bx rfl rfl rfl (cs := tmL m) rfl ?_
 intro g1 u1 hg1 hs1 q1 B1
 have q := q1
 refine go TR_ok 200 rfl ?_
 repeat ((first | refine ldA TR_ok rfl rfl rfl rfl rfl (Bk.all B1) ?_ | refine ld TR_ok rfl rfl rfl rfl (Bk.get B1 rfl) ?_ | refine gT rfl rfl rfl rfl ?_ | refine gF rfl rfl rfl rfl ?_ | refine condT rfl rfl ?_ | refine condF rfl rfl ?_); refine go TR_ok 200 rfl ?_)
 refine call rfl rfl rfl (ok _ (by decide) rfl) (toured_any m w0.heap.size _ (H.no q)) ?_
 rintro v w ⟨⟨b, rfl, hb⟩, qk⟩
 have B1 := B1.no qk
 have q := q.trans qk
 cases b with
 | false =>
  refine go TR_ok 200 rfl ?_
  repeat ((first | refine ldA TR_ok rfl rfl rfl rfl rfl (Bk.all B1) ?_ | refine ld TR_ok rfl rfl rfl rfl (Bk.get B1 rfl) ?_ | refine gT rfl rfl rfl rfl ?_ | refine gF rfl rfl rfl rfl ?_ | refine condT rfl rfl ?_ | refine condF rfl rfl ?_); refine go TR_ok 200 rfl ?_)
  exact ret (ret3 Try.results31 rfl rfl rfl ⟨q, .inl ⟨fun h => (by have := hb.2 h; cases this), rfl⟩⟩)
 | true =>
 have h := hb.1 rfl
 have H1 := H.no q
 refine go TR_ok 200 rfl ?_
 repeat ((first | refine ldA TR_ok rfl rfl rfl rfl rfl (Bk.all B1) ?_ | refine ld TR_ok rfl rfl rfl rfl (Bk.get B1 rfl) ?_ | refine gT rfl rfl rfl rfl ?_ | refine gF rfl rfl rfl rfl ?_ | refine condT rfl rfl ?_ | refine condF rfl rfl ?_); refine go TR_ok 200 rfl ?_)
 have l1 := B1.lt
 have lq0 := q.size
 refine nw rfl rfl (z := .agg (List.replicate 2304 (I 0)).toArray) (by kernel_rfl) (cs := List.replicate 2304 (I 0)) rfl ?_
 intro g5 w hg5 hs5 qk B5
 have B1 := B1.no qk
 have q := q.trans qk
 refine go TR_ok 200 rfl ?_
 refine nw rfl rfl (z := .slice none 0 0) (by kernel_rfl) (cs := [.slice none 0 0]) rfl ?_
 intro g6 w hg6 hs6 qk B6
 have B1 := B1.no qk
 have B5 := B5.no qk
 have q := q.trans qk
 refine go TR_ok 200 rfl ?_
 refine nw rfl rfl (z := .slice none 0 0) (by kernel_rfl) (cs := [.slice none 0 0]) rfl ?_
 intro g7 w hg7 hs7 qk B7
 have B1 := B1.no qk
 have B5 := B5.no qk
 have B6 := B6.no qk
 have q := q.trans qk
 refine go TR_ok 200 rfl ?_
 refine nw rfl rfl (z := .int .i64 0) (by kernel_rfl) (cs := [I 0]) rfl ?_
 intro g8 w hg8 hs8 qk B8
 have B1 := B1.no qk
 have B5 := B5.no qk
 have B6 := B6.no qk
 have B7 := B7.no qk
 have q := q.trans qk
 refine go TR_ok 200 rfl ?_
 have lq := q.size
 refine st TR_ok rfl rfl rfl rfl (v := I (-1)) rfl rfl B8 rfl ?_
 intro w qk B8 hz8
 have B8 : Bk w g8 3 [I (-1)] := B8
 have B1 := B1.keep qk (by omega)
 have B5 := B5.keep qk (by omega)
 have B6 := B6.keep qk (by omega)
 have B7 := B7.keep qk (by omega)
 have q := q.step qk (fun k hk e => by omega)
 refine go TR_ok 200 rfl ?_
 refine nw rfl rfl (z := .nilFunc) (by kernel_rfl) (cs := [.nilFunc]) rfl ?_
 intro g9 w hg9 hs9 qk B9
 have B1 := B1.no qk
 have B5 := B5.no qk
 have B6 := B6.no qk
 have B7 := B7.no qk
 have B8 := B8.no qk
 have q := q.trans qk
 refine go TR_ok 200 rfl ?_
 have lq2 := q.size
 refine st TR_ok rfl rfl rfl rfl (v := .func (.func 83) #[] (capsR g5 g6 g1 g8 g7 g9).toArray) rfl rfl B9 rfl ?_
 intro w qk B9 hz9
 have B9 : Bk w g9 143 [.func (.func 83) #[] (capsR g5 g6 g1 g8 g7 g9).toArray] := B9
 have B1 := B1.keep qk (by omega)
 have B5 := B5.keep qk (by omega)
 have B6 := B6.keep qk (by omega)
 have B7 := B7.keep qk (by omega)
 have B8 := B8.keep qk (by omega)
 have q := q.step qk (fun k hk e => by omega)
 refine go TR_ok 200 rfl ?_
 repeat ((first | refine ldA TR_ok rfl rfl rfl rfl rfl (Bk.all B1) ?_ | refine ldA TR_ok rfl rfl rfl rfl rfl (Bk.all B5) ?_ | refine ldA TR_ok rfl rfl rfl rfl rfl (Bk.all B6) ?_ | refine ldA TR_ok rfl rfl rfl rfl rfl (Bk.all B7) ?_ | refine ldA TR_ok rfl rfl rfl rfl rfl (Bk.all B8) ?_ | refine ldA TR_ok rfl rfl rfl rfl rfl (Bk.all B9) ?_ | refine ld TR_ok rfl rfl rfl rfl (Bk.get B1 rfl) ?_ | refine ld TR_ok rfl rfl rfl rfl (Bk.get B5 rfl) ?_ | refine ld TR_ok rfl rfl rfl rfl (Bk.get B6 rfl) ?_ | refine ld TR_ok rfl rfl rfl rfl (Bk.get B7 rfl) ?_ | refine ld TR_ok rfl rfl rfl rfl (Bk.get B8 rfl) ?_ | refine ld TR_ok rfl rfl rfl rfl (Bk.get B9 rfl) ?_ | refine gT rfl rfl rfl rfl ?_ | refine gF rfl rfl rfl rfl ?_ | refine condT rfl rfl ?_ | refine condF rfl rfl ?_); refine go TR_ok 200 rfl ?_)
 have hI : RI m w0.heap.size g5 g6 g1 g8 g7 g9 w [] ⟨List.replicate 2304 0, [], -1⟩ :=
  ⟨H.no q, B1, by show Bk w g5 142 (iL (List.replicate 2304 0)); rw [iL_rep]; exact B5, List.length_replicate, B8, B9, none, 0, none, 0, B6, own_nil, B7, own_nil, fun k e => by cases e⟩
 have X := more_any2 m w0.heap.size g5 g6 g1 g8 g7 g9 ⟨by omega, by omega, by omega, by omega, by omega, by omega⟩ h m.S.l.length 0 0 0 [] _ w (by simp) (by decide) (Nat.zero_le _) (by decide) (by decide) hI
 refine call rfl rfl rfl (ok _ (by decide) rfl) X ?_
 rintro v w5 ⟨hI5, q5⟩
 have q : Chg No w0 w5 := q.step q5 (fun k hk e => by omega)
 have hr : moreR (trP m) m.S.l.length 0 0 0 [] ⟨List.replicate 2304 0, [], -1⟩ = roundP (trP m) := rfl
 rw [hr] at hI5
 generalize roundP (trP m) = R at *
 obtain ⟨A, c, A', c', Bn, on, Bb, ob, ne⟩ := hI5.bn
 have B8 := hI5.b8
 refine go TR_ok 200 rfl ?_
 repeat ((first | refine ldA TR_ok rfl rfl rfl rfl rfl (Bk.all B8) ?_ | refine ld TR_ok rfl rfl rfl rfl (Bk.get B8 rfl) ?_ | refine gT rfl rfl rfl rfl ?_ | refine gF rfl rfl rfl rfl ?_ | refine condT rfl rfl ?_ | refine condF rfl rfl ?_); refine go TR_ok 200 rfl ?_)
 by_cases h1 : R.least < 0
 ·rw [decide_eq_true h1]
  refine go TR_ok 200 rfl ?_
  repeat ((first | refine ldA TR_ok rfl rfl rfl rfl rfl (Bk.all B8) ?_ | refine ld TR_ok rfl rfl rfl rfl (Bk.get B8 rfl) ?_ | refine gT rfl rfl rfl rfl ?_ | refine gF rfl rfl rfl rfl ?_ | refine condT rfl rfl ?_ | refine condF rfl rfl ?_); refine go TR_ok 200 rfl ?_)
  exact ret (ret3 Try.results31 rfl rfl rfl ⟨q, .inr (.inl ⟨h, h1, rfl⟩)⟩)
 rw [decide_eq_false h1]
 refine go TR_ok 200 rfl ?_
 repeat ((first | refine ldA TR_ok rfl rfl rfl rfl rfl (Bk.all B8) ?_ | refine ld TR_ok rfl rfl rfl rfl (Bk.get B8 rfl) ?_ | refine gT rfl rfl rfl rfl ?_ | refine gF rfl rfl rfl rfl ?_ | refine condT rfl rfl ?_ | refine condF rfl rfl ?_); refine go TR_ok 200 rfl ?_)
 refine draw mixed (fun w' => Chg No w5 w') ([0,1,2,3,4].map (fun i => (i, true))) rfl (by kernel_rfl) (Chg.drew _) ?_
 refine goH TR_ok 200 rfl ?_
 refine quietH rfl (fun w' hS => r_load TR_ok rfl rfl rfl (Bk.get (Bb.no hS) rfl)) ?_
 refine goH TR_ok 200 rfl ?_
 refine quietH rfl (fun w' hS => r_load TR_ok rfl rfl rfl (Bk.get (B8.no hS) rfl)) ?_
 refine goH TR_ok 200 rfl ?_
 refine endH ?_
 refine go TR_ok 200 rfl ?_
 exact ret (ret3 Try.results31 rfl rfl rfl ⟨q.trans (Chg.drew _), .inr (.inr ⟨h, by omega, A', c', rfl, own_no (own_base ob (by omega)) (Chg.drew _)⟩)⟩)
end Go.Proofs.Yteenhfnamjbaiaa
