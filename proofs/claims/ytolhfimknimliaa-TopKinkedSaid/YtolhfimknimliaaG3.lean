/- The contract of line.least: the maps of the least kinks. -/
import Derived.Test.YtolhfimknimliaaG2
namespace Go.Proofs.Ytolhfimknimliaa.L
open Go.Ev Go.Proofs Go.Bend
attribute [local irreducible] At AtH
theorem K120 : Go.Maps.Keyed Try.prog 120 := Go.Maps.Keyed.of_law (deep_law_laid (by kernel_rfl) (m := 2) (by omega) (of_decide_eq_true (by kernel_rfl)) (by kernel_rfl) (by rw [Try.underlying120]))
def ekP (p : Int × Int) : Value := .agg #[I p.1, I p.2]
theorem ekP_inj (a : Int × Int) : ∀ a', ekP a' = ekP a → a' = a := by
 intro a' h
 obtain ⟨x, y⟩ := a
 obtain ⟨x', y'⟩ := a'
 simp [ekP] at h
 obtain ⟨rfl, rfl⟩ := h
 rfl
theorem wf_i64 {x : Int} (h0 : -9223372036854775808 ≤ x) (h1 : x ≤ 9223372036854775807) : (Lit.int .i64 x).wf = true := by
 have hmin : IntKind.i64.min = -9223372036854775808 := by decide
 have hmax : IntKind.i64.max = 9223372036854775807 := by decide
 simp [Lit.wf, hmin, hmax]
 omega
theorem tyN : 1 ≤ Try.prog.types.size := of_decide_eq_true (by kernel_rfl)
theorem kP (p : Int × Int) (h1 : -1000000 ≤ p.1 ∧ p.1 ≤ 1000000) (h2 : -1000000 ≤ p.2 ∧ p.2 ≤ 1000000) : ∃ l, keyOf Try.prog 120 (ekP p) = some l :=
 keyArr_some (n := 2) (b := false) (by kernel_rfl) (vs := [I p.1, I p.2]) rfl (fun v hv => by simp at hv; rcases hv with rfl | rfl <;> exact wf_i64 (by omega) (by omega)) tyN
abbrev MqI (w : World) (b : Nat) (g : Int × Int → Option Int) : Prop := Mq Try.prog 120 w b ekP I g
/-- the maps from some gate on -/
def MpS (w : World) (l : List Ga) (f : Nat → Value) (g k B : Nat) : Prop := ∀ j, k ≤ j → j + 1 < l.length → ∃ b, f j = .map (some b) ∧ MqI w b (gI l j) ∧ g < b ∧ b < B
theorem MpS.keep {w w' : World} {l : List Ga} {f : Nat → Value} {g k B : Nat} {M : Nat → Prop} (h : MpS w l f g k B) (c : Chg M w w') (hm : ∀ b, g < b → b < B → ¬ M b) : MpS w' l f g k B := fun j h1 h2 => by
 obtain ⟨b, e1, e2, e3, e4⟩ := h j h1 h2
 exact ⟨b, e1, e2.keep c (hm b e3 e4), e3, e4⟩
theorem MpS.no {w w' : World} {l : List Ga} {f : Nat → Value} {g k B : Nat} (h : MpS w l f g k B) (c : Chg No w w') : MpS w' l f g k B := h.keep c fun _ _ _ h => h
theorem MpS.more {w : World} {l : List Ga} {f : Nat → Value} {g k B B' : Nat} (h : MpS w l f g k B) (hB : B ≤ B') : MpS w l f g k B' := fun j h1 h2 => by
 obtain ⟨b, e1, e2, e3, e4⟩ := h j h1 h2
 exact ⟨b, e1, e2, e3, by omega⟩
/-- a map under way: what is done before a place in the first gate, or there before one in the second -/
def gB (g : Int × Int → Option Int) (a b : Int) : Int × Int → Option Int := fun p => if p.1 < a ∨ (p.1 = a ∧ p.2 < b) then g p else none
theorem gI_eq {l : List Ga} {i : Nat} {g0 g1 : Ga} (h0 : l[i]? = some g0) (h1 : l[i + 1]? = some g1) (p : Int × Int) : gI l i p = if g0.lo ≤ p.1 ∧ p.1 ≤ g0.hi ∧ g1.lo ≤ p.2 ∧ p.2 ≤ g1.hi then some (minK (l.drop i) p.1 p.2) else none := by
 unfold gI
 rw [h0, h1]
theorem gB_start {l : List Ga} {i : Nat} {g0 g1 : Ga} (h0 : l[i]? = some g0) (h1 : l[i + 1]? = some g1) (p : Int × Int) : none = gB (gI l i) g0.lo g1.lo p := by
 unfold gB
 rw [gI_eq h0 h1]
 split
 ·rw [if_neg (by omega)]
 ·rfl
theorem gB_line {l : List Ga} {i : Nat} {g0 g1 : Ga} (h0 : l[i]? = some g0) (h1 : l[i + 1]? = some g1) (a : Int) (p : Int × Int) : gB (gI l i) a (g1.hi + 1) p = gB (gI l i) (a + 1) g1.lo p := by
 unfold gB
 rw [gI_eq h0 h1]
 by_cases hr : g0.lo ≤ p.1 ∧ p.1 ≤ g0.hi ∧ g1.lo ≤ p.2 ∧ p.2 ≤ g1.hi
 ·rw [if_pos hr]
  by_cases hp : p.1 ≤ a
  ·rw [if_pos (by omega), if_pos (by omega)]
  ·rw [if_neg (by omega), if_neg (by omega)]
 ·rw [if_neg hr]
  simp
theorem gB_end {l : List Ga} {i : Nat} {g0 g1 : Ga} (h0 : l[i]? = some g0) (h1 : l[i + 1]? = some g1) (p : Int × Int) : gB (gI l i) (g0.hi + 1) g1.lo p = gI l i p := by
 unfold gB
 rw [gI_eq h0 h1]
 by_cases hr : g0.lo ≤ p.1 ∧ p.1 ≤ g0.hi ∧ g1.lo ≤ p.2 ∧ p.2 ≤ g1.hi
 ·rw [if_pos hr, if_pos (by omega)]
 ·rw [if_neg hr]
  simp
theorem gB_step {l : List Ga} {i : Nat} {g0 g1 : Ga} (h0 : l[i]? = some g0) (h1 : l[i + 1]? = some g1) {a b : Int} (ha : g0.lo ≤ a ∧ a ≤ g0.hi) (hb : g1.lo ≤ b ∧ b ≤ g1.hi) {v : Int} (hv : v = minK (l.drop i) a b) (p : Int × Int) : (if p = (a, b) then some v else gB (gI l i) a b p) = gB (gI l i) a (b + 1) p := by
 by_cases hp : p = (a, b)
 ·subst hp
  rw [if_pos rfl, hv]
  unfold gB
  rw [if_pos (.inr ⟨rfl, show b < b + 1 by omega⟩), gI_eq h0 h1, if_pos ⟨ha.1, ha.2, hb.1, hb.2⟩]
 ·rw [if_neg hp]
  unfold gB
  by_cases hc : p.1 < a ∨ (p.1 = a ∧ p.2 < b)
  ·rw [if_pos hc, if_pos (by omega)]
  ·rw [if_neg hc, if_neg]
   intro h
   apply hp
   obtain ⟨x, y⟩ := p
   simp only at hc h
   obtain rfl : x = a := by omega
   obtain rfl : y = b := by omega
   rfl
theorem be_asc {l : List Ga} (hl : BeOk l) : Asc l := asc_of l hl.up
theorem drop3 {l : List Ga} {i : Nat} {g0 g1 g2 : Ga} (h0 : l[i]? = some g0) (h1 : l[i + 1]? = some g1) (h2 : l[i + 2]? = some g2) : l.drop i = g0 :: g1 :: g2 :: l.drop (i + 3) := by
 obtain ⟨k0, rfl⟩ := List.getElem?_eq_some_iff.1 h0
 obtain ⟨k1, rfl⟩ := List.getElem?_eq_some_iff.1 h1
 obtain ⟨k2, rfl⟩ := List.getElem?_eq_some_iff.1 h2
 rw [List.drop_eq_getElem_cons k0, List.drop_eq_getElem_cons k1, List.drop_eq_getElem_cons k2]
theorem drop2 {l : List Ga} {i : Nat} {g0 g1 : Ga} (h0 : l[i]? = some g0) (h1 : l[i + 1]? = some g1) : l.drop i = g0 :: g1 :: l.drop (i + 2) := by
 obtain ⟨k0, rfl⟩ := List.getElem?_eq_some_iff.1 h0
 obtain ⟨k1, rfl⟩ := List.getElem?_eq_some_iff.1 h1
 rw [List.drop_eq_getElem_cons k0, List.drop_eq_getElem_cons k1]
theorem minK_nn' {l : List Ga} (hl : BeOk l) (i : Nat) (a b : Int) : 0 ≤ minK (l.drop i) a b :=
 minK_nn _ (asc_drop l i (be_asc hl)) (fun g hg => (hl.ok g (List.mem_of_mem_drop hg)).1.lh) a b
theorem minK_last {l : List Ga} {i : Nat} {g0 g1 : Ga} (h0 : l[i]? = some g0) (h1 : l[i + 1]? = some g1) (hn : i + 2 = l.length) (a b : Int) : minK (l.drop i) a b = 0 := by
 rw [drop2 h0 h1, List.drop_eq_nil_of_le (by omega)]
 rfl
theorem minK_mid {l : List Ga} (hl : BeOk l) {i : Nat} {g0 g1 g2 : Ga} (h0 : l[i]? = some g0) (h1 : l[i + 1]? = some g1) (h2 : l[i + 2]? = some g2) (a b : Int) :
  minK (l.drop i) a b = mn (fun c => max (turnP g0.z g1.z g2.z a b c) (minK (l.drop (i + 1)) b c)) g2.lo (g2.hi - g2.lo + 1).toNat := by
 rw [drop3 h0 h1 h2, minK_cons, drop2 h1 h2]
 congr 1
 funext c
 have := minK_nn' hl (i + 1) b c
 rw [drop2 h1 h2] at this
 rw [show max 0 (minK (g1 :: g2 :: l.drop (i + 1 + 2)) b c) = minK (g1 :: g2 :: l.drop (i + 1 + 2)) b c by omega]
set_option maxRecDepth 20000 in
set_option maxHeartbeats 32000000 in
theorem least_ok (l : List Ga) (hl : BeOk l) (A : Option Addr) (c B : Nat) (w0 : World) (S0 : SG w0 B A l) :
  Ret Try.prog 51 [.slice A l.length c] w0 fun v w' => ∃ g mm f, v = .slice (some ⟨g, 0, none⟩) (l.length - 1) (l.length - 1) ∧ Chg No w0 w' ∧ w0.heap.size ≤ g ∧ w'.rowIs g 118 mm f ∧ l.length - 1 ≤ mm ∧ MpS w' l f g 0 w'.heap.size := by
 have S0 := S0.more S0.2.1 (Nat.le_refl _)
 have hn0 := hl.n0
 have hn1 := hl.n1
 refine enter Try.func51 rfl Try.ntmps51 rfl ?_
 refine go T_ok 200 rfl ?_
 rw [w64_id (x := (l.length : Int) - 1) (by omega) (by omega)]
 refine mk T_ok rfl rfl rfl rfl rfl (l.length - 1) (by omega) (z := .map none) (by kernel_rfl) (by unfold maxLen; omega) (by omega) ?_
 intro g w hg hs q own
 obtain ⟨g', mm, f, hA, _, hrow, hmm, hxx⟩ := own_row own (by omega)
 clear hxx
 obtain rfl : g' = g := by injection hA with h; injection h with h; exact h.symm
 have hmm : l.length - 1 ≤ mm := by omega
 clear own hA
 refine go T_ok 200 rfl ?_
 rw [w64_id (x := (l.length : Int) - 2) (by omega) (by omega), show (l.length : Int) - 2 = ((l.length - 1 : Nat) : Int) - 1 by omega]
 refine loop [0, 3, 4, 5] (fun x : Nat × (Nat → Value) => [.slice A l.length c, .int .i64 (l.length : Int), .slice (some ⟨g', 0, none⟩) (l.length - 1) (l.length - 1), .int .i64 ((x.1 : Int) - 1)])
  (fun x w' => x.1 + 1 ≤ l.length ∧ Chg No w0 w' ∧ w'.rowIs g' 118 mm x.2 ∧ MpS w' l x.2 g' x.1 w'.heap.size) (fun x => x.1) (l.length - 1, f) (fun _ => rfl) rfl ⟨by simp only; omega, q, hrow, fun j h1 h2 => absurd h1 (by simp only; omega)⟩ ?_
 have hgB : w0.heap.size ≤ g' := by omega
 clear hrow q hs f hg
 rintro ⟨k, f⟩ τ w ⟨hk, q, hrow, hmp⟩
 simp only at hk hrow hmp
 dsimp only
 refine go T_ok 200 rfl ?_
 refine condD rfl (fun hlt => ?_) (fun hlt => ?_)
 ·obtain ⟨i, rfl⟩ : ∃ i, k = i + 1 := ⟨k - 1, by omega⟩
  rw [show (((i + 1 : Nat) : Int) - 1) = (i : Int) by omega]
  have e1 : w64 ((i : Int) + 1) = ((i + 1 : Nat) : Int) := w64_id (by omega) (by omega)
  have e2 : w64 ((i : Int) + 2) = ((i + 2 : Nat) : Int) := w64_id (by omega) (by omega)
  have ed : w64 ((i : Int) - 1) = (i : Int) - 1 := w64_id (by omega) (by omega)
  obtain ⟨g0, hg0⟩ := get_ga (l := l) (i := i) (by omega)
  obtain ⟨g1, hg1⟩ := get_ga (l := l) (i := i + 1) (by omega)
  have k0 := (hl.ok g0 (List.mem_of_getElem? hg0)).1
  have k1 := (hl.ok g1 (List.mem_of_getElem? hg1)).1
  have a0 := k0.l0; have a1 := k0.lh; have a2 := k0.h1
  have b0 := k1.l0; have b1 := k1.lh; have b2 := k1.h1
  have z0 := k0.z0
  have z01 := hl.up i g0 hg0 g1 hg1
  refine go T_ok 200 rfl ?_
  refine mkQ (kt := 120) rfl rfl ?_
  intro bi w1 hbi hs1 q1 hM
  have hM : MqI w1 bi (fun _ => none) := hM ekP I
  have hM : MqI w1 bi (gB (gI l i) g0.lo g1.lo) := hM.ext (gB_start hg0 hg1)
  have hgl := hrow.lt
  have hrow := rowIs_no hrow q1
  have hmp := (hmp.no q1).more (show _ ≤ bi by omega)
  have hzq := q.size
  have q := q.trans q1
  have ub : w0.heap.size ≤ bi := by omega
  have ug : g' < bi := by omega
  refine go T_ok 200 rfl ?_
  refine idx T_ok rfl rfl rfl rfl rfl i rfl (by omega) ?_
  refine go T_ok 200 rfl ?_
  refine stR T_ok rfl rfl rfl rfl (v := .map (some bi)) rfl rfl hrow (i := 0 + i * 1) (by omega) ?_
  intro w2 q2 hrow hs2
  have hM : MqI w2 bi (gB (gI l i) g0.lo g1.lo) := Mq.keep hM q2 (by omega)
  have hmp := hmp.keep q2 (fun b x1 x2 e => by omega)
  have q := q.step q2 (fun k hk e => by omega)
  obtain ⟨f', hf'⟩ : ∃ f' : Nat → Value, f' = fun j => if j = 0 + i * 1 then Value.map (some bi) else f j := ⟨_, rfl⟩
  rw [← hf'] at hrow
  have hfi : f' i = .map (some bi) := by rw [hf']; exact if_pos (by omega)
  have hmp : MpS w2 l f' g' (i + 1) bi := fun j h1 h2 => by
   obtain ⟨b, x1, x2⟩ := hmp j h1 h2
   exact ⟨b, by rw [hf']; show (if j = 0 + i * 1 then _ else _) = _; rw [if_neg (by omega)]; exact x1, x2⟩
  have hbl : bi < w2.heap.size := by omega
  clear hf' q1 q2 hs1 hs2 hbi hgl hzq
  refine go T_ok 200 rfl ?_
  obtain ⟨bx, ox, hAx, hbx, hcx⟩ := (S0.no q).el gaL_len hg0
  rw [hAx]
  refine idx T_ok rfl rfl rfl rfl rfl (i) rfl (by omega) ?_
  refine go T_ok 200 rfl ?_
  refine ld T_ok rfl rfl rfl rfl (hcx.get (i := 1) rfl) ?_
  refine go T_ok 200 rfl ?_
  rw [← hAx]
  clear hcx hbx hAx
  refine loop [0, 3, 4, 5, 6] (fun a : Int => [.slice A l.length c, .int .i64 (l.length : Int), .slice (some ⟨g', 0, none⟩) (l.length - 1) (l.length - 1), .int .i64 (i : Int), .int .i64 a])
   (fun a w' => g0.lo ≤ a ∧ a ≤ g0.hi + 1 ∧ Chg No w0 w' ∧ w'.rowIs g' 118 mm f' ∧ MpS w' l f' g' (i + 1) bi ∧ MqI w' bi (gB (gI l i) a g1.lo) ∧ bi < w'.heap.size) (fun a => (g0.hi + 1 - a).toNat) g0.lo (fun _ => rfl) rfl ⟨Int.le_refl _, by omega, q, hrow, hmp, hM, hbl⟩ ?_
  clear hmp hrow q hM hbl
  rintro a τ w ⟨ha0, ha1, q, hrow, hmp, hM, hbl⟩
  refine go T_ok 200 rfl ?_
  obtain ⟨bx, ox, hAx, hbx, hcx⟩ := (S0.no q).el gaL_len hg0
  rw [hAx]
  refine idx T_ok rfl rfl rfl rfl rfl (i) rfl (by omega) ?_
  refine go T_ok 200 rfl ?_
  refine ld T_ok rfl rfl rfl rfl (hcx.get (i := 2) rfl) ?_
  refine go T_ok 200 rfl ?_
  rw [← hAx]
  clear hcx hbx hAx
  refine condD rfl (fun hlt => ?_) (fun hlt => ?_)
  ·have e3 : w64 (a + 1) = a + 1 := w64_id (by omega) (by omega)
   refine go T_ok 200 rfl ?_
   rw [e1]
   obtain ⟨bx, ox, hAx, hbx, hcx⟩ := (S0.no q).el gaL_len hg1
   rw [hAx]
   refine idx T_ok rfl rfl rfl rfl rfl (i + 1) rfl (by omega) ?_
   refine go T_ok 200 rfl ?_
   refine ld T_ok rfl rfl rfl rfl (hcx.get (i := 1) rfl) ?_
   refine go T_ok 200 rfl ?_
   rw [← hAx]
   clear hcx hbx hAx
   refine loop [0, 3, 4, 5, 6, 7] (fun b : Int => [.slice A l.length c, .int .i64 (l.length : Int), .slice (some ⟨g', 0, none⟩) (l.length - 1) (l.length - 1), .int .i64 (i : Int), .int .i64 a, .int .i64 b])
    (fun b w' => g1.lo ≤ b ∧ b ≤ g1.hi + 1 ∧ Chg No w0 w' ∧ w'.rowIs g' 118 mm f' ∧ MpS w' l f' g' (i + 1) bi ∧ MqI w' bi (gB (gI l i) a b) ∧ bi < w'.heap.size) (fun b => (g1.hi + 1 - b).toNat) g1.lo (fun _ => rfl) rfl ⟨Int.le_refl _, by omega, q, hrow, hmp, hM, hbl⟩ ?_
   clear hmp hrow q hM hbl
   rintro b τ w ⟨hb0, hb1, q, hrow, hmp, hM, hbl⟩
   refine go T_ok 200 rfl ?_
   rw [e1]
   obtain ⟨bx, ox, hAx, hbx, hcx⟩ := (S0.no q).el gaL_len hg1
   rw [hAx]
   refine idx T_ok rfl rfl rfl rfl rfl (i + 1) rfl (by omega) ?_
   refine go T_ok 200 rfl ?_
   refine ld T_ok rfl rfl rfl rfl (hcx.get (i := 2) rfl) ?_
   refine go T_ok 200 rfl ?_
   rw [← hAx]
   clear hcx hbx hAx
   refine condD rfl (fun hlt2 => ?_) (fun hlt2 => ?_)
   ·have e4 : w64 (b + 1) = b + 1 := w64_id (by omega) (by omega)
    refine go T_ok 200 rfl ?_
    rw [w64_id (x := (l.length : Int) - 2) (by omega) (by omega)]
    by_cases hlast : i + 2 = l.length
    ·rw [show ((i : Int) == (l.length : Int) - 2) = true by rw [beq_iff_eq]; omega]
     refine go T_ok 200 rfl ?_
     refine condT rfl rfl ?_
     refine go T_ok 200 rfl ?_
     refine idx T_ok rfl rfl rfl rfl rfl i rfl (by omega) ?_
     refine go T_ok 200 rfl ?_
     refine ld T_ok rfl rfl rfl rfl (hrow.cell (i := 0 + i * 1) (by omega)) ?_
     rw [show f' (0 + i * 1) = .map (some bi) by rw [show 0 + i * 1 = i by omega]; exact hfi]
     refine go T_ok 200 rfl ?_
     refine bldA T_ok rfl rfl rfl (z := .agg #[I 0, I 0]) (by kernel_rfl) (cs := [I a, I b]) rfl ?_
     refine go T_ok 200 rfl ?_
     refine updQ K120 rfl rfl Try.underlying118 rfl (a := (a, b)) rfl (kP (a, b) (by simp only; omega) (by simp only; omega)) (ekP_inj _) (v := 0) rfl hM ?_
     intro w3 q3 hM hs3
     have hM := hM.ext (gB_step hg0 hg1 ⟨ha0, hlt⟩ ⟨hb0, hlt2⟩ (minK_last hg0 hg1 hlast a b).symm)
     have hrow := rowIs_keep hrow q3 (by omega)
     have hmp := hmp.keep q3 (fun b x1 x2 e => by omega)
     have q := q.step q3 (fun k hk e => by omega)
     refine go T_ok 200 rfl ?_
     rw [e4]
     exact round ⟨b + 1, rfl, ⟨by omega, by omega, q, hrow, hmp, hM, by omega⟩, by omega⟩
    rw [show ((i : Int) == (l.length : Int) - 2) = false by rw [beq_eq_false_iff_ne]; omega]
    obtain ⟨g2, hg2⟩ := get_ga (l := l) (i := i + 2) (by omega)
    have k2 := (hl.ok g2 (List.mem_of_getElem? hg2)).1
    have c0 := k2.l0; have c1 := k2.lh; have c2 := k2.h1; have z2 := k2.z1
    have z12 := hl.up (i + 1) g1 hg1 g2 hg2
    have hmid := minK_mid hl hg0 hg1 hg2 a b
    obtain ⟨F, hF⟩ : ∃ F : Int → Int, F = fun c => max (turnP g0.z g1.z g2.z a b c) (minK (l.drop (i + 1)) b c) := ⟨_, rfl⟩
    rw [← hF] at hmid
    refine go T_ok 200 rfl ?_
    refine condF rfl rfl ?_
    refine go T_ok 200 rfl ?_
    rw [e2]
    obtain ⟨bx, ox, hAx, hbx, hcx⟩ := (S0.no q).el gaL_len hg2
    rw [hAx]
    refine idx T_ok rfl rfl rfl rfl rfl (i + 2) rfl (by omega) ?_
    refine go T_ok 200 rfl ?_
    refine ld T_ok rfl rfl rfl rfl (hcx.get (i := 1) rfl) ?_
    refine go T_ok 200 rfl ?_
    rw [← hAx]
    clear hcx hbx hAx
    refine loop [0, 3, 4, 5, 6, 7, 8, 9] (fun x : Nat × Int × Int => [.slice A l.length c, .int .i64 (l.length : Int), .slice (some ⟨g', 0, none⟩) (l.length - 1) (l.length - 1), .int .i64 (i : Int), .int .i64 a, .int .i64 b, .int .i64 x.2.1, .int .i64 x.2.2])
     (fun x w' => g2.lo + (x.1 : Int) ≤ g2.hi + 1 ∧ x.2.1 = mn F g2.lo x.1 ∧ x.2.2 = g2.lo + (x.1 : Int) ∧ Chg No w0 w' ∧ w'.rowIs g' 118 mm f' ∧ MpS w' l f' g' (i + 1) bi ∧ MqI w' bi (gB (gI l i) a b) ∧ bi < w'.heap.size) (fun x => (g2.hi + 1 - g2.lo).toNat - x.1) (0, -1, g2.lo) (fun _ => rfl) rfl ⟨by simp; omega, rfl, by simp, q, hrow, hmp, hM, hbl⟩ ?_
    clear hmp hrow q hM hbl
    rintro ⟨k, bst, cc⟩ τ w ⟨hk1, hbst, hcc, q, hrow, hmp, hM, hbl⟩
    simp only at hk1 hbst hcc
    dsimp only
    refine go T_ok 200 rfl ?_
    rw [e2]
    obtain ⟨bx, ox, hAx, hbx, hcx⟩ := (S0.no q).el gaL_len hg2
    rw [hAx]
    refine idx T_ok rfl rfl rfl rfl rfl (i + 2) rfl (by omega) ?_
    refine go T_ok 200 rfl ?_
    refine ld T_ok rfl rfl rfl rfl (hcx.get (i := 2) rfl) ?_
    refine go T_ok 200 rfl ?_
    rw [← hAx]
    clear hcx hbx hAx
    refine condD rfl (fun hlt3 => ?_) (fun hlt3 => ?_)
    ·have e5 : w64 (cc + 1) = cc + 1 := by rw [w64_id (by omega) (by omega)]
     obtain ⟨bn, hfn, hMn, hbn1, hbn2⟩ := hmp (i + 1) (Nat.le_refl _) (by omega)
     obtain ⟨bx, ox, hAx, hbx, hcx⟩ := (S0.no q).el gaL_len hg0
     obtain ⟨by', oy, hAy, hby, hcy⟩ := (S0.no q).el gaL_len hg1
     obtain ⟨bz, oz, hAz, hbz, hcz⟩ := (S0.no q).el gaL_len hg2
     obtain ⟨rfl, rfl⟩ : by' = bx ∧ oy = ox := by rw [hAx] at hAy; injection hAy with h; injection h with h1 h2; exact ⟨h1.symm, h2.symm⟩
     obtain ⟨rfl, rfl⟩ : bz = by' ∧ oz = oy := by rw [hAx] at hAz; injection hAz with h; injection h with h1 h2; exact ⟨h1.symm, h2.symm⟩
     have hq0 := q.size
     have hgl := hrow.lt
     have hFc : F cc = max (turnP g0.z g1.z g2.z a b cc) (minK (l.drop (i + 1)) b cc) := by rw [hF]
     have hgn : gI l (i + 1) (b, cc) = some (minK (l.drop (i + 1)) b cc) := by
      rw [gI_eq hg1 hg2, if_pos ⟨hb0, hlt2, by omega, hlt3⟩]
     refine go T_ok 200 rfl ?_
     refine draw mixed (fun w' => Chg No w w') ([0,1,2,3,4,5,6,7,8,9,10,11,12,13,14,15,16,17,18,19,21,22,23,24,25,26,27,28,29].map (fun i => (i, true)) ++ [(20, false)] ++ [30,31].map (fun i => (i, true))) rfl (by kernel_rfl) (Chg.drew _) ?_
     refine goH T_ok 200 rfl ?_
     rw [hAx]
     refine quietH rfl (fun w' hS => r_idx T_ok rfl rfl rfl rfl (i) rfl (by omega)) ?_
     refine goH T_ok 200 rfl ?_
     refine quietH rfl (fun w' hS => r_load T_ok rfl rfl rfl ((hcx.keep (by omega) hS (fun h => h)).get (i := 0) rfl)) ?_
     refine goH T_ok 200 rfl ?_
     rw [e1]
     refine quietH rfl (fun w' hS => r_idx T_ok rfl rfl rfl rfl (i + 1) rfl (by omega)) ?_
     refine goH T_ok 200 rfl ?_
     refine quietH rfl (fun w' hS => r_load T_ok rfl rfl rfl ((hcy.keep (by omega) hS (fun h => h)).get (i := 0) rfl)) ?_
     refine goH T_ok 200 rfl ?_
     rw [e2]
     refine quietH rfl (fun w' hS => r_idx T_ok rfl rfl rfl rfl (i + 2) rfl (by omega)) ?_
     refine goH T_ok 200 rfl ?_
     refine quietH rfl (fun w' hS => r_load T_ok rfl rfl rfl ((hcz.keep (by omega) hS (fun h => h)).get (i := 0) rfl)) ?_
     refine goH T_ok 200 rfl ?_
     rw [← hAx, e1]
     refine quietH rfl (fun w' hS => r_idx T_ok rfl rfl rfl rfl (i + 1) rfl (by omega)) ?_
     refine goH T_ok 200 rfl ?_
     refine quietH rfl (fun w' hS => r_load T_ok rfl rfl rfl ((hS.cell (a := ⟨g', 0 + (i + 1) * 1, none⟩) hgl (fun h => h)).trans (hrow.cell (i := 0 + (i + 1) * 1) (by omega)))) ?_
     rw [show f' (0 + (i + 1) * 1) = .map (some bn) by rw [show 0 + (i + 1) * 1 = i + 1 by omega]; exact hfn]
     refine goH T_ok 200 rfl ?_
     refine quietH rfl (fun w' hS => r_bldA T_ok rfl rfl (z := .agg #[I 0, I 0]) (by kernel_rfl) (cs := [I b, I cc]) rfl) ?_
     refine goH T_ok 200 rfl ?_
     refine quietH rfl (fun w' hS => r_lookQ K120 rfl Try.underlying118 rfl (a := (b, cc)) rfl (kP (b, cc) (by simp only; omega) (by simp only; omega)) (ekP_inj _) (hMn.no hS) (z := I 0) (by kernel_rfl) (v := I (minK (l.drop (i + 1)) b cc)) (by rw [hgn]; rfl)) ?_
     refine goH T_ok 200 rfl ?_
     have qd := Chg.drew w
     refine callE rfl rfl rfl (ok _ (by decide) rfl) (turn_any g0.z g1.z g2.z a b cc z0 z01 z12 z2 (by omega) (by omega) (by omega) _) ?_
     rintro x w3 ⟨rfl, rfl⟩
     refine ⟨qd, ?_⟩
     refine goH T_ok 200 rfl ?_
     repeat (first | (refine gTH rfl rfl rfl rfl ?_; refine goH T_ok 200 rfl ?_) | (refine gFH rfl rfl rfl rfl ?_; refine goH T_ok 200 rfl ?_))
     refine endH ?_
     rw [← hFc]
     have q := q.trans qd
     have hrow := rowIs_no hrow qd
     have hmp := hmp.no qd
     have hM := Mq.no hM qd
     have hbl : bi < w.drew.heap.size := hbl
     have hmn1 : mn F g2.lo (k + 1) = if mn F g2.lo k < 0 ∨ F (g2.lo + (k : Int)) < mn F g2.lo k then F (g2.lo + (k : Int)) else mn F g2.lo k := rfl
     rw [← hbst, ← hcc] at hmn1
     generalize w.drew = w at *
     refine go T_ok 200 rfl ?_
     by_cases hn : bst < 0
     ·rw [decide_eq_true hn]
      refine go T_ok 200 rfl ?_
      repeat ((first | refine gT rfl rfl rfl rfl ?_ | refine gF rfl rfl rfl rfl ?_ | refine condT rfl rfl ?_ | refine condF rfl rfl ?_); refine go T_ok 200 rfl ?_)
      refine go T_ok 200 rfl ?_
      rw [e5]
      refine round ⟨(k + 1, F cc, cc + 1), rfl, ⟨by simp only; omega, by simp only; rw [hmn1, if_pos (.inl hn)], by simp only; omega, q, hrow, hmp, hM, hbl⟩, by simp only; omega⟩
     rw [decide_eq_false hn]
     refine go T_ok 200 rfl ?_
     repeat ((first | refine gT rfl rfl rfl rfl ?_ | refine gF rfl rfl rfl rfl ?_ | refine condT rfl rfl ?_ | refine condF rfl rfl ?_); refine go T_ok 200 rfl ?_)
     by_cases hn2 : F cc < bst
     ·rw [decide_eq_true hn2]
      refine go T_ok 200 rfl ?_
      repeat ((first | refine gT rfl rfl rfl rfl ?_ | refine gF rfl rfl rfl rfl ?_ | refine condT rfl rfl ?_ | refine condF rfl rfl ?_); refine go T_ok 200 rfl ?_)
      refine go T_ok 200 rfl ?_
      rw [e5]
      refine round ⟨(k + 1, F cc, cc + 1), rfl, ⟨by simp only; omega, by simp only; rw [hmn1, if_pos (.inr hn2)], by simp only; omega, q, hrow, hmp, hM, hbl⟩, by simp only; omega⟩
     rw [decide_eq_false hn2]
     refine go T_ok 200 rfl ?_
     repeat ((first | refine gT rfl rfl rfl rfl ?_ | refine gF rfl rfl rfl rfl ?_ | refine condT rfl rfl ?_ | refine condF rfl rfl ?_); refine go T_ok 200 rfl ?_)
     refine go T_ok 200 rfl ?_
     rw [e5]
     refine round ⟨(k + 1, bst, cc + 1), rfl, ⟨by simp only; omega, by simp only; rw [hmn1, if_neg (fun h => h.elim hn hn2)], by simp only; omega, q, hrow, hmp, hM, hbl⟩, by simp only; omega⟩
    have hke : k = (g2.hi - g2.lo + 1).toNat := by omega
    rw [← hke, ← hbst] at hmid
    refine go T_ok 200 rfl ?_
    refine idx T_ok rfl rfl rfl rfl rfl i rfl (by omega) ?_
    refine go T_ok 200 rfl ?_
    refine ld T_ok rfl rfl rfl rfl (hrow.cell (i := 0 + i * 1) (by omega)) ?_
    rw [show f' (0 + i * 1) = .map (some bi) by rw [show 0 + i * 1 = i by omega]; exact hfi]
    refine go T_ok 200 rfl ?_
    refine bldA T_ok rfl rfl rfl (z := .agg #[I 0, I 0]) (by kernel_rfl) (cs := [I a, I b]) rfl ?_
    refine go T_ok 200 rfl ?_
    refine updQ K120 rfl rfl Try.underlying118 rfl (a := (a, b)) rfl (kP (a, b) (by simp only; omega) (by simp only; omega)) (ekP_inj _) (v := bst) rfl hM ?_
    intro w3 q3 hM hs3
    have hM := hM.ext (gB_step hg0 hg1 ⟨ha0, hlt⟩ ⟨hb0, hlt2⟩ hmid.symm)
    have hrow := rowIs_keep hrow q3 (by omega)
    have hmp := hmp.keep q3 (fun b x1 x2 e => by omega)
    have q := q.step q3 (fun k hk e => by omega)
    refine go T_ok 200 rfl ?_
    rw [e4]
    exact round ⟨b + 1, rfl, ⟨by omega, by omega, q, hrow, hmp, hM, by omega⟩, by omega⟩
   have hbe : b = g1.hi + 1 := by omega
   subst hbe
   have hM := hM.ext (gB_line hg0 hg1 a)
   refine go T_ok 200 rfl ?_
   rw [e3]
   exact round ⟨a + 1, rfl, ⟨by omega, by omega, q, hrow, hmp, hM, hbl⟩, by omega⟩
  have hae : a = g0.hi + 1 := by omega
  subst hae
  have hM := hM.ext (gB_end hg0 hg1)
  refine go T_ok 200 rfl ?_
  rw [ed]
  refine round ⟨(i, f'), rfl, ⟨by simp only; omega, q, hrow, fun j h1 h2 => ?_⟩, by simp only; omega⟩
  simp only at h1 h2
  by_cases hj : j = i
  ·subst hj
   exact ⟨bi, hfi, hM, ug, hbl⟩
  ·exact hmp.more (Nat.le_of_lt hbl) j (by omega) h2
 obtain rfl : k = 0 := by omega
 refine go T_ok 200 rfl ?_
 exact ret (ret1 (v := .slice (some ⟨g', 0, none⟩) (l.length - 1) (l.length - 1)) Try.results51 rfl ⟨g', mm, f, rfl, q, hgB, hrow, hmm, hmp⟩)
end Go.Proofs.Ytolhfimknimliaa.L
