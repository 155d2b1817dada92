/- The contract of line.Straight. -/
import Derived.Test.YtolhfimknimliaaG3
namespace Go.Proofs.Ytolhfimknimliaa.L
open Go.Ev Go.Proofs Go.Bend
attribute [local irreducible] At AtH
theorem gI_in {l : List Ga} (hl : BeOk l) {p : Int × Int} {v : Int} (h : gI l 0 p = some v) : ∃ g0 g1, l[0]? = some g0 ∧ l[1]? = some g1 ∧ InG g0 p.1 ∧ InG g1 p.2 ∧ v = minK l p.1 p.2 := by
 have hn := hl.n0
 obtain ⟨g0, h0⟩ := get_ga (l := l) (i := 0) (by omega)
 obtain ⟨g1, h1⟩ := get_ga (l := l) (i := 1) (by omega)
 rw [gI_eq h0 h1] at h
 split at h
 ·rename_i hr
  cases h
  exact ⟨g0, g1, h0, h1, ⟨hr.1, hr.2.1⟩, ⟨hr.2.2.1, hr.2.2.2⟩, rfl⟩
 ·cases h
theorem gI_some {l : List Ga} (hl : BeOk l) : ∃ p v, gI l 0 p = some v := by
 have hn := hl.n0
 obtain ⟨g0, h0⟩ := get_ga (l := l) (i := 0) (by omega)
 obtain ⟨g1, h1⟩ := get_ga (l := l) (i := 1) (by omega)
 have k0 := (hl.ok g0 (List.mem_of_getElem? h0)).1.lh
 have k1 := (hl.ok g1 (List.mem_of_getElem? h1)).1.lh
 exact ⟨(g0.lo, g1.lo), _, by rw [gI_eq h0 h1, if_pos ⟨Int.le_refl _, k0, Int.le_refl _, k1⟩]⟩
/-- the least of what came; -1 if nothing came -/
def Bst (g : Int × Int → Option Int) (V : Int × Int → Prop) (b : Int) : Prop :=
 (b = -1 ∧ ∀ p v, g p = some v → ¬ V p) ∨ ((∃ p, g p = some b) ∧ 0 ≤ b ∧ ∀ p v, V p → g p = some v → b ≤ v)
theorem Bst.step {g : Int × Int → Option Int} {V : Int × Int → Prop} {b v : Int} {p : Int × Int} (h : Bst g V b) (hp : g p = some v) (hv : 0 ≤ v) : Bst g (fun c => V c ∨ c = p) (if b < 0 ∨ v < b then v else b) := by
 rcases h with ⟨rfl, h⟩ | ⟨⟨p0, h0⟩, hb, h⟩
 ·rw [if_pos (.inl (by omega))]
  refine .inr ⟨⟨p, hp⟩, hv, fun q u hq hu => ?_⟩
  rcases hq with hq | rfl
  ·exact absurd hq (h q u hu)
  ·rw [hp] at hu; cases hu; exact Int.le_refl _
 ·by_cases hc : v < b
  ·rw [if_pos (.inr hc)]
   refine .inr ⟨⟨p, hp⟩, hv, fun q u hq hu => ?_⟩
   rcases hq with hq | rfl
   ·have := h q u hq hu; omega
   ·rw [hp] at hu; cases hu; exact Int.le_refl _
  ·rw [if_neg (by omega)]
   refine .inr ⟨⟨p0, h0⟩, hb, fun q u hq hu => ?_⟩
   rcases hq with hq | rfl
   ·exact h q u hq hu
   ·rw [hp] at hu; cases hu; omega
set_option maxRecDepth 20000 in
set_option maxHeartbeats 32000000 in
theorem Straight_ok (l : List Ga) (hl : BeOk l) (A : Option Addr) (c B : Nat) (w0 : World) (S0 : SG w0 B A l) :
  Ret Try.prog 19 [.slice A l.length c] w0 fun v w' => (∃ A2 n2 c2 k, v = .tuple #[.slice A2 n2 c2, I k, I 0] ∧ (∃ p, gI l 0 p = some k) ∧ ∀ p v, gI l 0 p = some v → k ≤ v) ∧ Chg No w0 w' := by
 have S0 := S0.more S0.2.1 (Nat.le_refl _)
 have hn0 := hl.n0
 have hn1 := hl.n1
 refine enter Try.func19 rfl Try.ntmps19 rfl ?_
 refine go T_ok 200 rfl ?_
 refine scope ?_
 refine go T_ok 200 rfl ?_
 refine call rfl rfl rfl (ok _ (by decide) rfl) (broken_ok l hl A c _ _ S0) ?_
 rintro x w ⟨rfl, q⟩
 refine go T_ok 200 rfl ?_
 refine condF rfl rfl ?_
 refine go T_ok 200 rfl ?_
 refine call rfl rfl rfl (ok _ (by decide) rfl) (least_ok l hl A c _ _ (S0.no q)) ?_
 rintro x w1 ⟨g, mm, f, rfl, q1, hgB, hrow, hmm, hmp⟩
 have hgB : w0.heap.size ≤ g := by have := q.size; omega
 have q := q.trans q1
 clear q1
 obtain ⟨b0, hf0, hM0, hb0, hb1⟩ := hmp 0 (Nat.zero_le _) (by omega)
 refine go T_ok 200 rfl ?_
 refine idx T_ok rfl rfl rfl rfl rfl 0 rfl (by omega) ?_
 refine go T_ok 200 rfl ?_
 refine ld T_ok rfl rfl rfl rfl (hrow.cell (i := 0 + 0 * 1) (by omega)) ?_
 rw [show f (0 + 0 * 1) = .map (some b0) from hf0]
 refine go T_ok 200 rfl ?_
 refine rangeQ rfl rfl Try.underlying118 rfl hM0 ?_
 intro r w2 cnt hr hs2 q2 hR
 have hrow := rowIs_no hrow q2
 have hmp := hmp.no q2
 have hz := q.size
 have q := q.trans q2
 have hrg : w1.heap.size ≤ r := by omega
 have hrb : w0.heap.size ≤ r := by omega
 obtain ⟨Bd, hBd⟩ : ∃ Bd, Bd = w1.heap.size := ⟨_, rfl⟩
 rw [← hBd] at hmp hb1 hrg
 have hgl : g < Bd := by omega
 clear hr hs2 hz hBd q2
 refine go T_ok 200 rfl ?_
 refine loop [0, 5, 6, 24] (fun x : Int × (Int × Int → Prop) × Nat => [.slice A l.length c, .slice (some ⟨g, 0, none⟩) (l.length - 1) (l.length - 1), .int .i64 x.1, .pointer (some ⟨r, 0, none⟩)])
  (fun x w' => Bst (gI l 0) x.2.1 x.1 ∧ Chg No w0 w' ∧ w'.rowIs g 118 mm f ∧ MpS w' l f g 0 Bd ∧ Rq Try.prog 120 w' b0 r ekP I (gI l 0) x.2.1 x.2.2) (fun x => x.2.2) (-1, (fun _ => False), cnt) (fun _ => rfl) rfl ⟨.inl ⟨rfl, fun _ _ _ h => h⟩, q, hrow, hmp, hR⟩ ?_
 clear hrow hmp hR q hM0
 rintro ⟨bst, V, cnt⟩ τ w ⟨hB, q, hrow, hmp, hR⟩
 simp only at hB hR
 dsimp only
 refine go T_ok 200 rfl ?_
 refine nextQ (fun a => ekP_inj a) rfl rfl rfl hR (fun hc0 hall => ?_) (fun p v w3 cnt' hgp hlt hR' q3 hsz hen => ?_)
 case refine_2 =>
  obtain ⟨g0, g1, hg0, hg1, hp1, hp2, hv⟩ := gI_in hl hgp
  have hv0 : 0 ≤ v := by rw [hv]; exact minK_nn' hl 0 p.1 p.2
  have hrow := rowIs_keep hrow q3 (by omega)
  have hmp := hmp.keep q3 (fun b x1 x2 e => by omega)
  have q := q.step q3 (fun k hk e => by omega)
  have hB' := hB.step hgp hv0
  refine go T_ok 200 rfl ?_
  refine condT rfl rfl ?_
  refine go T_ok 200 rfl ?_
  refine entryQ rfl rfl rfl hen ?_
  refine go T_ok 200 rfl ?_
  repeat ((first | refine gT rfl rfl rfl rfl ?_ | refine gF rfl rfl rfl rfl ?_ | refine condT rfl rfl ?_ | refine condF rfl rfl ?_); refine go T_ok 200 rfl ?_)
  by_cases hn : bst < 0
  ·rw [decide_eq_true hn]
   refine go T_ok 200 rfl ?_
   repeat ((first | refine gT rfl rfl rfl rfl ?_ | refine gF rfl rfl rfl rfl ?_ | refine condT rfl rfl ?_ | refine condF rfl rfl ?_); refine go T_ok 200 rfl ?_)
   exact round ⟨(v, (fun c => V c ∨ c = p), cnt'), rfl, ⟨by rw [if_pos (.inl hn)] at hB'; exact hB', q, hrow, hmp, hR'⟩, hlt⟩
  rw [decide_eq_false hn]
  refine go T_ok 200 rfl ?_
  repeat ((first | refine gT rfl rfl rfl rfl ?_ | refine gF rfl rfl rfl rfl ?_ | refine condT rfl rfl ?_ | refine condF rfl rfl ?_); refine go T_ok 200 rfl ?_)
  by_cases hn2 : v < bst
  ·rw [decide_eq_true hn2]
   refine go T_ok 200 rfl ?_
   repeat ((first | refine gT rfl rfl rfl rfl ?_ | refine gF rfl rfl rfl rfl ?_ | refine condT rfl rfl ?_ | refine condF rfl rfl ?_); refine go T_ok 200 rfl ?_)
   exact round ⟨(v, (fun c => V c ∨ c = p), cnt'), rfl, ⟨by rw [if_pos (.inr hn2)] at hB'; exact hB', q, hrow, hmp, hR'⟩, hlt⟩
  rw [decide_eq_false hn2]
  refine go T_ok 200 rfl ?_
  repeat ((first | refine gT rfl rfl rfl rfl ?_ | refine gF rfl rfl rfl rfl ?_ | refine condT rfl rfl ?_ | refine condF rfl rfl ?_); refine go T_ok 200 rfl ?_)
  exact round ⟨(bst, (fun c => V c ∨ c = p), cnt'), rfl, ⟨by rw [if_neg (fun h => h.elim hn hn2)] at hB'; exact hB', q, hrow, hmp, hR'⟩, hlt⟩
 obtain ⟨k, hk⟩ : ∃ k, k = bst := ⟨_, rfl⟩
 rw [← hk] at hB ⊢
 obtain ⟨⟨p0, hp0⟩, hk0, hmin⟩ : (∃ p, gI l 0 p = some k) ∧ 0 ≤ k ∧ ∀ p v, gI l 0 p = some v → k ≤ v := by
  rcases hB with ⟨_, h⟩ | ⟨h1, h2, h3⟩
  ·obtain ⟨p, v, hp⟩ := gI_some hl
   exact absurd (hall p v hp) (h p v hp)
  ·exact ⟨h1, h2, fun p v hp => h3 p v (hall p v hp) hp⟩
 have hBs : Bd ≤ w.heap.size := by have := hR.lt; omega
 clear hB hall hc0 hk hR
 obtain ⟨g0, g1, hg0, hg1, hpp1, hpp2, hkm⟩ := gI_in hl hp0
 unfold InG at hpp1 hpp2
 have k0 := (hl.ok g0 (List.mem_of_getElem? hg0)).1
 have k1 := (hl.ok g1 (List.mem_of_getElem? hg1)).1
 have a0 := k0.l0; have a1 := k0.lh; have a2 := k0.h1
 have c0 := k1.l0; have c1 := k1.lh; have c2 := k1.h1
 refine go T_ok 200 rfl ?_
 refine condF rfl rfl ?_
 refine go T_ok 200 rfl ?_
 refine label ?_
 refine go T_ok 200 rfl ?_
 obtain ⟨bx, ox, hAx, hbx, hcx⟩ := (S0.no q).el gaL_len hg0
 rw [hAx]
 refine idx T_ok rfl rfl rfl rfl rfl (0) rfl (by omega) ?_
 refine go T_ok 200 rfl ?_
 refine ld T_ok rfl rfl rfl rfl (hcx.get (i := 1) rfl) ?_
 refine go T_ok 200 rfl ?_
 rw [← hAx]
 clear hcx hbx hAx
 refine loop [0, 5, 6, 9, 10] (fun a : Int => [.slice A l.length c, .slice (some ⟨g, 0, none⟩) (l.length - 1) (l.length - 1), .int .i64 k, .slice none 0 0, .int .i64 a])
  (fun a w' => g0.lo ≤ a ∧ a ≤ p0.1 ∧ Bd ≤ w'.heap.size ∧ Chg No w0 w' ∧ w'.rowIs g 118 mm f ∧ MpS w' l f g 0 Bd) (fun a => (g0.hi + 1 - a).toNat) g0.lo (fun _ => rfl) rfl ⟨Int.le_refl _, hpp1.1, hBs, q, hrow, hmp⟩ ?_
 clear hmp hrow q
 rintro a τ w ⟨ha0, ha1, hBs, q, hrow, hmp⟩
 refine go T_ok 200 rfl ?_
 obtain ⟨bx, ox, hAx, hbx, hcx⟩ := (S0.no q).el gaL_len hg0
 rw [hAx]
 refine idx T_ok rfl rfl rfl rfl rfl (0) rfl (by omega) ?_
 refine go T_ok 200 rfl ?_
 refine ld T_ok rfl rfl rfl rfl (hcx.get (i := 2) rfl) ?_
 refine go T_ok 200 rfl ?_
 rw [← hAx]
 clear hcx hbx hAx
 refine condD rfl (fun hlt => ?_) (fun hlt => absurd hlt (by omega))
 have e3 : w64 (a + 1) = a + 1 := w64_id (by omega) (by omega)
 refine go T_ok 200 rfl ?_
 obtain ⟨bx, ox, hAx, hbx, hcx⟩ := (S0.no q).el gaL_len hg1
 rw [hAx]
 refine idx T_ok rfl rfl rfl rfl rfl (1) rfl (by omega) ?_
 refine go T_ok 200 rfl ?_
 refine ld T_ok rfl rfl rfl rfl (hcx.get (i := 1) rfl) ?_
 refine go T_ok 200 rfl ?_
 rw [← hAx]
 clear hcx hbx hAx
 refine loop [0, 5, 6, 9, 10, 11] (fun b : Int => [.slice A l.length c, .slice (some ⟨g, 0, none⟩) (l.length - 1) (l.length - 1), .int .i64 k, .slice none 0 0, .int .i64 a, .int .i64 b])
  (fun b w' => g1.lo ≤ b ∧ b ≤ g1.hi + 1 ∧ (a = p0.1 → b ≤ p0.2) ∧ Bd ≤ w'.heap.size ∧ Chg No w0 w' ∧ w'.rowIs g 118 mm f ∧ MpS w' l f g 0 Bd) (fun b => (g1.hi + 1 - b).toNat) g1.lo (fun _ => rfl) rfl ⟨Int.le_refl _, by omega, fun _ => hpp2.1, hBs, q, hrow, hmp⟩ ?_
 clear hmp hrow q
 rintro b τ w ⟨hb0', hb1', hbp, hBs, q, hrow, hmp⟩
 refine go T_ok 200 rfl ?_
 obtain ⟨bx, ox, hAx, hbx, hcx⟩ := (S0.no q).el gaL_len hg1
 rw [hAx]
 refine idx T_ok rfl rfl rfl rfl rfl (1) rfl (by omega) ?_
 refine go T_ok 200 rfl ?_
 refine ld T_ok rfl rfl rfl rfl (hcx.get (i := 2) rfl) ?_
 refine go T_ok 200 rfl ?_
 rw [← hAx]
 clear hcx hbx hAx
 refine condD rfl (fun hlt2 => ?_) (fun hlt2 => ?_)
 case refine_2 =>
  have : a < p0.1 := by
   rcases Int.lt_or_eq_of_le ha1 with h | h
   ·exact h
   ·have := hbp h; omega
  refine go T_ok 200 rfl ?_
  rw [e3]
  exact round ⟨a + 1, rfl, ⟨by omega, by omega, hBs, q, hrow, hmp⟩, by omega⟩
 have e4 : w64 (b + 1) = b + 1 := w64_id (by omega) (by omega)
 obtain ⟨bm, hfm, hMm, _, _⟩ := hmp 0 (Nat.le_refl _) (by omega)
 have hgab : gI l 0 (a, b) = some (minK l a b) := by rw [gI_eq hg0 hg1, if_pos ⟨ha0, hlt, hb0', hlt2⟩]; rfl
 refine go T_ok 200 rfl ?_
 refine idx T_ok rfl rfl rfl rfl rfl 0 rfl (by omega) ?_
 refine go T_ok 200 rfl ?_
 refine ld T_ok rfl rfl rfl rfl (hrow.cell (i := 0 + 0 * 1) (by omega)) ?_
 rw [show f (0 + 0 * 1) = .map (some bm) from hfm]
 refine go T_ok 200 rfl ?_
 refine bldA T_ok rfl rfl rfl (z := .agg #[I 0, I 0]) (by kernel_rfl) (cs := [I a, I b]) rfl ?_
 refine go T_ok 200 rfl ?_
 refine lookQ K120 rfl rfl Try.underlying118 rfl (a := (a, b)) rfl (kP (a, b) (by simp only; omega) (by simp only; omega)) (ekP_inj _) hMm (z := I 0) (by kernel_rfl) (v := I (minK l a b)) (by rw [hgab]; rfl) ?_
 refine go T_ok 200 rfl ?_
 by_cases hfound : minK l a b = k
 case neg =>
  rw [show (minK l a b == k) = false by rw [beq_eq_false_iff_ne]; exact hfound]
  refine go T_ok 200 rfl ?_
  refine condF rfl rfl ?_
  refine go T_ok 200 rfl ?_
  rw [e4]
  refine round ⟨b + 1, rfl, ⟨by omega, by omega, fun h => ?_, hBs, q, hrow, hmp⟩, by omega⟩
  have := hbp h
  rcases Int.lt_or_eq_of_le this with h2 | h2
  ·omega
  ·exfalso
   apply hfound
   rw [h, h2, ← hkm]
 rw [show (minK l a b == k) = true by rw [beq_iff_eq]; exact hfound]
 refine go T_ok 200 rfl ?_
 refine condT rfl rfl ?_
 refine go T_ok 200 rfl ?_
 refine row T_ok rfl rfl rfl rfl rfl rfl (cs := [I a, I b]) rfl ?_
 intro gh w3 hgh hsh q3 Bh hlh
 have own := Bh.own (m := 2) hlh (by decide)
 have hrow := rowIs_no hrow q3
 have hmp := hmp.no q3
 have hqs := q.size
 have q := q.trans q3
 have hBs : Bd ≤ w3.heap.size := by omega
 have own := own_base own (show Bd ≤ gh by omega)
 clear hlh hgh hsh q3 Bh hMm hqs
 refine go T_ok 200 rfl ?_
 refine loop [0, 5, 6, 9, 12] (fun x : Nat × List Int × Option Addr × Nat => [.slice A l.length c, .slice (some ⟨g, 0, none⟩) (l.length - 1) (l.length - 1), .int .i64 k, .slice x.2.2.1 (x.1 + 2) x.2.2.2, .int .i64 ((x.1 + 2 : Nat) : Int)])
  (fun x w' => x.1 + 2 ≤ l.length ∧ x.2.1.length = x.1 + 2 ∧ (∀ (i : Nat) g x', l[i]? = some g → x.2.1[i]? = some x' → InG g x') ∧ (∀ u v, x.2.1[x.1]? = some u → x.2.1[x.1 + 1]? = some v → minK (l.drop x.1) u v ≤ k) ∧ Bd ≤ w'.heap.size ∧ Chg No w0 w' ∧ w'.rowIs g 118 mm f ∧ MpS w' l f g 0 Bd ∧ w'.ownsRow Bd 3 1 (.slice x.2.2.1 (x.1 + 2) x.2.2.2) (x.1 + 2) (iL x.2.1)) (fun x => l.length - x.1) (0, [a, b], some ⟨gh, 0, none⟩, 2) (fun _ => rfl) rfl ⟨hn0, rfl, fun i g x h1 h2 => ?_, fun u v h1 h2 => ?_, hBs, q, hrow, hmp, own⟩ ?_
 ·match i, h2 with
  | 0, h2 => rw [hg0] at h1; cases h1; cases h2; exact ⟨ha0, hlt⟩
  | 1, h2 => rw [hg1] at h1; cases h1; cases h2; exact ⟨hb0', hlt2⟩
  | i + 2, h2 => simp at h2
 ·cases h1
  cases h2
  rw [List.drop_zero, hfound]
  exact Int.le_refl _
 clear hrow hmp q own hBs
 rintro ⟨j, xs, A3, c3⟩ τ w ⟨hj, hxl, hxin, hxk, hBs, q, hrow, hmp, own⟩
 simp only at hj hxl hxin hxk own
 dsimp only
 refine go T_ok 200 rfl ?_
 refine condD rfl (fun hlt => ?_) (fun hlt => ?_)
 case refine_2 =>
  refine go T_ok 200 rfl ?_
  exact ret (ret3 Try.results19 rfl rfl rfl ⟨⟨A3, j + 2, c3, k, rfl, ⟨p0, hp0⟩, hmin⟩, q⟩)
 have hltj : j + 2 < l.length := by have : ((j + 2 : Nat) : Int) < (l.length : Int) := hlt; omega
 obtain ⟨ga, hga⟩ := get_ga (l := l) (i := j) (by omega)
 obtain ⟨gb, hgb⟩ := get_ga (l := l) (i := j + 1) (by omega)
 obtain ⟨gc, hgc⟩ := get_ga (l := l) (i := j + 2) (by omega)
 obtain ⟨u, hu⟩ := get_i (l := xs) (i := j) (by omega)
 obtain ⟨v, hv⟩ := get_i (l := xs) (i := j + 1) (by omega)
 have iu := hxin _ _ _ hga hu
 have iv := hxin _ _ _ hgb hv
 unfold InG at iu iv
 have ka := (hl.ok ga (List.mem_of_getElem? hga)).1
 have kb := (hl.ok gb (List.mem_of_getElem? hgb)).1
 have kc := (hl.ok gc (List.mem_of_getElem? hgc)).1
 have u1 := hl.up j ga hga gb hgb
 have u2 := hl.up (j + 1) gb hgb gc hgc
 have y0 := ka.z0; have y1 := kc.z1
 have l0 := ka.l0; have l1 := kb.l0; have l2 := kc.l0
 have m0 := ka.h1; have m1 := kb.h1; have m2 := kc.h1
 have n2 := kc.lh
 have hM := hxk u v hu hv
 rw [minK_mid hl hga hgb hgc u v] at hM
 obtain ⟨⟨jc, hjc, hjm⟩, _⟩ := mn_spec (f := fun c => max (turnP ga.z gb.z gc.z u v c) (minK (l.drop (j + 1)) v c)) (lo := gc.lo) (fun c => by have := minK_nn' hl (j + 1) v c; omega) (gc.hi - gc.lo + 1).toNat (by omega)
 rw [hjm] at hM
 obtain ⟨c9, hc9⟩ : ∃ c9, c9 = gc.lo + (jc : Int) := ⟨_, rfl⟩
 rw [← hc9] at hM
 have hM1 : turnP ga.z gb.z gc.z u v c9 ≤ k := by omega
 have hM2 : minK (l.drop (j + 1)) v c9 ≤ k := by omega
 have hc9b : gc.lo ≤ c9 ∧ c9 ≤ gc.hi := by omega
 clear hM hjm hjc hc9
 have e1 : w64 (((j + 2 : Nat) : Int) - 1) = ((j + 1 : Nat) : Int) := by rw [w64_id (by omega) (by omega)]; omega
 have e2 : w64 (((j + 2 : Nat) : Int) - 2) = ((j : Nat) : Int) := by rw [w64_id (by omega) (by omega)]; omega
 have e5 : w64 (((j + 2 : Nat) : Int) + 1) = ((j + 1 + 2 : Nat) : Int) := w64_id (by omega) (by omega)
 have Sx := own_sl own
 rw [← hxl] at Sx
 obtain ⟨b0, o0, hA0, hb0, hc0⟩ := Sx.elI hu
 obtain ⟨b1, o1, hA1, hb1, hc1⟩ := Sx.elI hv
 obtain ⟨rfl, rfl⟩ : b1 = b0 ∧ o1 = o0 := by rw [hA0] at hA1; injection hA1 with h; injection h with h1 h2; exact ⟨h1.symm, h2.symm⟩
 refine go T_ok 200 rfl ?_
 refine draw mixed (fun w' => Chg No w w') ([0,1,2,3,4,5,6,7,8,9,10,11].map (fun i => (i, true))) rfl (by kernel_rfl) (Chg.drew _) ?_
 refine goH T_ok 200 rfl ?_
 rw [e2, hA0]
 refine quietH rfl (fun w' hS => r_idx T_ok rfl rfl rfl rfl j rfl (by omega)) ?_
 refine goH T_ok 200 rfl ?_
 refine quietH rfl (fun w' hS => r_load T_ok rfl rfl rfl ((hS.cell (a := ⟨b1, o1 + j * 1, none⟩) (by show b1 < _; omega) (fun h => h)).trans hc0)) ?_
 refine goH T_ok 200 rfl ?_
 rw [e1]
 refine quietH rfl (fun w' hS => r_idx T_ok rfl rfl rfl rfl (j + 1) rfl (by omega)) ?_
 refine goH T_ok 200 rfl ?_
 refine quietH rfl (fun w' hS => r_load T_ok rfl rfl rfl ((hS.cell (a := ⟨b1, o1 + (j + 1) * 1, none⟩) (by show b1 < _; omega) (fun h => h)).trans hc1)) ?_
 rw [← hA0]
 refine goH T_ok 200 rfl ?_
 refine endH ?_
 have qd := Chg.drew w
 have q := q.trans qd
 have hrow := rowIs_no hrow qd
 have hmp := hmp.no qd
 have own := own_no own qd
 have hBs : Bd ≤ w.drew.heap.size := hBs
 clear Sx hA0 hA1 hb0 hb1 hc0 hc1 qd
 generalize w.drew = w at *
 refine go T_ok 200 rfl ?_
 obtain ⟨bx, ox, hAx, hbx, hcx⟩ := (S0.no q).el gaL_len hgc
 rw [hAx]
 refine idx T_ok rfl rfl rfl rfl rfl (j + 2) rfl (by omega) ?_
 refine go T_ok 200 rfl ?_
 refine ld T_ok rfl rfl rfl rfl (hcx.get (i := 1) rfl) ?_
 refine go T_ok 200 rfl ?_
 rw [← hAx]
 clear hcx hbx hAx
 refine loop [0, 5, 6, 9, 12, 13, 14, 15] (fun cc : Int => [.slice A l.length c, .slice (some ⟨g, 0, none⟩) (l.length - 1) (l.length - 1), .int .i64 k, .slice A3 (j + 2) c3, .int .i64 ((j + 2 : Nat) : Int), .int .i64 u, .int .i64 v, .int .i64 cc])
  (fun cc w' => gc.lo ≤ cc ∧ cc ≤ c9 ∧ Bd ≤ w'.heap.size ∧ Chg No w0 w' ∧ w'.rowIs g 118 mm f ∧ MpS w' l f g 0 Bd ∧ w'.ownsRow Bd 3 1 (.slice A3 (j + 2) c3) (j + 2) (iL xs)) (fun cc => (gc.hi + 1 - cc).toNat) gc.lo (fun _ => rfl) rfl ⟨Int.le_refl _, hc9b.1, hBs, q, hrow, hmp, own⟩ ?_
 clear hrow hmp q own hBs
 rintro cc τ w ⟨hcc0, hcc1, hBs, q, hrow, hmp, own⟩
 refine go T_ok 200 rfl ?_
 obtain ⟨bx, ox, hAx, hbx, hcx⟩ := (S0.no q).el gaL_len hgc
 rw [hAx]
 refine idx T_ok rfl rfl rfl rfl rfl (j + 2) rfl (by omega) ?_
 refine go T_ok 200 rfl ?_
 refine ld T_ok rfl rfl rfl rfl (hcx.get (i := 2) rfl) ?_
 refine go T_ok 200 rfl ?_
 rw [← hAx]
 clear hcx hbx hAx
 refine condD rfl (fun hlt3 => ?_) (fun hlt3 => absurd hlt3 (by omega))
 have e6 : w64 (cc + 1) = cc + 1 := w64_id (by omega) (by omega)
 obtain ⟨bn, hfn, hMn, hbn1, hbn2⟩ := hmp (j + 1) (Nat.zero_le _) (by omega)
 obtain ⟨bx, ox, hAx, hbx, hcx⟩ := (S0.no q).el gaL_len hga
 obtain ⟨by', oy, hAy, hby, hcy⟩ := (S0.no q).el gaL_len hgb
 obtain ⟨bz, oz, hAz, hbz, hcz⟩ := (S0.no q).el gaL_len hgc
 obtain ⟨rfl, rfl⟩ : by' = bx ∧ oy = ox := by rw [hAx] at hAy; injection hAy with h; injection h with h1 h2; exact ⟨h1.symm, h2.symm⟩
 obtain ⟨rfl, rfl⟩ : bz = by' ∧ oz = oy := by rw [hAx] at hAz; injection hAz with h; injection h with h1 h2; exact ⟨h1.symm, h2.symm⟩
 have hq0 := q.size
 have hgn : gI l (j + 1) (v, cc) = some (minK (l.drop (j + 1)) v cc) := by rw [gI_eq hgb hgc, if_pos ⟨iv.1, iv.2, hcc0, hlt3⟩]
 refine go T_ok 200 rfl ?_
 refine draw mixed (fun w' => Chg No w w') ([0,1,2,3,4,5,6,7,8,9,10,11,12,13,14,15,16,17,18,19,21].map (fun i => (i, true)) ++ [(20, false)] ++ [22,23,24,25,26,27,28,29,30,31,32,33,34,35].map (fun i => (i, true))) rfl (by kernel_rfl) (Chg.drew _) ?_
 refine goH T_ok 200 rfl ?_
 rw [e2, hAx]
 refine quietH rfl (fun w' hS => r_idx T_ok rfl rfl rfl rfl (j) rfl (by omega)) ?_
 refine goH T_ok 200 rfl ?_
 refine quietH rfl (fun w' hS => r_load T_ok rfl rfl rfl ((hcx.keep (by omega) hS (fun h => h)).get (i := 0) rfl)) ?_
 refine goH T_ok 200 rfl ?_
 rw [e1]
 refine quietH rfl (fun w' hS => r_idx T_ok rfl rfl rfl rfl (j + 1) rfl (by omega)) ?_
 refine goH T_ok 200 rfl ?_
 refine quietH rfl (fun w' hS => r_load T_ok rfl rfl rfl ((hcy.keep (by omega) hS (fun h => h)).get (i := 0) rfl)) ?_
 refine goH T_ok 200 rfl ?_
 refine quietH rfl (fun w' hS => r_idx T_ok rfl rfl rfl rfl (j + 2) rfl (by omega)) ?_
 refine goH T_ok 200 rfl ?_
 refine quietH rfl (fun w' hS => r_load T_ok rfl rfl rfl ((hcz.keep (by omega) hS (fun h => h)).get (i := 0) rfl)) ?_
 refine goH T_ok 200 rfl ?_
 rw [← hAx]
 have qd := Chg.drew w
 refine callE rfl rfl rfl (ok _ (by decide) rfl) (turn_any ga.z gb.z gc.z u v cc y0 u1 u2 y1 (by omega) (by omega) (by omega) _) ?_
 rintro x w3 ⟨rfl, rfl⟩
 refine ⟨qd, ?_⟩
 have q := q.trans qd
 have hrow' := rowIs_no hrow qd
 have hmp' := hmp.no qd
 have own := own_no own qd
 have hBs : Bd ≤ w.drew.heap.size := hBs
 refine goH T_ok 200 rfl ?_
 by_cases ht : turnP ga.z gb.z gc.z u v cc ≤ k
 case neg =>
  have hne : cc ≠ c9 := fun h => ht (by rw [h]; exact hM1)
  rw [decide_eq_false ht]
  refine goH T_ok 200 rfl ?_
  repeat (first | (refine passE rfl ?_; refine goH T_ok 200 rfl ?_) | (refine guardHA (b := false) rfl rfl rfl rfl (fun h => by cases h) (fun _ => ?_); refine goH T_ok 200 rfl ?_) | (refine guardHA (b := true) rfl rfl rfl rfl (fun _ => ?_) (fun h => by cases h); refine goH T_ok 200 rfl ?_))
  refine endH ?_
  refine go T_ok 200 rfl ?_
  refine condF rfl rfl ?_
  refine go T_ok 200 rfl ?_
  rw [e6]
  exact round ⟨cc + 1, rfl, ⟨by omega, by omega, hBs, q, hrow', hmp', own⟩, by omega⟩
 rw [decide_eq_true ht]
 refine guardHA (b := true) rfl rfl rfl rfl (fun _ => ?_) (fun h => by cases h)
 refine goH T_ok 200 rfl ?_
 rw [e1]
 refine quietH rfl (fun w' hS => r_idx T_ok rfl rfl rfl rfl (j + 1) rfl (by omega)) ?_
 refine goH T_ok 200 rfl ?_
 refine quietH rfl (fun w' hS => r_load T_ok rfl rfl rfl ((hS.cell (a := ⟨g, 0 + (j + 1) * 1, none⟩) hrow.lt (fun h => h)).trans (hrow.cell (i := 0 + (j + 1) * 1) (by omega)))) ?_
 rw [show f (0 + (j + 1) * 1) = .map (some bn) by rw [show 0 + (j + 1) * 1 = j + 1 by omega]; exact hfn]
 refine goH T_ok 200 rfl ?_
 refine quietH rfl (fun w' hS => r_bldA T_ok rfl rfl (z := .agg #[I 0, I 0]) (by kernel_rfl) (cs := [I v, I cc]) rfl) ?_
 refine goH T_ok 200 rfl ?_
 refine quietH rfl (fun w' hS => r_lookQ K120 rfl Try.underlying118 rfl (a := (v, cc)) rfl (kP (v, cc) (by simp only; omega) (by simp only; omega)) (ekP_inj _) (hMn.no hS) (z := I 0) (by kernel_rfl) (v := I (minK (l.drop (j + 1)) v cc)) (by rw [hgn]; rfl)) ?_
 refine goH T_ok 200 rfl ?_
 repeat (first | (refine passE rfl ?_; refine goH T_ok 200 rfl ?_) | (refine guardHA (b := false) rfl rfl rfl rfl (fun h => by cases h) (fun _ => ?_); refine goH T_ok 200 rfl ?_) | (refine guardHA (b := true) rfl rfl rfl rfl (fun _ => ?_) (fun h => by cases h); refine goH T_ok 200 rfl ?_))
 refine endH ?_
 by_cases hm : minK (l.drop (j + 1)) v cc ≤ k
 case neg =>
  have hne : cc ≠ c9 := fun h => hm (by rw [h]; exact hM2)
  rw [decide_eq_false hm]
  refine go T_ok 200 rfl ?_
  refine condF rfl rfl ?_
  refine go T_ok 200 rfl ?_
  rw [e6]
  exact round ⟨cc + 1, rfl, ⟨by omega, by omega, hBs, q, hrow', hmp', own⟩, by omega⟩
 rw [decide_eq_true hm]
 refine go T_ok 200 rfl ?_
 refine condT rfl rfl ?_
 refine go T_ok 200 rfl ?_
 refine app1 T_ok rfl rfl rfl rfl rfl rfl (cs := [I cc]) rfl rfl rfl rfl (fun _ => rfl) (fun _ => rfl) (fun _ => rfl) own (by unfold maxLen; omega) (by omega) hBs ?_
 intro gx A4 c4 w4 own4 q4 hs4 hown
 have hrow := rowIs_keep hrow' q4 (fun e => by have := own_ge own e; omega)
 have hmp := hmp'.keep q4 (fun b x1 x2 e => by have := own_ge own e; omega)
 have q := q.step q4 (fun k hk e => by have := own_ge own e; omega)
 refine go T_ok 200 rfl ?_
 rw [e5]
 refine round ⟨(j + 1, xs ++ [cc], A4, c4), rfl, ⟨by simp only; omega, by simp [hxl], fun i g' x' h1 h2 => ?_, fun u' v' h1 h2 => ?_, by omega, q, hrow, hmp, ?_⟩, by simp only; omega⟩
 ·simp only at h2
  rcases Nat.lt_or_ge i xs.length with h | h
  ·rw [List.getElem?_append_left h] at h2
   exact hxin i g' x' h1 h2
  ·rw [List.getElem?_append_right h] at h2
   have : i = xs.length := by
    rcases Nat.eq_zero_or_pos (i - xs.length) with h3 | h3
    ·omega
    ·rw [List.getElem?_eq_none (by simp; omega)] at h2; cases h2
   subst this
   rw [hxl, hgc] at h1
   cases h1
   simp at h2
   subst h2
   exact ⟨hcc0, hlt3⟩
 ·simp only at h1 h2
  rw [List.getElem?_append_left (by omega), hv] at h1
  cases h1
  rw [List.getElem?_append_right (by omega), show j + 1 + 1 - xs.length = 0 by omega] at h2
  simp at h2
  subst h2
  exact hm
 ·simp only
  rw [show iL (xs ++ [cc]) = iL xs ++ [I cc] by simp [iL]]
  exact own4
end Go.Proofs.Ytolhfimknimliaa.L
