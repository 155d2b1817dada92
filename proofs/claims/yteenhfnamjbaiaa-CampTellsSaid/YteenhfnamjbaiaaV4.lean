/- The contract of tells: a site's outcomes, told by layer 7. -/
import Derived.Test.YteenhfnamjbaiaaV3
import Derived.Test.YteenhfnamjbaiaaQP
namespace Go.Proofs.Yteenhfnamjbaiaa
open Go.Ev Go.Proofs
open Go.Camp (Cp CpOk ChOk Site SiteOk Sites costP siteAt siteAt_ok SlOk)
attribute [local irreducible] At AtH
theorem decE_ok {c : Cp} (hc : CpOk c) {x : Site} (hx : SiteOk c.parts x) {lv : Int} (l0 : 2 ≤ lv) (l1 : lv ≤ 900000) {n : Nat} (hn : n ≤ 4000) : Q.decE n c.parts lv x.lo x.hi = 0 := by
 have h1 := hc.p0; have h2 := hc.p1; have h3 := hx.l0; have h4 := hx.lh; have h5 := hx.h1
 unfold Q.decE
 rw [Q.listed_wrong, show c.parts = ((c.parts.toNat : Nat) : Int) by omega, Q.wrong_small (by omega) (by omega) hn]
 have e : Q.decB lv x.lo x.hi ((c.parts.toNat : Nat) : Int) = true := by
  unfold Q.decB
  rw [(Go.Cnt.inB_iff _ _ _).2 ⟨l0, l1⟩, (Go.Cnt.inB_iff _ _ _).2 ⟨h3, by omega⟩, decide_eq_true (show x.hi ≤ ((c.parts.toNat : Nat) : Int) by omega)]
  rfl
 rw [e]
 rfl
theorem wtI_nonneg {D k : Int} (hk0 : 0 ≤ k) (hk1 : k ≤ D) (xs : List Bool) : 0 ≤ Q.wtI D k xs := (Q.wtI_bd hk0 hk1 xs).1
set_option maxRecDepth 20000 in
set_option maxHeartbeats 8000000 in
theorem tells_any (m : Cm) (i many : Int) (s : Nat) (w0 : World) (H : CpM w0 m) (hc : CpOk m.c) (hs : SlOk m.c s) (i0 : 0 ≤ i) (i1 : i < m.c.sites.length) (m0 : 1 ≤ many) (m1 : many ≤ 3) :
  Ret Try.prog 39 [.agg (cpL m).toArray, I i, I many, I (s : Int)] w0 fun x w' => x = .tuple #[I (abvP m.c s (i, m.c.level * many, false)), I (m.c.parts ^ s)] ∧ Chg No w0 w' := by
 have hn := hs.n
 have p0 := hc.p0; have p1 := hc.p1; have v0 := hc.v0; have v1 := hc.v1
 have h62 := pow_s62 hc hs
 obtain ⟨lv, hlv⟩ : ∃ lv, lv = m.c.level * many := ⟨_, rfl⟩
 have hlv2 : 2 ≤ lv ∧ lv ≤ 900000 := by
  obtain rfl | rfl | rfl : many = 1 ∨ many = 2 ∨ many = 3 := by omega
  all_goals omega
 obtain ⟨es, hx⟩ := siteAt_ok hc i0 i1
 have x3 := hx.l0; have x4 := hx.lh; have x5 := hx.h1; have x6 := hx.t0; have x7 := hx.t1
 refine enter Try.func39 rfl Try.ntmps39 rfl ?_
 refine go T_ok 200 rfl ?_
 refine bx rfl rfl rfl (cs := cpL m) rfl ?_
 intro g4 u4 hg4 hs4 q4 B4
 have q := q4
 have H1 := H.no q
 obtain ⟨b1, o1, hA1, hb1, hc1⟩ := Sl.el H1 siL_len es
 refine go T_ok 200 rfl ?_
 repeat ((first | refine ldA T_ok rfl rfl rfl rfl rfl (Bk.all B4) ?_ | refine ld T_ok rfl rfl rfl rfl (Bk.get B4 rfl) ?_ | refine gT rfl rfl rfl rfl ?_ | refine gF rfl rfl rfl rfl ?_ | refine condT rfl rfl ?_ | refine condF rfl rfl ?_); refine go T_ok 200 rfl ?_)
 rw [hA1]
 refine idx T_ok rfl rfl rfl rfl rfl i.toNat (by omega) (by omega) ?_
 refine go T_ok 200 rfl ?_
 refine ldA T_ok rfl rfl rfl rfl rfl hc1 ?_
 refine go T_ok 200 rfl ?_
 rw [← hA1]
 have yB4 := B4.lt
 have yq := q.size
 refine nw rfl rfl (z := .agg #[I 0, I 0, I 0, I 0]) (by kernel_rfl) (cs := [I 0, I 0, I 0, I 0]) rfl ?_
 intro g10 w hg10 hs10 qk B10
 have B4 := B4.no qk
 have q := q.trans qk
 refine go T_ok 200 rfl ?_
 refine stA T_ok rfl rfl rfl rfl (vs := siL (siteAt m.c i)) rfl rfl rfl B10 rfl ?_
 intro w qk B10 hz10
 have B10 : Bk w g10 65 (siL (siteAt m.c i)) := B10
 have B4 := Bk.keep B4 qk (by omega)
 have q := q.step qk (fun k hk e => by omega)
 refine go T_ok 200 rfl ?_
 repeat ((first | refine ldA T_ok rfl rfl rfl rfl rfl (Bk.all B4) ?_ | refine ldA T_ok rfl rfl rfl rfl rfl (Bk.all B10) ?_ | refine ld T_ok rfl rfl rfl rfl (Bk.get B4 rfl) ?_ | refine ld T_ok rfl rfl rfl rfl (Bk.get B10 rfl) ?_ | refine gT rfl rfl rfl rfl ?_ | refine gF rfl rfl rfl rfl ?_ | refine condT rfl rfl ?_ | refine condF rfl rfl ?_); refine go T_ok 200 rfl ?_)
 have edt : ((m.c.parts.toNat : Nat) : Int) = m.c.parts := by omega
 obtain ⟨F, hF⟩ : ∃ F : Nat → Int, F = fun b => Q.wv m.c.parts.toNat lv (siteAt m.c i).tru (siteAt m.c i).lo.toNat (siteAt m.c i).hi.toNat 3 (Q.outN s b) := ⟨_, rfl⟩
 obtain ⟨G, hG⟩ : ∃ G : Nat → Int, G = fun b => Q.wtI m.c.parts (siteAt m.c i).tru (Q.outN s b) := ⟨_, rfl⟩
 have hG0 : ∀ b, 0 ≤ G b := fun b => by rw [hG]; exact wtI_nonneg x6 (by omega) _
 have hF0 : ∀ b, 0 ≤ F b := fun b => by rw [hF]; exact Q.wv_nonneg x6 (by omega) _
 have hFG : ∀ b, F b ≤ G b := fun b => by
  rw [hF, hG]
  have := Q.wv_le (d := m.c.parts.toNat) (lv := lv) (k := (siteAt m.c i).tru) (lo := (siteAt m.c i).lo.toNat) (hi := (siteAt m.c i).hi.toNat) (v := 3) x6 (by omega) (Q.outN s b)
  rw [edt] at this
  exact this
 have hGt : Q.sumN G (2 ^ s) = m.c.parts ^ s := by rw [hG]; exact Q.tot_wt (D := m.c.parts) (k := (siteAt m.c i).tru) s
 have h2s : (2 : Nat) ^ s ≤ 4096 := by
  have := Nat.pow_le_pow_right (n := 2) (by omega) hn
  simpa using this
 have e2s : w64 (1 * 2 ^ s) = ((2 ^ s : Nat) : Int) := by
  rw [Int.one_mul, show (2 : Int) ^ s = ((2 ^ s : Nat) : Int) by simp]
  generalize (2 : Nat) ^ s = z at h2s ⊢
  exact w64_id (by omega) (by omega)
 refine loop [2, 3, 4, 10, 11, 12, 13] (fun b : Nat => [I many, I (s : Int), .pointer (some ⟨g4, 0, none⟩), .pointer (some ⟨g10, 0, none⟩), I (Q.sumN F b), I (Q.sumN G b), .int .i64 (b : Int)])
  (fun b w' => b ≤ 2 ^ s ∧ Chg No w0 w' ∧ Bk w' g4 24 (cpL m) ∧ Bk w' g10 65 (siL (siteAt m.c i))) (fun b => 2 ^ s - b) 0 (fun _ => rfl) rfl ⟨Nat.zero_le _, q, B4, B10⟩ ?_
 rintro b τ w ⟨hb, q, B4, B10⟩
 have hsG := Q.sumN_mono hG0 hb
 have hsF := Q.sumN_le (g := F) (h := G) (m := b) (fun b _ => hFG b)
 have hsF0 := Q.sumN_nonneg hF0 b
 refine go T_ok 200 rfl ?_
 repeat ((first | refine ldA T_ok rfl rfl rfl rfl rfl (Bk.all B4) ?_ | refine ldA T_ok rfl rfl rfl rfl rfl (Bk.all B10) ?_ | refine ld T_ok rfl rfl rfl rfl (Bk.get B4 rfl) ?_ | refine ld T_ok rfl rfl rfl rfl (Bk.get B10 rfl) ?_ | refine gT rfl rfl rfl rfl ?_ | refine gF rfl rfl rfl rfl ?_ | refine condT rfl rfl ?_ | refine condF rfl rfl ?_); refine go T_ok 200 rfl ?_)
 refine shl rfl rfl rfl rfl s rfl (by omega) ?_
 refine go T_ok 200 rfl ?_
 repeat ((first | refine ldA T_ok rfl rfl rfl rfl rfl (Bk.all B4) ?_ | refine ldA T_ok rfl rfl rfl rfl rfl (Bk.all B10) ?_ | refine ld T_ok rfl rfl rfl rfl (Bk.get B4 rfl) ?_ | refine ld T_ok rfl rfl rfl rfl (Bk.get B10 rfl) ?_ | refine gT rfl rfl rfl rfl ?_ | refine gF rfl rfl rfl rfl ?_ | refine condT rfl rfl ?_ | refine condF rfl rfl ?_); refine go T_ok 200 rfl ?_)
 rw [e2s]
 refine condD rfl (fun hlt => ?_) (fun hlt => ?_)
 ·have hlt : b < 2 ^ s := by omega
  have eb : w64 ((b : Int) + 1) = ((b + 1 : Nat) : Int) := w64_id (by omega) (by omega)
  refine go T_ok 200 rfl ?_
  repeat ((first | refine ldA T_ok rfl rfl rfl rfl rfl (Bk.all B4) ?_ | refine ldA T_ok rfl rfl rfl rfl rfl (Bk.all B10) ?_ | refine ld T_ok rfl rfl rfl rfl (Bk.get B4 rfl) ?_ | refine ld T_ok rfl rfl rfl rfl (Bk.get B10 rfl) ?_ | refine gT rfl rfl rfl rfl ?_ | refine gF rfl rfl rfl rfl ?_ | refine condT rfl rfl ?_ | refine condF rfl rfl ?_); refine go T_ok 200 rfl ?_)
  refine call rfl rfl rfl (ok _ (by decide) rfl) (Q.Outcome_any s b _ (by omega) (by omega)) ?_
  rintro v w ⟨A, c, rfl, qk, own⟩
  have B4 := B4.no qk
  have B10 := B10.no qk
  have q := q.trans qk
  have hlo := Q.outN_len s b
  have So := own_sl own
  have So : Sl w w.heap.size 1 A (Q.outN s b).length (Q.boolVs (Q.outN s b)) := by rw [hlo]; exact So
  refine go T_ok 200 rfl ?_
  repeat ((first | refine ldA T_ok rfl rfl rfl rfl rfl (Bk.all B4) ?_ | refine ldA T_ok rfl rfl rfl rfl rfl (Bk.all B10) ?_ | refine ld T_ok rfl rfl rfl rfl (Bk.get B4 rfl) ?_ | refine ld T_ok rfl rfl rfl rfl (Bk.get B10 rfl) ?_ | refine gT rfl rfl rfl rfl ?_ | refine gF rfl rfl rfl rfl ?_ | refine condT rfl rfl ?_ | refine condF rfl rfl ?_); refine go T_ok 200 rfl ?_)
  rw [← hlv, w64_id (x := lv) (by omega) (by omega)]
  have D := Q.Decide_any (Q.outN s b) m.c.parts lv (siteAt m.c i).lo (siteAt m.c i).hi A c _ _ So ⟨by omega, by omega⟩
  rw [hlo] at D
  refine call rfl rfl rfl (ok _ (by decide) rfl) D ?_
  rintro v w ⟨qk, rfl⟩
  have B4 := B4.no qk
  have B10 := B10.no qk
  have So := So.no qk
  have q := q.trans qk
  rw [decE_ok hc hx hlv2.1 hlv2.2 (by omega), if_pos rfl, if_pos rfl]
  refine go T_ok 200 rfl ?_
  repeat ((first | refine ldA T_ok rfl rfl rfl rfl rfl (Bk.all B4) ?_ | refine ldA T_ok rfl rfl rfl rfl rfl (Bk.all B10) ?_ | refine ld T_ok rfl rfl rfl rfl (Bk.get B4 rfl) ?_ | refine ld T_ok rfl rfl rfl rfl (Bk.get B10 rfl) ?_ | refine gT rfl rfl rfl rfl ?_ | refine gF rfl rfl rfl rfl ?_ | refine condT rfl rfl ?_ | refine condF rfl rfl ?_); refine go T_ok 200 rfl ?_)
  have W := Q.rWeight_any (Q.outN s b) m.c.parts (siteAt m.c i).tru A c _ _ So (by omega)
  rw [hlo] at W
  refine call rfl rfl rfl (ok _ (by decide) rfl) W ?_
  rintro v w ⟨rfl, rfl⟩
  rw [show Q.wtw m.c.parts (siteAt m.c i).tru (Q.outN s b) = G b by rw [hG]; exact Q.wtw_eq x6 (by omega) (by omega) _ (by rw [hlo]; omega)]
  have hsG1 := Q.sumN_mono hG0 (show b + 1 ≤ 2 ^ s by omega)
  have hsG1' : Q.sumN G (b + 1) = Q.sumN G b + G b := rfl
  have hsF1' : Q.sumN F (b + 1) = Q.sumN F b + F b := rfl
  have g0 := hG0 b
  have fb : F b = if (Q.decS (Q.sts m.c.parts.toNat lv (Q.outN s b)) m.c.parts.toNat (siteAt m.c i).lo.toNat (siteAt m.c i).hi.toNat).1 = 3 then G b else 0 := by
   rw [hF, hG]
   show Q.wv _ _ _ _ _ _ _ = _
   unfold Q.wv
   rw [edt]
  have hsG0 := Q.sumN_nonneg hG0 b
  refine go T_ok 200 rfl ?_
  repeat ((first | refine ldA T_ok rfl rfl rfl rfl rfl (Bk.all B4) ?_ | refine ldA T_ok rfl rfl rfl rfl rfl (Bk.all B10) ?_ | refine ld T_ok rfl rfl rfl rfl (Bk.get B4 rfl) ?_ | refine ld T_ok rfl rfl rfl rfl (Bk.get B10 rfl) ?_ | refine gT rfl rfl rfl rfl ?_ | refine gF rfl rfl rfl rfl ?_ | refine condT rfl rfl ?_ | refine condF rfl rfl ?_); refine go T_ok 200 rfl ?_)
  rw [w64_id (x := Q.sumN G b + G b) (by omega) (by omega), ← hsG1']
  by_cases hv : (Q.decS (Q.sts m.c.parts.toNat lv (Q.outN s b)) m.c.parts.toNat (siteAt m.c i).lo.toNat (siteAt m.c i).hi.toNat).1 = 3
  ·rw [if_pos hv] at fb
   rw [show ((Q.decS (Q.sts m.c.parts.toNat lv (Q.outN s b)) m.c.parts.toNat (siteAt m.c i).lo.toNat (siteAt m.c i).hi.toNat).1 == 3) = true from beq_iff_eq.2 hv]
   refine go T_ok 200 rfl ?_
   repeat ((first | refine ldA T_ok rfl rfl rfl rfl rfl (Bk.all B4) ?_ | refine ldA T_ok rfl rfl rfl rfl rfl (Bk.all B10) ?_ | refine ld T_ok rfl rfl rfl rfl (Bk.get B4 rfl) ?_ | refine ld T_ok rfl rfl rfl rfl (Bk.get B10 rfl) ?_ | refine gT rfl rfl rfl rfl ?_ | refine gF rfl rfl rfl rfl ?_ | refine condT rfl rfl ?_ | refine condF rfl rfl ?_); refine go T_ok 200 rfl ?_)
   rw [w64_id (x := Q.sumN F b + G b) (by omega) (by omega), ← fb, ← hsF1', eb]
   exact round ⟨b + 1, rfl, ⟨by omega, q, B4, B10⟩, by omega⟩
  ·rw [if_neg hv] at fb
   rw [show ((Q.decS (Q.sts m.c.parts.toNat lv (Q.outN s b)) m.c.parts.toNat (siteAt m.c i).lo.toNat (siteAt m.c i).hi.toNat).1 == 3) = false from beq_eq_false_iff_ne.2 hv]
   refine go T_ok 200 rfl ?_
   repeat ((first | refine ldA T_ok rfl rfl rfl rfl rfl (Bk.all B4) ?_ | refine ldA T_ok rfl rfl rfl rfl rfl (Bk.all B10) ?_ | refine ld T_ok rfl rfl rfl rfl (Bk.get B4 rfl) ?_ | refine ld T_ok rfl rfl rfl rfl (Bk.get B10 rfl) ?_ | refine gT rfl rfl rfl rfl ?_ | refine gF rfl rfl rfl rfl ?_ | refine condT rfl rfl ?_ | refine condF rfl rfl ?_); refine go T_ok 200 rfl ?_)
   rw [eb, show Q.sumN F b = Q.sumN F (b + 1) by omega]
   exact round ⟨b + 1, rfl, ⟨by omega, q, B4, B10⟩, by omega⟩
 ·obtain rfl : b = 2 ^ s := by omega
  refine go T_ok 200 rfl ?_
  repeat ((first | refine ldA T_ok rfl rfl rfl rfl rfl (Bk.all B4) ?_ | refine ldA T_ok rfl rfl rfl rfl rfl (Bk.all B10) ?_ | refine ld T_ok rfl rfl rfl rfl (Bk.get B4 rfl) ?_ | refine ld T_ok rfl rfl rfl rfl (Bk.get B10 rfl) ?_ | refine gT rfl rfl rfl rfl ?_ | refine gF rfl rfl rfl rfl ?_ | refine condT rfl rfl ?_ | refine condF rfl rfl ?_); refine go T_ok 200 rfl ?_)
  refine ret (ret2 (v := I (Q.sumN F (2 ^ s))) (x := I (Q.sumN G (2 ^ s))) Try.results39 rfl rfl ⟨?_, q⟩)
  rw [hGt, hF, hlv]
  rfl
/-- the power of a choice of one site, and of two -/
theorem odds_one (c : Cp) (s : Nat) (a : Int) : oddsP c s false [a] = (abvP c s (a, c.level * 1, false), c.parts ^ s) := by
 unfold oddsP silP
 simp [Int.pow_succ]
 omega
theorem odds_two (c : Cp) (s : Nat) (a b : Int) : oddsP c s false [a, b] = (c.parts ^ s * c.parts ^ s - (c.parts ^ s - abvP c s (a, c.level * 2, false)) * (c.parts ^ s - abvP c s (b, c.level * 2, false)), c.parts ^ s * c.parts ^ s) := by
 unfold oddsP silP
 simp [Int.pow_succ]
end Go.Proofs.Yteenhfnamjbaiaa
