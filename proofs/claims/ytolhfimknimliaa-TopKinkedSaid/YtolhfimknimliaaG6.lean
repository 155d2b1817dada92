/- The contract of line.Bends. -/
import Derived.Test.YtolhfimknimliaaG5
namespace Go.Proofs.Ytolhfimknimliaa.L
open Go.Ev Go.Proofs Go.Bend
attribute [local irreducible] At AtH
abbrev MqB (w : World) (b : Nat) (g : Int × Int → Option Bool) : Prop := Mq Try.prog 120 w b ekP Value.bool g
set_option maxRecDepth 20000 in
set_option maxHeartbeats 32000000 in
theorem Bends_ok (l : List Ga) (hl : BeOk l) (cut : Int) (hcut : 0 ≤ cut ∧ cut ≤ 1000000) (A : Option Addr) (c B : Nat) (w0 : World) (S0 : SG w0 B A l) :
  Ret Try.prog 18 [.slice A l.length c, I cut] w0 fun v w' => (∃ A2 n2 c2 e, v = .tuple #[.slice A2 n2 c2, I e] ∧ ((e = 5 ∧ ∀ p v, gI l 0 p = some v → cut < v) ∨ (e = 0 ∧ ∃ p v, gI l 0 p = some v ∧ v ≤ cut))) ∧ Chg No w0 w' := by
 have S0 := S0.more S0.2.1 (Nat.le_refl _)
 have hn0 := hl.n0
 have hn1 := hl.n1
 refine enter Try.func18 rfl Try.ntmps18 rfl ?_
 refine go T_ok 200 rfl ?_
 refine call rfl rfl rfl (ok _ (by decide) rfl) (broken_ok l hl A c _ _ S0) ?_
 rintro x w ⟨rfl, q⟩
 refine go T_ok 200 rfl ?_
 repeat ((first | refine gT rfl rfl rfl rfl ?_ | refine gF rfl rfl rfl rfl ?_ | refine condT rfl rfl ?_ | refine condF rfl rfl ?_); refine go T_ok 200 rfl ?_)
 refine call rfl rfl rfl (ok _ (by decide) rfl) (in50 cut 0 1000000 _) ?_
 rintro x w ⟨rfl, rfl⟩
 rw [decide_eq_true hcut]
 refine go T_ok 200 rfl ?_
 repeat ((first | refine gT rfl rfl rfl rfl ?_ | refine gF rfl rfl rfl rfl ?_ | refine condT rfl rfl ?_ | refine condF rfl rfl ?_); refine go T_ok 200 rfl ?_)
 refine call rfl rfl rfl (ok _ (by decide) rfl) (least_ok l hl A c _ _ (S0.no q)) ?_
 rintro x w1 ⟨g, mm, f, rfl, q1, hgB, hrow, hmm, hmp⟩
 have hgB : w0.heap.size ≤ g := by have := q.size; omega
 have q := q.trans q1
 clear q1
 obtain ⟨Bd, hBd⟩ : ∃ Bd, Bd = w1.heap.size := ⟨_, rfl⟩
 have hgl : g < Bd := by have := hrow.lt; omega
 rw [← hBd] at hmp
 refine go T_ok 200 rfl ?_
 refine mk T_ok rfl rfl rfl rfl rfl l.length rfl (z := .agg #[I 0, I 0]) (by kernel_rfl) (by unfold maxLen; omega) (by omega) ?_
 intro gs w2 hgs hs2 q2 own
 have ugs : Bd ≤ gs := by omega
 obtain ⟨gs', ms, fs, hA, _, hrs, hms, hfs⟩ := own_row own (by omega)
 obtain rfl : gs' = gs := by injection hA with h; injection h with h; exact h.symm
 have hSp : Spn w2 gs' l.length := ⟨ms, fs, hrs, by omega, fun k hk => by
  have h1 := hfs k (by omega)
  have h2 := List.mem_of_getElem? h1
  simp only [madeCells, Array.toList_map, List.mem_map, Array.mem_toList_iff] at h2
  obtain ⟨j, _, hj⟩ := h2
  have h3 : j % 2 = 0 ∨ j % 2 = 1 := by omega
  rcases h3 with h3 | h3 <;> exact ⟨0, by rw [← hj]; simp [Value.cells, h3]⟩⟩
 have hrow := rowIs_no hrow q2
 have hmp := hmp.no q2
 have q := q.trans q2
 clear own hA hrs hms hfs hgs q2
 refine go T_ok 200 rfl ?_
 refine nw rfl rfl (z := .slice none 0 0) (by kernel_rfl) (cs := [.slice none 0 0]) rfl ?_
 intro g7 w3 hg7 hs7 q3 B7
 have hSp := hSp.no q3
 have hrow := rowIs_no hrow q3
 have hmp := hmp.no q3
 have q := q.trans q3
 have ug7 : gs' < g7 := by omega
 have hz := q.size
 have hw0 : w0.heap.size ≤ gs' := by omega
 refine go T_ok 200 rfl ?_
 refine st T_ok rfl rfl rfl rfl (v := .slice (some ⟨gs', 0, none⟩) l.length l.length) rfl rfl B7 rfl ?_
 intro w4 q4 B7 hs4
 have B7 : Bk w4 g7 53 [.slice (some ⟨gs', 0, none⟩) l.length l.length] := B7
 have hSp := hSp.keep q4 (by omega)
 have hrow := rowIs_keep hrow q4 (by omega)
 have hmp := hmp.keep q4 (fun b x1 x2 e => by omega)
 have q := q.step q4 (fun k hk e => by omega)
 clear hs2 hs7 q3 q4 hs4 hg7 hz hBd
 refine go T_ok 200 rfl ?_
 repeat ((first | refine ldA T_ok rfl rfl rfl rfl rfl (Bk.all B7) ?_ | refine ld T_ok rfl rfl rfl rfl (Bk.get B7 rfl) ?_ | refine gT rfl rfl rfl rfl ?_ | refine gF rfl rfl rfl rfl ?_ | refine condT rfl rfl ?_ | refine condF rfl rfl ?_); refine go T_ok 200 rfl ?_)
 refine loop [0, 1, 6, 7, 32, 33] (fun j : Nat => [.slice A l.length c, I cut, .slice (some ⟨g, 0, none⟩) (l.length - 1) (l.length - 1), .pointer (some ⟨g7, 0, none⟩), .int .i64 (l.length : Int), .int .i64 (j : Int)])
  (fun j w' => j ≤ l.length ∧ Chg No w0 w' ∧ w'.rowIs g 118 mm f ∧ MpS w' l f g 0 Bd ∧ Spn w' gs' l.length ∧ Bk w' g7 53 [.slice (some ⟨gs', 0, none⟩) l.length l.length]) (fun j => l.length - j) 0 (fun _ => rfl) rfl ⟨Nat.zero_le _, q, hrow, hmp, hSp, B7⟩ ?_
 clear q hrow hmp hSp B7
 rintro j τ w ⟨hj, q, hrow, hmp, hSp, B7⟩
 refine go T_ok 200 rfl ?_
 repeat ((first | refine ldA T_ok rfl rfl rfl rfl rfl (Bk.all B7) ?_ | refine ld T_ok rfl rfl rfl rfl (Bk.get B7 rfl) ?_ | refine gT rfl rfl rfl rfl ?_ | refine gF rfl rfl rfl rfl ?_ | refine condT rfl rfl ?_ | refine condF rfl rfl ?_); refine go T_ok 200 rfl ?_)
 refine condD rfl (fun hlt => ?_) (fun hlt => ?_)
 ·have hltj : j < l.length := by have : (j : Int) < (l.length : Int) := hlt; omega
  have ej : w64 ((j : Int) + 1) = ((j + 1 : Nat) : Int) := w64_id (by omega) (by omega)
  refine go T_ok 200 rfl ?_
  repeat ((first | refine ldA T_ok rfl rfl rfl rfl rfl (Bk.all B7) ?_ | refine ld T_ok rfl rfl rfl rfl (Bk.get B7 rfl) ?_ | refine gT rfl rfl rfl rfl ?_ | refine gF rfl rfl rfl rfl ?_ | refine condT rfl rfl ?_ | refine condF rfl rfl ?_); refine go T_ok 200 rfl ?_)
  refine idx T_ok rfl rfl rfl rfl rfl j rfl hltj ?_
  refine go T_ok 200 rfl ?_
  obtain ⟨ms, fs, hrs, hms, hfs⟩ := hSp
  obtain ⟨cs, Bs, hcl, hcs⟩ := row_bk hrs
  refine stA T_ok rfl rfl rfl rfl (vs := [I 1000001, I (-1000001)]) rfl rfl rfl Bs (i := 0 + j * 2) (Nat.ble_eq_true_of_le (by rw [lenL_eq]; omega)) ?_
  intro w2 q2 Bs hs2
  have hpl := putL_two (0 + j * 2) (I 1000001) (I (-1000001)) cs (by omega)
  have hSp : Spn w2 gs' l.length := ⟨ms, _, bk_row Bs (by rw [putL_length]; exact hcl), hms, fun k hk => by
   obtain ⟨y, hy⟩ := hfs k hk
   rw [hpl k]
   split
   ·exact ⟨_, rfl⟩
   ·split
    ·exact ⟨_, rfl⟩
    ·rw [hcs k (by omega)]
     exact ⟨y, hy⟩⟩
  have hrow := rowIs_keep hrow q2 (by omega)
  have hmp := hmp.keep q2 (fun b x1 x2 e => by omega)
  have B7 := B7.keep q2 (by omega)
  have q := q.step q2 (fun k hk e => by omega)
  refine go T_ok 200 rfl ?_
  rw [ej]
  exact round ⟨j + 1, rfl, ⟨by omega, q, hrow, hmp, hSp, B7⟩, by omega⟩
 clear hlt hj
 have u7 : g7 < w.heap.size := B7.lt
 refine go T_ok 200 rfl ?_
 refine mkQ (kt := 120) rfl rfl ?_
 intro bn w2 hbn hs2 q2 hN
 have hN : MqB w2 bn (fun _ => none) := hN ekP Value.bool
 have ubn : g7 < bn := by omega
 have hSp := hSp.no q2
 have hrow := rowIs_no hrow q2
 have hmp := hmp.no q2
 have B7 := B7.no q2
 have q := q.trans q2
 obtain ⟨b0, hf0, hM0, hb0, hb1⟩ := hmp 0 (Nat.zero_le _) (by omega)
 have hbl : bn < w2.heap.size := by omega
 clear q2 hs2 hbn
 refine go T_ok 200 rfl ?_
 refine idx T_ok rfl rfl rfl rfl rfl 0 rfl (by omega) ?_
 refine go T_ok 200 rfl ?_
 refine ld T_ok rfl rfl rfl rfl (hrow.cell (i := 0 + 0 * 1) (by omega)) ?_
 rw [show f (0 + 0 * 1) = .map (some b0) from hf0]
 refine go T_ok 200 rfl ?_
 refine rangeQ rfl rfl Try.underlying118 rfl hM0 ?_
 intro r w3 cnt hr hs3 q3 hR
 have ur : bn < r := by omega
 have hN := Mq.no hN q3
 have hSp := hSp.no q3
 have hrow := rowIs_no hrow q3
 have hmp := hmp.no q3
 have B7 := B7.no q3
 have q := q.trans q3
 clear q3 hs3 hr hM0
 refine go T_ok 200 rfl ?_
 refine loop [0, 1, 6, 7, 9, 10, 46] (fun x : (Int × Int → Prop) × Nat => [.slice A l.length c, I cut, .slice (some ⟨g, 0, none⟩) (l.length - 1) (l.length - 1), .pointer (some ⟨g7, 0, none⟩), .func (.func 52) #[] #[.pointer (some ⟨g7, 0, none⟩)], .map (some bn), .pointer (some ⟨r, 0, none⟩)])
  (fun x w' => Chg No w0 w' ∧ w'.rowIs g 118 mm f ∧ MpS w' l f g 0 Bd ∧ Spn w' gs' l.length ∧ Bk w' g7 53 [.slice (some ⟨gs', 0, none⟩) l.length l.length] ∧ (∃ h, MqB w' bn h ∧ ∀ p, h p ≠ none ↔ (x.1 p ∧ ∃ v, gI l 0 p = some v ∧ v ≤ cut)) ∧ Rq Try.prog 120 w' b0 r ekP I (gI l 0) x.1 x.2) (fun x => x.2) ((fun _ => False), cnt) (fun _ => rfl) rfl ⟨q, hrow, hmp, hSp, B7, ⟨_, hN, fun p => ⟨fun h => absurd rfl h, fun h => h.1.elim⟩⟩, hR⟩ ?_
 clear q hrow hmp hSp B7 hN hR
 rintro ⟨V, cnt⟩ τ w ⟨q, hrow, hmp, hSp, B7, ⟨h, hN, hh⟩, hR⟩
 simp only at hh hR
 dsimp only
 refine go T_ok 200 rfl ?_
 refine nextQ (fun a => ekP_inj a) rfl rfl rfl hR (fun hc0 hall => ?_) (fun p v w3 cnt' hgp hlt hR' q3 hsz hen => ?_)
 case refine_2 =>
  obtain ⟨g0, g1, hg0, hg1, hp1, hp2, hv⟩ := gI_in hl hgp
  have k0 := (hl.ok g0 (List.mem_of_getElem? hg0)).1
  have k1 := (hl.ok g1 (List.mem_of_getElem? hg1)).1
  have a0 := k0.l0; have a2 := k0.h1; have c0 := k1.l0; have c2 := k1.h1
  unfold InG at hp1 hp2
  have hrow := rowIs_keep hrow q3 (by omega)
  have hmp := hmp.keep q3 (fun b x1 x2 e => by omega)
  have hSp := hSp.keep q3 (by omega)
  have B7 := B7.keep q3 (by omega)
  have hN := Mq.keep hN q3 (by omega)
  have q := q.step q3 (fun k hk e => by omega)
  refine go T_ok 200 rfl ?_
  refine condT rfl rfl ?_
  refine go T_ok 200 rfl ?_
  refine entryQ rfl rfl rfl hen ?_
  refine go T_ok 200 rfl ?_
  refine nw rfl rfl (z := .agg #[I 0, I 0]) (by kernel_rfl) (cs := [I 0, I 0]) rfl ?_
  intro g11 w4 hg11 hs11 q4 B11
  have hrow := rowIs_no hrow q4
  have hmp := hmp.no q4
  have hSp := hSp.no q4
  have B7 := B7.no q4
  have hN := Mq.no hN q4
  have hR' := hR'.no q4
  have u11 : r < g11 := by have := hR'.lt; have := hR.lt; omega
  have q := q.trans q4
  refine go T_ok 200 rfl ?_
  refine stArr T_ok rfl rfl rfl rfl (vs := [I p.1, I p.2]) rfl rfl rfl B11 rfl ?_
  intro w5 q5 B11 hs5
  have B11 : Bk w5 g11 120 [I p.1, I p.2] := B11
  have hrow := rowIs_keep hrow q5 (by omega)
  have hmp := hmp.keep q5 (fun b x1 x2 e => by omega)
  have hSp := hSp.keep q5 (by omega)
  have B7 := B7.keep q5 (by omega)
  have hN := Mq.keep hN q5 (by omega)
  have hR' := hR'.keep q5 (by omega) (by omega)
  have q := q.step q5 (fun k hk e => by omega)
  refine go T_ok 200 rfl ?_
  refine condD rfl (fun hvc => ?_) (fun hvc => ?_)
  ·refine go T_ok 200 rfl ?_
   refine ldArr T_ok rfl rfl rfl rfl rfl B11.all ?_
   refine go T_ok 200 rfl ?_
   refine updQ K120 rfl rfl Try.underlying117 rfl (a := p) rfl (kP p (by omega) (by omega)) (ekP_inj _) (v := true) rfl hN ?_
   intro w6 q6 hN hs6
   have hrow := rowIs_keep hrow q6 (by omega)
   have hmp := hmp.keep q6 (fun b x1 x2 e => by omega)
   have hSp := hSp.keep q6 (by omega)
   have B7 := B7.keep q6 (by omega)
   have hR' := hR'.keep q6 (by omega) (by omega)
   have q := q.step q6 (fun k hk e => by omega)
   refine go T_ok 200 rfl ?_
   refine round ⟨((fun c => V c ∨ c = p), cnt'), rfl, ⟨q, hrow, hmp, hSp, B7, ⟨_, hN, fun x => ?_⟩, hR'⟩, hlt⟩
   by_cases hx : x = p
   ·subst hx
    show (if x = x then some true else h x) ≠ none ↔ _
    rw [if_pos rfl]
    exact ⟨fun _ => ⟨.inr rfl, v, hgp, hvc⟩, fun _ h => by cases h⟩
   ·simp only [if_neg hx]
    rw [hh x]
    exact ⟨fun ⟨h1, h2⟩ => ⟨.inl h1, h2⟩, fun ⟨h1, h2⟩ => ⟨h1.resolve_right hx, h2⟩⟩
  ·refine go T_ok 200 rfl ?_
   refine round ⟨((fun c => V c ∨ c = p), cnt'), rfl, ⟨q, hrow, hmp, hSp, B7, ⟨h, hN, fun x => ?_⟩, hR'⟩, hlt⟩
   rw [hh x]
   refine ⟨fun ⟨h1, h2⟩ => ⟨.inl h1, h2⟩, fun ⟨h1, v', h2, h3⟩ => ⟨h1.resolve_right fun hx => ?_, v', h2, h3⟩⟩
   subst hx
   rw [hgp] at h2
   cases h2
   exact hvc h3
 refine go T_ok 200 rfl ?_
 refine condF rfl rfl ?_
 refine go T_ok 200 rfl ?_
 refine lenQ rfl rfl Try.underlying117 rfl hN ?_
 intro s hs
 refine go T_ok 200 rfl ?_
 by_cases hs0 : s = 0
 ·rw [show ((s : Int) == 0) = true by rw [beq_iff_eq]; omega]
  refine go T_ok 200 rfl ?_
  refine condT rfl rfl ?_
  refine go T_ok 200 rfl ?_
  refine ret (ret2 Try.results18 rfl rfl ⟨⟨none, 0, 0, 5, rfl, .inl ⟨rfl, fun p v hp => ?_⟩⟩, q⟩)
  have h1 := hs.1 hs0 p
  have h2 := hh p
  rw [h1] at h2
  have h3 : ¬ v ≤ cut := fun h => h2.2 ⟨hall p v hp, v, hp, h⟩ rfl
  omega
 rw [show ((s : Int) == 0) = false by rw [beq_eq_false_iff_ne]; omega]
 have hex : ∃ p v, gI l 0 p = some v ∧ v ≤ cut := by
  refine Classical.byContradiction fun hno => hs0 (hs.2 fun p => ?_)
  cases hp : h p with
  | none => rfl
  | some b =>
   obtain ⟨_, v, h1, h2⟩ := (hh p).1 (by rw [hp]; simp)
   exact absurd ⟨p, v, h1, h2⟩ hno
 have hin : ∀ p, h p ≠ none → ∀ g0 g1, l[0]? = some g0 → l[0 + 1]? = some g1 → InG g0 p.1 ∧ InG g1 p.2 := fun p hp g0 g1 h0 h1 => by
  obtain ⟨_, v, hv, _⟩ := (hh p).1 hp
  obtain ⟨g0', g1', e0, e1, i0, i1, _⟩ := gI_in hl hv
  rw [e0] at h0
  rw [e1] at h1
  cases h0
  cases h1
  exact ⟨i0, i1⟩
 clear hh hs hs0 hall hc0
 refine go T_ok 200 rfl ?_
 refine condF rfl rfl ?_
 refine go T_ok 200 rfl ?_
 rw [w64_id (x := (l.length : Int) - 1) (by omega) (by omega)]
 have ub : g7 < bn ∧ bn < w.heap.size := ⟨ubn, hN.lt⟩
 refine loop [0, 1, 6, 7, 9, 10, 62, 63] (fun x : Nat × Nat => [.slice A l.length c, I cut, .slice (some ⟨g, 0, none⟩) (l.length - 1) (l.length - 1), .pointer (some ⟨g7, 0, none⟩), .func (.func 52) #[] #[.pointer (some ⟨g7, 0, none⟩)], .map (some x.2), .int .i64 ((l.length : Int) - 1), .int .i64 (x.1 : Int)])
  (fun x w' => x.1 + 1 ≤ l.length ∧ g7 < x.2 ∧ Chg No w0 w' ∧ w'.rowIs g 118 mm f ∧ MpS w' l f g 0 Bd ∧ Spn w' gs' l.length ∧ Bk w' g7 53 [.slice (some ⟨gs', 0, none⟩) l.length l.length] ∧ (∃ h, MqB w' x.2 h ∧ ∀ p, h p ≠ none → ∀ g0 g1, l[x.1]? = some g0 → l[x.1 + 1]? = some g1 → InG g0 p.1 ∧ InG g1 p.2)) (fun x => l.length - x.1) (0, bn) (fun _ => rfl) rfl ⟨by simp only; omega, ubn, q, hrow, hmp, hSp, B7, ⟨h, hN, hin⟩⟩ ?_
 clear q hrow hmp hSp B7 hN hin hR
 rintro ⟨i, bn⟩ τ w ⟨hi, ubn, q, hrow, hmp, hSp, B7, ⟨h, hN, hin⟩⟩
 simp only at hi ubn hN hin
 dsimp only
 refine go T_ok 200 rfl ?_
 refine condD rfl (fun hlt => ?_) (fun hlt => ?_)
 case refine_2 =>
  refine go T_ok 200 rfl ?_
  repeat ((first | refine ldA T_ok rfl rfl rfl rfl rfl (Bk.all B7) ?_ | refine ld T_ok rfl rfl rfl rfl (Bk.get B7 rfl) ?_ | refine gT rfl rfl rfl rfl ?_ | refine gF rfl rfl rfl rfl ?_ | refine condT rfl rfl ?_ | refine condF rfl rfl ?_); refine go T_ok 200 rfl ?_)
  exact ret (ret2 Try.results18 rfl rfl ⟨⟨some ⟨gs', 0, none⟩, l.length, l.length, 0, rfl, .inr ⟨rfl, hex⟩⟩, q⟩)
 have hlti : i + 1 < l.length := by omega
 have e1 : w64 ((i : Int) + 1) = ((i + 1 : Nat) : Int) := w64_id (by omega) (by omega)
 have e2 : w64 ((i : Int) + 2) = ((i + 2 : Nat) : Int) := w64_id (by omega) (by omega)
 obtain ⟨ga, hga⟩ := get_ga (l := l) (i := i) (by omega)
 obtain ⟨gb, hgb⟩ := get_ga (l := l) (i := i + 1) (by omega)
 have ka := (hl.ok ga (List.mem_of_getElem? hga)).1
 have kb := (hl.ok gb (List.mem_of_getElem? hgb)).1
 have l0 := ka.l0; have l1 := kb.l0
 have m0 := ka.h1; have m1 := kb.h1
 have y0 := ka.z0
 have u1 := hl.up i ga hga gb hgb
 refine go T_ok 200 rfl ?_
 refine mkQ (kt := 120) rfl rfl ?_
 intro bm w2 hbm hs2 q2 hN2
 have hN2 : MqB w2 bm (fun _ => none) := hN2 ekP Value.bool
 have hnl := hN.lt
 have ubm : bn < bm := by omega
 have hN := Mq.no hN q2
 have hSp := hSp.no q2
 have hrow := rowIs_no hrow q2
 have hmp := hmp.no q2
 have B7 := B7.no q2
 have q := q.trans q2
 clear q2 hs2 hbm hnl
 refine go T_ok 200 rfl ?_
 refine rangeQ rfl rfl Try.underlying117 rfl hN ?_
 intro r w3 cnt hr hs3 q3 hR
 have ur : bm < r := by have := hN2.lt; omega
 have hN2 := Mq.no hN2 q3
 have hSp := hSp.no q3
 have hrow := rowIs_no hrow q3
 have hmp := hmp.no q3
 have B7 := B7.no q3
 have q := q.trans q3
 clear q3 hs3 hr hN
 refine go T_ok 200 rfl ?_
 refine loop [0, 1, 6, 7, 9, 13, 14, 62, 63, 68] (fun x : (Int × Int → Prop) × Nat => [.slice A l.length c, I cut, .slice (some ⟨g, 0, none⟩) (l.length - 1) (l.length - 1), .pointer (some ⟨g7, 0, none⟩), .func (.func 52) #[] #[.pointer (some ⟨g7, 0, none⟩)], .int .i64 (i : Int), .map (some bm), .int .i64 ((l.length : Int) - 1), .int .i64 (i : Int), .pointer (some ⟨r, 0, none⟩)])
  (fun x w' => Chg No w0 w' ∧ w'.rowIs g 118 mm f ∧ MpS w' l f g 0 Bd ∧ Spn w' gs' l.length ∧ Bk w' g7 53 [.slice (some ⟨gs', 0, none⟩) l.length l.length] ∧ (∃ h', MqB w' bm h' ∧ ∀ p, h' p ≠ none → ∀ g0 g1, l[i + 1]? = some g0 → l[i + 1 + 1]? = some g1 → InG g0 p.1 ∧ InG g1 p.2) ∧ Rq Try.prog 120 w' bn r ekP Value.bool h x.1 x.2) (fun x => x.2) ((fun _ => False), cnt) (fun _ => rfl) rfl ⟨q, hrow, hmp, hSp, B7, ⟨_, hN2, fun p hp => absurd rfl hp⟩, hR⟩ ?_
 clear q hrow hmp hSp B7 hN2 hR
 rintro ⟨V, cnt⟩ τ w ⟨q, hrow, hmp, hSp, B7, ⟨h', hN, hh⟩, hR⟩
 simp only at hR
 dsimp only
 refine go T_ok 200 rfl ?_
 refine nextQ (fun a => ekP_inj a) rfl rfl rfl hR (fun hc0 hall => ?_) (fun p v w3 cnt' hgp hlt2 hR' q3 hsz hen => ?_)
 case refine_1 =>
  refine go T_ok 200 rfl ?_
  refine condF rfl rfl ?_
  refine go T_ok 200 rfl ?_
  rw [e1]
  exact round ⟨(i + 1, bm), rfl, ⟨by simp only; omega, by simp only; omega, q, hrow, hmp, hSp, B7, ⟨h', hN, hh⟩⟩, by simp only; omega⟩
 obtain ⟨ip, iq⟩ := hin p (by rw [hgp]; simp) ga gb hga hgb
 unfold InG at ip iq
 have hrow := rowIs_keep hrow q3 (by omega)
 have hmp := hmp.keep q3 (fun b x1 x2 e => by omega)
 have B7 := B7.keep q3 (by omega)
 have q := q.step q3 (fun k hk e => by omega)
 have hSp := hSp.keep q3 (by omega)
 have hN := Mq.keep hN q3 (by omega)
 refine go T_ok 200 rfl ?_
 refine condT rfl rfl ?_
 refine go T_ok 200 rfl ?_
 refine entryQ rfl rfl rfl hen ?_
 refine go T_ok 200 rfl ?_
 refine nw rfl rfl (z := .agg #[I 0, I 0]) (by kernel_rfl) (cs := [I 0, I 0]) rfl ?_
 intro g15 w4 hg15 hs15 q4 B15
 have u15 : r < g15 := by have := hR.lt; omega
 have hrow := rowIs_no hrow q4
 have hmp := hmp.no q4
 have hSp := hSp.no q4
 have B7 := B7.no q4
 have hN := Mq.no hN q4
 have hR' := hR'.no q4
 have q := q.trans q4
 refine go T_ok 200 rfl ?_
 refine stArr T_ok rfl rfl rfl rfl (vs := [I p.1, I p.2]) rfl rfl rfl B15 rfl ?_
 intro w5 q5 B15 hs5
 have B15 : Bk w5 g15 120 [I p.1, I p.2] := B15
 have hrow := rowIs_keep hrow q5 (by omega)
 have hmp := hmp.keep q5 (fun b x1 x2 e => by omega)
 have B7 := B7.keep q5 (by omega)
 have q := q.step q5 (fun k hk e => by omega)
 have hSp := hSp.keep q5 (by omega)
 have hN := Mq.keep hN q5 (by omega)
 have hR' := hR'.keep q5 (by omega) (by omega)
 clear hen hR
 refine go T_ok 200 rfl ?_
 refine idxA T_ok rfl rfl rfl rfl rfl 0 rfl (by decide) ?_
 refine go T_ok 200 rfl ?_
 refine ld T_ok rfl rfl rfl rfl (Bk.get B15 (i := 0) rfl) ?_
 refine go T_ok 200 rfl ?_
 refine call rfl rfl rfl (ok _ (by decide) rfl) (note_any l.length gs' g7 i p.1 _ (by omega) B7 hSp (by omega)) ?_
 rintro xx wn ⟨qn, hsn, hSp⟩
 have hrow := rowIs_keep hrow qn (by omega)
 have hmp := hmp.keep qn (fun b x1 x2 e => by omega)
 have B7 := B7.keep qn (by omega)
 have q := q.step qn (fun k hk e => by omega)
 have hN := Mq.keep hN qn (by omega)
 have hR' := hR'.keep qn (by omega) (by omega)
 have B15 := B15.keep qn (by omega)
 refine go T_ok 200 rfl ?_
 rw [e1]
 refine idxA T_ok rfl rfl rfl rfl rfl 1 rfl (by decide) ?_
 refine go T_ok 200 rfl ?_
 refine ld T_ok rfl rfl rfl rfl (Bk.get B15 (i := 1) rfl) ?_
 refine go T_ok 200 rfl ?_
 refine call rfl rfl rfl (ok _ (by decide) rfl) (note_any l.length gs' g7 (i + 1) p.2 _ (by omega) B7 hSp (by omega)) ?_
 rintro xx wn ⟨qn, hsn, hSp⟩
 have hrow := rowIs_keep hrow qn (by omega)
 have hmp := hmp.keep qn (fun b x1 x2 e => by omega)
 have B7 := B7.keep qn (by omega)
 have q := q.step qn (fun k hk e => by omega)
 have hN := Mq.keep hN qn (by omega)
 have hR' := hR'.keep qn (by omega) (by omega)
 have B15 := B15.keep qn (by omega)
 refine go T_ok 200 rfl ?_
 rw [e2]
 by_cases hlast : i + 2 = l.length
 ·rw [show (((i + 2 : Nat) : Int) == (l.length : Int)) = true by rw [beq_iff_eq]; omega]
  refine go T_ok 200 rfl ?_
  refine condT rfl rfl ?_
  refine go T_ok 200 rfl ?_
  exact round ⟨((fun c => V c ∨ c = p), cnt'), rfl, ⟨q, hrow, hmp, hSp, B7, ⟨h', hN, hh⟩, hR'⟩, hlt2⟩
 rw [show (((i + 2 : Nat) : Int) == (l.length : Int)) = false by rw [beq_eq_false_iff_ne]; omega]
 obtain ⟨gc, hgc⟩ := get_ga (l := l) (i := i + 2) (by omega)
 have kc := (hl.ok gc (List.mem_of_getElem? hgc)).1
 have l2 := kc.l0; have n2 := kc.lh; have m2 := kc.h1; have y1 := kc.z1
 have u2 := hl.up (i + 1) gb hgb gc hgc
 refine go T_ok 200 rfl ?_
 refine condF rfl rfl ?_
 refine go T_ok 200 rfl ?_
 rw [e2]
 obtain ⟨bx, ox, hAx, hbx, hcx⟩ := (S0.no q).el gaL_len hgc
 rw [hAx]
 refine idx T_ok rfl rfl rfl rfl rfl (i + 2) rfl (by omega) ?_
 refine go T_ok 200 rfl ?_
 refine ld T_ok rfl rfl rfl rfl (hcx.get (i := 1) rfl) ?_
 refine go T_ok 200 rfl ?_
 rw [← hAx]
 clear hcx hbx hAx
 refine loop [0, 1, 6, 7, 9, 13, 14, 15, 16, 62, 63, 68] (fun x : Int => [.slice A l.length c, I cut, .slice (some ⟨g, 0, none⟩) (l.length - 1) (l.length - 1), .pointer (some ⟨g7, 0, none⟩), .func (.func 52) #[] #[.pointer (some ⟨g7, 0, none⟩)], .int .i64 (i : Int), .map (some bm), .pointer (some ⟨g15, 0, none⟩), .int .i64 x, .int .i64 ((l.length : Int) - 1), .int .i64 (i : Int), .pointer (some ⟨r, 0, none⟩)])
  (fun x w' => gc.lo ≤ x ∧ x ≤ gc.hi + 1 ∧ Chg No w0 w' ∧ w'.rowIs g 118 mm f ∧ MpS w' l f g 0 Bd ∧ Spn w' gs' l.length ∧ Bk w' g7 53 [.slice (some ⟨gs', 0, none⟩) l.length l.length] ∧ Bk w' g15 120 [I p.1, I p.2] ∧ (∃ h', MqB w' bm h' ∧ ∀ p, h' p ≠ none → ∀ g0 g1, l[i + 1]? = some g0 → l[i + 1 + 1]? = some g1 → InG g0 p.1 ∧ InG g1 p.2) ∧ Rq Try.prog 120 w' bn r ekP Value.bool h (fun c => V c ∨ c = p) cnt') (fun x => (gc.hi + 1 - x).toNat) gc.lo (fun _ => rfl) rfl ⟨Int.le_refl _, by omega, q, hrow, hmp, hSp, B7, B15, ⟨h', hN, hh⟩, hR'⟩ ?_
 clear q hrow hmp hSp B7 B15 hN hh hR'
 rintro x τ w ⟨hx0, hx1, q, hrow, hmp, hSp, B7, B15, ⟨h', hN, hh⟩, hR'⟩
 refine go T_ok 200 rfl ?_
 rw [e2]
 obtain ⟨bx, ox, hAx, hbx, hcx⟩ := (S0.no q).el gaL_len hgc
 rw [hAx]
 refine idx T_ok rfl rfl rfl rfl rfl (i + 2) rfl (by omega) ?_
 refine go T_ok 200 rfl ?_
 refine ld T_ok rfl rfl rfl rfl (hcx.get (i := 2) rfl) ?_
 refine go T_ok 200 rfl ?_
 rw [← hAx]
 clear hcx hbx hAx
 refine condD rfl (fun hlt3 => ?_) (fun hlt3 => ?_)
 case refine_2 =>
  refine go T_ok 200 rfl ?_
  exact round ⟨((fun c => V c ∨ c = p), cnt'), rfl, ⟨q, hrow, hmp, hSp, B7, ⟨h', hN, hh⟩, hR'⟩, hlt2⟩
 have e3 : w64 (x + 1) = x + 1 := w64_id (by omega) (by omega)
 refine go T_ok 200 rfl ?_
 refine idxA T_ok rfl rfl rfl rfl rfl 1 rfl (by decide) ?_
 refine go T_ok 200 rfl ?_
 refine ld T_ok rfl rfl rfl rfl (Bk.get B15 (i := 1) rfl) ?_
 refine go T_ok 200 rfl ?_
 refine bldA T_ok rfl rfl rfl (z := .agg #[I 0, I 0]) (by kernel_rfl) (cs := [I p.2, I x]) rfl ?_
 refine go T_ok 200 rfl ?_
 have l15 := B15.lt
 refine nw rfl rfl (z := .agg #[I 0, I 0]) (by kernel_rfl) (cs := [I 0, I 0]) rfl ?_
 intro g17 w4 hg17 hs17 q4 B17
 have u17 : g15 < g17 := by omega
 have hrow := rowIs_no hrow q4
 have hmp := hmp.no q4
 have hSp := hSp.no q4
 have B7 := B7.no q4
 have B15 := B15.no q4
 have hN := Mq.no hN q4
 have hR' := hR'.no q4
 have q := q.trans q4
 refine go T_ok 200 rfl ?_
 refine stArr T_ok rfl rfl rfl rfl (vs := [I p.2, I x]) rfl rfl rfl B17 rfl ?_
 intro w5 q5 B17 hs5
 have B17 : Bk w5 g17 120 [I p.2, I x] := B17
 have hrow := rowIs_keep hrow q5 (by omega)
 have hmp := hmp.keep q5 (fun b x1 x2 e => by omega)
 have B7 := B7.keep q5 (by omega)
 have q := q.step q5 (fun k hk e => by omega)
 have hSp := hSp.keep q5 (by omega)
 have hN := Mq.keep hN q5 (by omega)
 have hR' := hR'.keep q5 (by omega) (by omega)
 have B15 := B15.keep q5 (by omega)
 clear q4 q5 hg17 hs17 hs5
 obtain ⟨bn', hfn, hMn, hbn1, hbn2⟩ := hmp (i + 1) (Nat.zero_le _) (by omega)
 obtain ⟨bx, ox, hAx, hbx, hcx⟩ := (S0.no q).el gaL_len hga
 obtain ⟨by', oy, hAy, hby, hcy⟩ := (S0.no q).el gaL_len hgb
 obtain ⟨bz, oz, hAz, hbz, hcz⟩ := (S0.no q).el gaL_len hgc
 obtain ⟨rfl, rfl⟩ : by' = bx ∧ oy = ox := by rw [hAx] at hAy; injection hAy with h; injection h with h1 h2; exact ⟨h1.symm, h2.symm⟩
 obtain ⟨rfl, rfl⟩ : bz = by' ∧ oz = oy := by rw [hAx] at hAz; injection hAz with h; injection h with h1 h2; exact ⟨h1.symm, h2.symm⟩
 have hq0 := q.size
 have hgn : gI l (i + 1) (p.2, x) = some (minK (l.drop (i + 1)) p.2 x) := by rw [gI_eq hgb hgc, if_pos ⟨iq.1, iq.2, hx0, hlt3⟩]
 refine go T_ok 200 rfl ?_
 refine draw mixed (fun w' => Chg No w5 w') ([0,1,2,3,4,5,6,7,8,9,10,11,12,13,14,15,16,17,18,19,20,21,22,23,24,25,26,27,28,29,30,31,33].map (fun i => (i, true)) ++ [(32, false)] ++ [34,35].map (fun i => (i, true))) rfl (by kernel_rfl) (Chg.drew _) ?_
 refine goH T_ok 200 rfl ?_
 rw [e1]
 refine quietH rfl (fun w' hS => r_idx T_ok rfl rfl rfl rfl (i + 1) rfl (by omega)) ?_
 refine goH T_ok 200 rfl ?_
 refine quietH rfl (fun w' hS => r_load T_ok rfl rfl rfl ((hS.cell (a := ⟨g, 0 + (i + 1) * 1, none⟩) hrow.lt (fun h => h)).trans (hrow.cell (i := 0 + (i + 1) * 1) (by omega)))) ?_
 rw [show f (0 + (i + 1) * 1) = .map (some bn') by rw [show 0 + (i + 1) * 1 = i + 1 by omega]; exact hfn]
 refine goH T_ok 200 rfl ?_
 refine quietH rfl (fun w' hS => r_loadArr T_ok rfl rfl rfl rfl (B17.no hS).all) ?_
 refine goH T_ok 200 rfl ?_
 refine quietH rfl (fun w' hS => r_lookQ K120 rfl Try.underlying118 rfl (a := (p.2, x)) rfl (kP (p.2, x) (by simp only; omega) (by simp only; omega)) (ekP_inj _) (hMn.no hS) (z := I 0) (by kernel_rfl) (v := I (minK (l.drop (i + 1)) p.2 x)) (by rw [hgn]; rfl)) ?_
 have qd := Chg.drew w5
 refine goH T_ok 200 rfl ?_
 by_cases hm : minK (l.drop (i + 1)) p.2 x ≤ cut
 case neg =>
  rw [decide_eq_false hm]
  refine goH T_ok 200 rfl ?_
  repeat (first | (refine passE rfl ?_; refine goH T_ok 200 rfl ?_) | (refine guardHA (b := false) rfl rfl rfl rfl (fun h => by cases h) (fun _ => ?_); refine goH T_ok 200 rfl ?_) | (refine guardHA (b := true) rfl rfl rfl rfl (fun _ => ?_) (fun h => by cases h); refine goH T_ok 200 rfl ?_))
  refine endH ?_
  have q := q.trans qd
  have hrow := rowIs_no hrow qd
  have hmp := hmp.no qd
  have hSp := hSp.no qd
  have B7 := B7.no qd
  have B15 := B15.no qd
  have B17 := B17.no qd
  have hN := Mq.no hN qd
  have hR' := hR'.no qd
  refine go T_ok 200 rfl ?_
  refine condF rfl rfl ?_
  refine go T_ok 200 rfl ?_
  rw [e3]
  exact round ⟨x + 1, rfl, ⟨by omega, by omega, q, hrow, hmp, hSp, B7, B15, ⟨h', hN, hh⟩, hR'⟩, by omega⟩
 rw [decide_eq_true hm]
 refine guardHA (b := true) rfl rfl rfl rfl (fun _ => ?_) (fun h => by cases h)
 refine goH T_ok 200 rfl ?_
 rw [hAx]
 refine quietH rfl (fun w' hS => r_idx T_ok rfl rfl rfl rfl (i) rfl (by omega)) ?_
 refine goH T_ok 200 rfl ?_
 refine quietH rfl (fun w' hS => r_load T_ok rfl rfl rfl ((hcx.keep (by omega) hS (fun h => h)).get (i := 0) rfl)) ?_
 refine goH T_ok 200 rfl ?_
 rw [e1]
 refine quietH rfl (fun w' hS => r_idx T_ok rfl rfl rfl rfl (i + 1) rfl (by omega)) ?_
 refine goH T_ok 200 rfl ?_
 refine quietH rfl (fun w' hS => r_load T_ok rfl rfl rfl ((hcy.keep (by omega) hS (fun h => h)).get (i := 0) rfl)) ?_
 refine goH T_ok 200 rfl ?_
 rw [e2]
 refine quietH rfl (fun w' hS => r_idx T_ok rfl rfl rfl rfl (i + 2) rfl (by omega)) ?_
 refine goH T_ok 200 rfl ?_
 refine quietH rfl (fun w' hS => r_load T_ok rfl rfl rfl ((hcz.keep (by omega) hS (fun h => h)).get (i := 0) rfl)) ?_
 refine goH T_ok 200 rfl ?_
 rw [← hAx]
 refine quietH rfl (fun w' hS => r_idxA T_ok rfl rfl rfl rfl 0 rfl (by decide)) ?_
 refine goH T_ok 200 rfl ?_
 refine quietH rfl (fun w' hS => r_load T_ok rfl rfl rfl (Bk.get (B15.no hS) (i := 0) rfl)) ?_
 refine goH T_ok 200 rfl ?_
 refine quietH rfl (fun w' hS => r_idxA T_ok rfl rfl rfl rfl 1 rfl (by decide)) ?_
 refine goH T_ok 200 rfl ?_
 refine quietH rfl (fun w' hS => r_load T_ok rfl rfl rfl (Bk.get (B15.no hS) (i := 1) rfl)) ?_
 refine goH T_ok 200 rfl ?_
 refine callE rfl rfl rfl (ok _ (by decide) rfl) (turn_any ga.z gb.z gc.z p.1 p.2 x y0 u1 u2 y1 (by omega) (by omega) (by omega) _) ?_
 rintro xx w6 ⟨rfl, rfl⟩
 refine ⟨qd, ?_⟩
 refine goH T_ok 200 rfl ?_
 repeat (first | (refine passE rfl ?_; refine goH T_ok 200 rfl ?_) | (refine guardHA (b := false) rfl rfl rfl rfl (fun h => by cases h) (fun _ => ?_); refine goH T_ok 200 rfl ?_) | (refine guardHA (b := true) rfl rfl rfl rfl (fun _ => ?_) (fun h => by cases h); refine goH T_ok 200 rfl ?_))
 refine endH ?_
 have q := q.trans qd
 have hrow := rowIs_no hrow qd
 have hmp := hmp.no qd
 have hSp := hSp.no qd
 have B7 := B7.no qd
 have B15 := B15.no qd
 have B17 := B17.no qd
 have hN := Mq.no hN qd
 have hR' := hR'.no qd
 by_cases ht : turnP ga.z gb.z gc.z p.1 p.2 x ≤ cut
 case neg =>
  rw [decide_eq_false ht]
  refine go T_ok 200 rfl ?_
  refine condF rfl rfl ?_
  refine go T_ok 200 rfl ?_
  rw [e3]
  exact round ⟨x + 1, rfl, ⟨by omega, by omega, q, hrow, hmp, hSp, B7, B15, ⟨h', hN, hh⟩, hR'⟩, by omega⟩
 rw [decide_eq_true ht]
 refine go T_ok 200 rfl ?_
 refine condT rfl rfl ?_
 refine go T_ok 200 rfl ?_
 refine ldArr T_ok rfl rfl rfl rfl rfl B17.all ?_
 refine go T_ok 200 rfl ?_
 refine updQ K120 rfl rfl Try.underlying117 rfl (a := (p.2, x)) rfl (kP (p.2, x) (by simp only; omega) (by simp only; omega)) (ekP_inj _) (v := true) rfl hN ?_
 intro w7 q7 hN hs7
 have hrow := rowIs_keep hrow q7 (by omega)
 have hmp := hmp.keep q7 (fun b x1 x2 e => by omega)
 have B7 := B7.keep q7 (by omega)
 have q := q.step q7 (fun k hk e => by omega)
 have hSp := hSp.keep q7 (by omega)
 have hR' := hR'.keep q7 (by omega) (by omega)
 have B15 := B15.keep q7 (by omega)
 refine go T_ok 200 rfl ?_
 rw [e3]
 refine round ⟨x + 1, rfl, ⟨by omega, by omega, q, hrow, hmp, hSp, B7, B15, ⟨_, hN, fun y hy g0 g1 h0 h1 => ?_⟩, hR'⟩, by omega⟩
 by_cases hyx : y = (p.2, x)
 ·subst hyx
  rw [hgb] at h0
  rw [hgc] at h1
  cases h0
  cases h1
  exact ⟨iq, hx0, hlt3⟩
 ·rw [if_neg hyx] at hy
  exact hh y hy g0 g1 h0 h1
end Go.Proofs.Ytolhfimknimliaa.L
