/- The contracts of a land with surveys. -/
import Derived.Test.YtkkjfjeniaiaiaaR4
import Derived.Test.YtkkjfjeniaiaiaaS2
namespace Go.Proofs.Ytkkjfjeniaiaiaa
open Go.Ev Go.Proofs Go.Rock
attribute [local irreducible] At AtH

def sL (s : Su) : List Value := [I s.col, I s.lo, I s.hi]
theorem sL_len (s : Su) : (sL s).length = 3 := rfl
def ldL (v : Vo) (st : Int) (A : Option Addr) (n c : Nat) : List Value := vL v ++ [I st, .slice A n c]
theorem far_st {v : Vo} {st a b : Int} (hv : VoOk v) (h0 : 0 ≤ st) (h1 : st ≤ 1000000) (ha : 0 ≤ a) (ha' : a < v.nx * v.ny) (hb : 0 ≤ b) (hb' : b < v.nx * v.ny) : 0 ≤ st * farI v.nx a b ∧ st * farI v.nx a b ≤ 24000000 :=
  mul_bd h0 (farI_nonneg _ _ _) h1 (farI_le hv ha ha' hb hb')
set_option maxHeartbeats 4000000 in
theorem far_any (v : Vo) (st a b : Int) (A : Option Addr) (n c : Nat) (w : World) (hv : VoOk v) (h0 : 0 ≤ st) (h1 : st ≤ 1000000) (ha : 0 ≤ a) (ha' : a < v.nx * v.ny) (hb : 0 ≤ b) (hb' : b < v.nx * v.ny) :
    Ret Try.prog 91 [.agg (ldL v st A n c).toArray, .int .i64 a, .int .i64 b] w fun x w' => x = .int .i64 (st * farI v.nx a b) ∧ Chg No w w' := by
  have hv' := hv
  unfold VoOk at hv'
  have hxy := vo_xy hv
  have f1 := Int.emod_nonneg a (by omega : v.nx ≠ 0)
  have f2 := Int.emod_lt_of_pos a (by omega : 0 < v.nx)
  have f3 := Int.emod_nonneg b (by omega : v.nx ≠ 0)
  have f4 := Int.emod_lt_of_pos b (by omega : 0 < v.nx)
  have f5 := Int.ediv_nonneg ha (by omega : 0 ≤ v.nx)
  have f6 := Int.ediv_nonneg hb (by omega : 0 ≤ v.nx)
  have f7 := Int.ediv_le_self v.nx ha
  have f8 := Int.ediv_le_self v.nx hb
  have fs := far_st hv h0 h1 ha ha' hb hb'
  have ff := farI_le hv ha ha' hb hb'
  have fn := farI_nonneg v.nx a b
  have e1 : w64 (a % v.nx - b % v.nx) = a % v.nx - b % v.nx := w64_id (by omega) (by omega)
  have e2 : w64 (a / v.nx - b / v.nx) = a / v.nx - b / v.nx := w64_id (by omega) (by omega)
  have e3 : w64 (0 - (a % v.nx - b % v.nx)) = 0 - (a % v.nx - b % v.nx) := w64_id (by omega) (by omega)
  have e4 : w64 (0 - (a / v.nx - b / v.nx)) = 0 - (a / v.nx - b / v.nx) := w64_id (by omega) (by omega)
  have e5 : w64 (absI (a % v.nx - b % v.nx) + absI (a / v.nx - b / v.nx)) = farI v.nx a b := w64_id (by unfold farI at fn; omega) (by unfold farI at ff; omega)
  have e6 : w64 (st * farI v.nx a b) = st * farI v.nx a b := w64_id (by omega) (by omega)
  refine enter Try.func91 rfl Try.ntmps91 rfl ?_
  refine go T_ok 200 rfl ?_
  refine bx rfl rfl rfl (cs := ldL v st A n c) rfl ?_
  intro g1 u1 hg1 hs1 q1 B1
  refine go T_ok 200 rfl ?_
  refine draw mixed (fun w' => Chg No u1 w') ([0,1,2,3,4,5,6,7,8,9,10,11,12,13,14,15,16,17,18,19,20,21,22,23].map (fun i => (i, true))) rfl (by kernel_rfl) (Chg.drew _) ?_
  refine goH T_ok 200 rfl ?_
  repeat (first | (refine quietH rfl (fun w' hS => r_load T_ok rfl rfl rfl (Bk.get (B1.no hS) rfl)) ?_; refine goH T_ok 200 rfl ?_))
  refine quietH rfl (fun w' hS => by rw [r_rem rfl rfl rfl (by omega), Int.tmod_eq_emod_of_nonneg ha]) ?_
  refine goH T_ok 200 rfl ?_
  repeat (first | (refine quietH rfl (fun w' hS => r_load T_ok rfl rfl rfl (Bk.get (B1.no hS) rfl)) ?_; refine goH T_ok 200 rfl ?_))
  refine quietH rfl (fun w' hS => by rw [r_rem rfl rfl rfl (by omega), Int.tmod_eq_emod_of_nonneg hb]) ?_
  refine goH T_ok 200 rfl ?_
  repeat (first | (refine quietH rfl (fun w' hS => r_load T_ok rfl rfl rfl (Bk.get (B1.no hS) rfl)) ?_; refine goH T_ok 200 rfl ?_))
  rw [e1]
  refine quietH rfl (fun w' hS => r_quoN rfl rfl rfl ha (by omega) (by omega)) ?_
  refine goH T_ok 200 rfl ?_
  repeat (first | (refine quietH rfl (fun w' hS => r_load T_ok rfl rfl rfl (Bk.get (B1.no hS) rfl)) ?_; refine goH T_ok 200 rfl ?_))
  refine quietH rfl (fun w' hS => r_quoN rfl rfl rfl hb (by omega) (by omega)) ?_
  refine goH T_ok 200 rfl ?_
  rw [e2]
  refine endH ?_
  have B2 := B1.no (Chg.drew u1)
  have q2 := q1.trans (Chg.drew u1)
  refine go T_ok 200 rfl ?_
  repeat (first | (refine ld T_ok rfl rfl rfl rfl (Bk.get B2 rfl) ?_; refine go T_ok 200 rfl ?_) | (refine guardA (b := true) rfl rfl rfl rfl (fun _ => ?_) (fun e => by cases e); refine go T_ok 200 rfl ?_) | (refine guardA (b := false) rfl rfl rfl rfl (fun e => by cases e) (fun _ => ?_); refine go T_ok 200 rfl ?_) | (refine condT rfl rfl ?_; refine go T_ok 200 rfl ?_) | (refine condF rfl rfl ?_; refine go T_ok 200 rfl ?_))
  rw [e3, e4, max_abs, max_abs, e5, e6]
  exact ret (ret1 (v := .int .i64 _) Try.results91 rfl ⟨rfl, q2⟩)
set_option maxHeartbeats 4000000 in
theorem low_any (v : Vo) (st : Int) (s : Su) (b : Int) (A : Option Addr) (n c : Nat) (w : World) (hv : VoOk v) (h0 : 0 ≤ st) (h1 : st ≤ 1000000) (hs : SuOk v s) (hb : 0 ≤ b) (hb' : b < v.nx * v.ny) :
    Ret Try.prog 73 [.agg (ldL v st A n c).toArray, .agg (sL s).toArray, .int .i64 b] w fun x w' => x = .int .i64 (lowS v st s b) ∧ Chg No w w' := by
  have hzs := vo_zs hv
  have hs' := hs
  unfold SuOk at hs'
  have fs := far_st hv h0 h1 hs'.1.1 (by omega : s.col < v.nx * v.ny) hb hb'
  have e1 : w64 (s.lo - st * farI v.nx s.col b) = lowS v st s b := w64_id (by omega) (by omega)
  refine enter Try.func73 rfl Try.ntmps73 rfl ?_
  refine go T_ok 200 rfl ?_
  refine bx rfl rfl rfl (cs := ldL v st A n c) rfl ?_
  intro g1 u1 hg1 hs1 q1 B1
  refine go T_ok 200 rfl ?_
  refine bx rfl rfl rfl (cs := sL s) rfl ?_
  intro g2 u2 hg2 hs2 q2 B2
  have B1 := B1.no q2
  have q12 := q1.trans q2
  refine go T_ok 200 rfl ?_
  refine draw mixed (fun w' => Chg No u2 w') ([0,1,2,3,4,5,6].map (fun i => (i, true)) ++ [(7, false)] ++ [8,9].map (fun i => (i, true))) rfl (by kernel_rfl) (Chg.drew _) ?_
  refine goH T_ok 200 rfl ?_
  repeat (first | (refine quietH rfl (fun w' hS => r_load T_ok rfl rfl rfl (Bk.get (B2.no hS) rfl)) ?_; refine goH T_ok 200 rfl ?_))
  refine quietH rfl (fun w' hS => r_loadA T_ok rfl rfl rfl rfl (B1.no hS).all) ?_
  refine goH T_ok 200 rfl ?_
  repeat (first | (refine quietH rfl (fun w' hS => r_load T_ok rfl rfl rfl (Bk.get (B2.no hS) rfl)) ?_; refine goH T_ok 200 rfl ?_))
  refine callE rfl rfl rfl (ok _ (by decide) rfl) (far_any v st s.col b A n c _ hv h0 h1 hs'.1.1 (by omega) hb hb') ?_
  rintro x w3 ⟨rfl, q3⟩
  have q23 := (Chg.drew u2).trans q3
  refine ⟨q23, ?_⟩
  refine goH T_ok 200 rfl ?_
  rw [e1]
  refine endH ?_
  refine go T_ok 200 rfl ?_
  exact ret (ret1 (v := .int .i64 _) Try.results73 rfl ⟨rfl, q12.trans q23⟩)
set_option maxHeartbeats 4000000 in
theorem high_any (v : Vo) (st : Int) (s : Su) (b : Int) (A : Option Addr) (n c : Nat) (w : World) (hv : VoOk v) (h0 : 0 ≤ st) (h1 : st ≤ 1000000) (hs : SuOk v s) (hb : 0 ≤ b) (hb' : b < v.nx * v.ny) :
    Ret Try.prog 75 [.agg (ldL v st A n c).toArray, .agg (sL s).toArray, .int .i64 b] w fun x w' => x = .int .i64 (highS v st s b) ∧ Chg No w w' := by
  have hzs := vo_zs hv
  have hs' := hs
  unfold SuOk at hs'
  have fs := far_st hv h0 h1 hs'.1.1 (by omega : s.col < v.nx * v.ny) hb hb'
  have e1 : w64 (s.hi + st * farI v.nx s.col b) = highS v st s b := w64_id (by omega) (by omega)
  refine enter Try.func75 rfl Try.ntmps75 rfl ?_
  refine go T_ok 200 rfl ?_
  refine bx rfl rfl rfl (cs := ldL v st A n c) rfl ?_
  intro g1 u1 hg1 hs1 q1 B1
  refine go T_ok 200 rfl ?_
  refine bx rfl rfl rfl (cs := sL s) rfl ?_
  intro g2 u2 hg2 hs2 q2 B2
  have B1 := B1.no q2
  have q12 := q1.trans q2
  refine go T_ok 200 rfl ?_
  refine draw mixed (fun w' => Chg No u2 w') ([0,1,2,3,4,5,6].map (fun i => (i, true)) ++ [(7, false)] ++ [8,9].map (fun i => (i, true))) rfl (by kernel_rfl) (Chg.drew _) ?_
  refine goH T_ok 200 rfl ?_
  repeat (first | (refine quietH rfl (fun w' hS => r_load T_ok rfl rfl rfl (Bk.get (B2.no hS) rfl)) ?_; refine goH T_ok 200 rfl ?_))
  refine quietH rfl (fun w' hS => r_loadA T_ok rfl rfl rfl rfl (B1.no hS).all) ?_
  refine goH T_ok 200 rfl ?_
  repeat (first | (refine quietH rfl (fun w' hS => r_load T_ok rfl rfl rfl (Bk.get (B2.no hS) rfl)) ?_; refine goH T_ok 200 rfl ?_))
  refine callE rfl rfl rfl (ok _ (by decide) rfl) (far_any v st s.col b A n c _ hv h0 h1 hs'.1.1 (by omega) hb hb') ?_
  rintro x w3 ⟨rfl, q3⟩
  have q23 := (Chg.drew u2).trans q3
  refine ⟨q23, ?_⟩
  refine goH T_ok 200 rfl ?_
  rw [e1]
  refine endH ?_
  refine go T_ok 200 rfl ?_
  exact ret (ret1 (v := .int .i64 _) Try.results75 rfl ⟨rfl, q12.trans q23⟩)
set_option maxHeartbeats 4000000 in
theorem wrong_any (v : Vo) (st : Int) (l : List Su) (A : Option Addr) (c B : Nat) (w : World) (hL : l.length ≤ maxLen) (hS : Sl w B 3 A l.length (l.flatMap sL)) :
    Ret Try.prog 70 [.agg (ldL v st A l.length c).toArray] w fun x w' => x = .int .i64 (wrE v st l) ∧ Chg No w w' := by
  have hL := len63 hL
  refine enter Try.func70 rfl Try.ntmps70 rfl ?_
  refine go T_ok 200 rfl ?_
  refine bx rfl rfl rfl (cs := ldL v st A l.length c) rfl ?_
  intro g1 u1 hg1 hs1 q1 B1
  refine go T_ok 200 rfl ?_
  repeat (first | (refine ld T_ok rfl rfl rfl rfl (Bk.get B1 rfl) ?_; refine go T_ok 200 rfl ?_) | (refine guardA (b := true) rfl rfl rfl rfl (fun _ => ?_) (fun e => by cases e); refine go T_ok 200 rfl ?_) | (refine guardA (b := false) rfl rfl rfl rfl (fun e => by cases e) (fun _ => ?_); refine go T_ok 200 rfl ?_) | (refine condT rfl rfl ?_; refine go T_ok 200 rfl ?_) | (refine condF rfl rfl ?_; refine go T_ok 200 rfl ?_))
  refine condD rfl (fun h50 => ?_) (fun h50 => ?_)
  · have hR : wrE v st l = 3 := by unfold wrE; rw [if_pos (by omega)]
    rw [hR]
    refine go T_ok 200 rfl ?_
    exact ret (ret1 (v := .int .i64 3) Try.results70 rfl ⟨rfl, q1⟩)
  · have hR : wrE v st l = if VoOk v ∧ LdOk v st l then 0 else 2 := by unfold wrE; rw [if_neg (by omega)]
    rw [hR]
    refine go T_ok 200 rfl ?_
    refine ldA T_ok rfl rfl rfl rfl (cs := vL v) rfl (B1.sub 0 (vL v) rfl) ?_
    refine go T_ok 200 rfl ?_
    refine call rfl rfl rfl (ok _ (by decide) rfl) (volume_any v _) ?_
    rintro x w2 ⟨rfl, q2⟩
    have B2 := B1.no q2
    refine go T_ok 200 rfl ?_
    refine guardN rfl rfl rfl (fun hv => ?_) (fun hv => ?_)
    · have hv := of_decide_eq_false hv
      refine go T_ok 200 rfl ?_
      repeat (first | (refine guardA (b := true) rfl rfl rfl rfl (fun _ => ?_) (fun e => by cases e); refine go T_ok 200 rfl ?_) | (refine guardA (b := false) rfl rfl rfl rfl (fun e => by cases e) (fun _ => ?_); refine go T_ok 200 rfl ?_) | (refine condT rfl rfl ?_; refine go T_ok 200 rfl ?_) | (refine condF rfl rfl ?_; refine go T_ok 200 rfl ?_))
      exact ret (ret1 (v := .int .i64 2) Try.results70 rfl ⟨congrArg I (if_neg (fun h => hv h.1)).symm, q1.trans q2⟩)
    · have hv := of_decide_eq_true hv
      refine go T_ok 200 rfl ?_
      repeat (first | (refine ld T_ok rfl rfl rfl rfl (Bk.get B2 rfl) ?_; refine go T_ok 200 rfl ?_) | (refine guardA (b := true) rfl rfl rfl rfl (fun _ => ?_) (fun e => by cases e); refine go T_ok 200 rfl ?_) | (refine guardA (b := false) rfl rfl rfl rfl (fun e => by cases e) (fun _ => ?_); refine go T_ok 200 rfl ?_) | (refine condT rfl rfl ?_; refine go T_ok 200 rfl ?_) | (refine condF rfl rfl ?_; refine go T_ok 200 rfl ?_))
      refine call rfl rfl rfl (ok _ (by decide) rfl) (in_any _ _ _ _) ?_
      rintro x w' ⟨rfl, rfl⟩
      refine go T_ok 200 rfl ?_
      refine cond rfl (fun hst => ?_) (fun hst => ?_)
      · have hst := ndT hst
        refine go T_ok 200 rfl ?_
        repeat (first | (refine guardA (b := true) rfl rfl rfl rfl (fun _ => ?_) (fun e => by cases e); refine go T_ok 200 rfl ?_) | (refine guardA (b := false) rfl rfl rfl rfl (fun e => by cases e) (fun _ => ?_); refine go T_ok 200 rfl ?_) | (refine condT rfl rfl ?_; refine go T_ok 200 rfl ?_) | (refine condF rfl rfl ?_; refine go T_ok 200 rfl ?_))
        exact ret (ret1 (v := .int .i64 2) Try.results70 rfl ⟨congrArg I (if_neg (fun h => hst h.2.2)).symm, q1.trans q2⟩)
      · have hst := ndF hst
        have hxy := vo_xy hv
        have hzs := vo_zs hv
        have e1 : w64 (v.nx * v.ny) = v.nx * v.ny := w64_id (by omega) (by omega)
        have e2 : w64 (v.nx * v.ny - 1) = v.nx * v.ny - 1 := w64_id (by omega) (by omega)
        have e3 : w64 (v.nz * v.sz) = v.nz * v.sz := w64_id (by omega) (by omega)
        refine go T_ok 200 rfl ?_
        repeat (first | (refine ld T_ok rfl rfl rfl rfl (Bk.get B2 rfl) ?_; refine go T_ok 200 rfl ?_) | (refine guardA (b := true) rfl rfl rfl rfl (fun _ => ?_) (fun e => by cases e); refine go T_ok 200 rfl ?_) | (refine guardA (b := false) rfl rfl rfl rfl (fun e => by cases e) (fun _ => ?_); refine go T_ok 200 rfl ?_) | (refine condT rfl rfl ?_; refine go T_ok 200 rfl ?_) | (refine condF rfl rfl ?_; refine go T_ok 200 rfl ?_))
        have q12 := q1.trans q2
        refine loop [1, 20, 21, 22] (fun j : Nat => [.pointer (some ⟨g1, 0, none⟩), .slice A l.length c, .int .i64 (l.length : Int), .int .i64 (j : Int)])
          (fun j w' => j ≤ l.length ∧ Chg No w w' ∧ Bk w' g1 115 (ldL v st A l.length c) ∧ ∀ s ∈ l.take j, SuOk v s) (fun j => l.length - j) 0 (fun _ => rfl) rfl ⟨by omega, q12, B2, fun a h => by simp at h⟩ ?_
        rintro j τ w3 ⟨hj, q3, B3, hI⟩
        have S3 := hS.no q3
        refine go T_ok 200 rfl ?_
        refine condD rfl (fun hlt => ?_) (fun hlt => ?_)
        · have hlt : j < l.length := by omega
          obtain ⟨s, hs⟩ : ∃ s, l[j]? = some s := ⟨_, List.getElem?_eq_getElem hlt⟩
          obtain ⟨b, o, rfl, hb, hc⟩ := S3.el sL_len hs
          have hsm := List.mem_of_getElem? hs
          refine go T_ok 200 rfl ?_
          refine idx T_ok rfl rfl rfl rfl rfl j rfl hlt ?_
          refine go T_ok 200 rfl ?_
          refine ldA T_ok rfl rfl rfl rfl rfl hc ?_
          refine go T_ok 200 rfl ?_
          refine nw rfl rfl (z := .agg #[I 0, I 0, I 0]) (by kernel_rfl) (cs := [I 0, I 0, I 0]) rfl ?_
          intro g4 u4 hg4 hs4 q4 B4
          refine go T_ok 200 rfl ?_
          refine stA T_ok rfl rfl rfl rfl (vs := sL s) rfl rfl rfl B4 rfl ?_
          intro u5 q5 B5 hs5
          have B5 : Bk u5 g4 89 (sL s) := B5
          have q45 : Chg No w3 u5 := q4.step q5 (fun k hk e => by omega)
          have B1 := B3.no q45
          have q15 := q3.trans q45
          refine go T_ok 200 rfl ?_
          repeat (first | (refine ld T_ok rfl rfl rfl rfl (Bk.get B5 rfl) ?_; refine go T_ok 200 rfl ?_) | (refine ld T_ok rfl rfl rfl rfl (Bk.get B1 rfl) ?_; refine go T_ok 200 rfl ?_) | (refine guardA (b := true) rfl rfl rfl rfl (fun _ => ?_) (fun e => by cases e); refine go T_ok 200 rfl ?_) | (refine guardA (b := false) rfl rfl rfl rfl (fun e => by cases e) (fun _ => ?_); refine go T_ok 200 rfl ?_) | (refine condT rfl rfl ?_; refine go T_ok 200 rfl ?_) | (refine condF rfl rfl ?_; refine go T_ok 200 rfl ?_))
          rw [e1, e2]
          refine call rfl rfl rfl (ok _ (by decide) rfl) (in_any _ _ _ _) ?_
          rintro x w' ⟨rfl, rfl⟩
          refine go T_ok 200 rfl ?_
          refine guardN rfl rfl rfl (fun h1 => ?_) (fun h1 => ?_)
          · have h1 := of_decide_eq_false h1
            refine go T_ok 200 rfl ?_
            repeat (first | (refine guardA (b := true) rfl rfl rfl rfl (fun _ => ?_) (fun e => by cases e); refine go T_ok 200 rfl ?_) | (refine guardA (b := false) rfl rfl rfl rfl (fun e => by cases e) (fun _ => ?_); refine go T_ok 200 rfl ?_) | (refine condT rfl rfl ?_; refine go T_ok 200 rfl ?_) | (refine condF rfl rfl ?_; refine go T_ok 200 rfl ?_))
            exact ret (ret1 (v := .int .i64 2) Try.results70 rfl ⟨congrArg I (if_neg (fun h => h1 (h.2.1 s hsm).1)).symm, q15⟩)
          · have h1 := of_decide_eq_true h1
            refine go T_ok 200 rfl ?_
            repeat (first | (refine ld T_ok rfl rfl rfl rfl (Bk.get B5 rfl) ?_; refine go T_ok 200 rfl ?_) | (refine guardA (b := true) rfl rfl rfl rfl (fun _ => ?_) (fun e => by cases e); refine go T_ok 200 rfl ?_) | (refine guardA (b := false) rfl rfl rfl rfl (fun e => by cases e) (fun _ => ?_); refine go T_ok 200 rfl ?_) | (refine condT rfl rfl ?_; refine go T_ok 200 rfl ?_) | (refine condF rfl rfl ?_; refine go T_ok 200 rfl ?_))
            refine guardD rfl rfl rfl (fun h2 => ?_) (fun h2 => ?_)
            · refine go T_ok 200 rfl ?_
              repeat (first | (refine guardA (b := true) rfl rfl rfl rfl (fun _ => ?_) (fun e => by cases e); refine go T_ok 200 rfl ?_) | (refine guardA (b := false) rfl rfl rfl rfl (fun e => by cases e) (fun _ => ?_); refine go T_ok 200 rfl ?_) | (refine condT rfl rfl ?_; refine go T_ok 200 rfl ?_) | (refine condF rfl rfl ?_; refine go T_ok 200 rfl ?_))
              exact ret (ret1 (v := .int .i64 2) Try.results70 rfl ⟨congrArg I (if_neg (fun h => (by have := (h.2.1 s hsm).2.1; omega))).symm, q15⟩)
            · refine go T_ok 200 rfl ?_
              repeat (first | (refine ld T_ok rfl rfl rfl rfl (Bk.get B5 rfl) ?_; refine go T_ok 200 rfl ?_) | (refine guardA (b := true) rfl rfl rfl rfl (fun _ => ?_) (fun e => by cases e); refine go T_ok 200 rfl ?_) | (refine guardA (b := false) rfl rfl rfl rfl (fun e => by cases e) (fun _ => ?_); refine go T_ok 200 rfl ?_) | (refine condT rfl rfl ?_; refine go T_ok 200 rfl ?_) | (refine condF rfl rfl ?_; refine go T_ok 200 rfl ?_))
              refine guardD rfl rfl rfl (fun h3 => ?_) (fun h3 => ?_)
              · refine go T_ok 200 rfl ?_
                repeat (first | (refine guardA (b := true) rfl rfl rfl rfl (fun _ => ?_) (fun e => by cases e); refine go T_ok 200 rfl ?_) | (refine guardA (b := false) rfl rfl rfl rfl (fun e => by cases e) (fun _ => ?_); refine go T_ok 200 rfl ?_) | (refine condT rfl rfl ?_; refine go T_ok 200 rfl ?_) | (refine condF rfl rfl ?_; refine go T_ok 200 rfl ?_))
                exact ret (ret1 (v := .int .i64 2) Try.results70 rfl ⟨congrArg I (if_neg (fun h => (by have := (h.2.1 s hsm).2.2.1; omega))).symm, q15⟩)
              · refine go T_ok 200 rfl ?_
                repeat (first | (refine ld T_ok rfl rfl rfl rfl (Bk.get B5 rfl) ?_; refine go T_ok 200 rfl ?_) | (refine ld T_ok rfl rfl rfl rfl (Bk.get B1 rfl) ?_; refine go T_ok 200 rfl ?_) | (refine guardA (b := true) rfl rfl rfl rfl (fun _ => ?_) (fun e => by cases e); refine go T_ok 200 rfl ?_) | (refine guardA (b := false) rfl rfl rfl rfl (fun e => by cases e) (fun _ => ?_); refine go T_ok 200 rfl ?_) | (refine condT rfl rfl ?_; refine go T_ok 200 rfl ?_) | (refine condF rfl rfl ?_; refine go T_ok 200 rfl ?_))
                rw [e3]
                refine condD rfl (fun h4 => ?_) (fun h4 => ?_)
                · refine go T_ok 200 rfl ?_
                  repeat (first | (refine guardA (b := true) rfl rfl rfl rfl (fun _ => ?_) (fun e => by cases e); refine go T_ok 200 rfl ?_) | (refine guardA (b := false) rfl rfl rfl rfl (fun e => by cases e) (fun _ => ?_); refine go T_ok 200 rfl ?_) | (refine condT rfl rfl ?_; refine go T_ok 200 rfl ?_) | (refine condF rfl rfl ?_; refine go T_ok 200 rfl ?_))
                  exact ret (ret1 (v := .int .i64 2) Try.results70 rfl ⟨congrArg I (if_neg (fun h => (by have := (h.2.1 s hsm).2.2.2; omega))).symm, q15⟩)
                · have e4 : w64 ((j : Int) + 1) = ((j + 1 : Nat) : Int) := w64_id (by omega) (by omega)
                  refine go T_ok 200 rfl ?_
                  rw [e4]
                  refine round ⟨j + 1, rfl, ⟨by omega, q15, B1, fun b hb => ?_⟩, by omega⟩
                  rw [take_snoc hs, List.mem_append, List.mem_singleton] at hb
                  rcases hb with hb | rfl
                  · exact hI b hb
                  · exact ⟨h1, by omega, by omega, by omega⟩
        · have hjl : j = l.length := by omega
          subst hjl
          rw [List.take_length] at hI
          refine go T_ok 200 rfl ?_
          exact ret (ret1 (v := .int .i64 0) Try.results70 rfl ⟨congrArg I (if_pos ⟨hv, hI, hst⟩).symm, q3⟩)
end Go.Proofs.Ytkkjfjeniaiaiaa
