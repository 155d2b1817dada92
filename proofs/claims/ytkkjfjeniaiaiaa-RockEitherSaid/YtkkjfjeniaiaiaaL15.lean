/- The walk of RockEither. -/
import Derived.Test.YtkkjfjeniaiaiaaL3
import Derived.Test.YtkkjfjeniaiaiaaS6
import Derived.Test.YtkkjfjeniaiaiaaE6
namespace Go.Proofs.Ytkkjfjeniaiaiaa
open Go.Ev Go.Proofs Go.Rock
attribute [local irreducible] At AtH
set_option maxRecDepth 20000 in
set_option maxHeartbeats 8000000 in
theorem walk_RockEither (v : Vo) (stp : Int) (l : Sli Su) (g : Sli Int) (w0 : World) (_hv : VoI v) (_hst : I64 stp) (hl : InS w0 l) (hg : InI w0 g) :
    Ret Try.prog 15 [.agg (vL v).toArray, .int .i64 stp, .slice l.A l.l.length l.c, .slice g.A g.l.length g.c] w0 fun x w' => x = .bool true ∧ Chg No w0 w' := by
  refine enter Try.func15 rfl Try.ntmps15 rfl ?_
  refine go T_ok 200 rfl ?_
  refine bx rfl rfl rfl (cs := vL v) rfl ?_
  intro g1 u1 hg1 hs1 q1 B1
  have q := q1
  have hml := hl.ml
  have hmg := hg.ml
  have Sl := hl.2.2.1.no q
  have Sg := hg.sl.no q
  refine go T_ok 200 rfl ?_
  refine guardD rfl rfl rfl (fun h50 => ?_) (fun h50 => ?_)
  · skip
    refine go T_ok 200 rfl ?_
    repeat (first | (refine guardA (b := true) rfl rfl rfl rfl (fun _ => ?_) (fun e => by cases e); refine go T_ok 200 rfl ?_) | (refine guardA (b := false) rfl rfl rfl rfl (fun e => by cases e) (fun _ => ?_); refine go T_ok 200 rfl ?_) | (refine condT rfl rfl ?_; refine go T_ok 200 rfl ?_) | (refine condF rfl rfl ?_; refine go T_ok 200 rfl ?_))
    refine call rfl rfl rfl (ok _ (by decide) rfl) (known_any _) ?_
    rintro v wk ⟨rfl, qk⟩
    refine go T_ok 200 rfl ?_
    exact ret (ret1 (v := .bool true) Try.results15 rfl ⟨rfl, q.trans qk⟩)
  refine go T_ok 200 rfl ?_
  repeat (first | (refine ldA T_ok rfl rfl rfl rfl rfl (Bk.all B1) ?_; refine go T_ok 200 rfl ?_) | (refine ld T_ok rfl rfl rfl rfl (Bk.get B1 rfl) ?_; refine go T_ok 200 rfl ?_) | (refine guardA (b := true) rfl rfl rfl rfl (fun _ => ?_) (fun e => by cases e); refine go T_ok 200 rfl ?_) | (refine guardA (b := false) rfl rfl rfl rfl (fun e => by cases e) (fun _ => ?_); refine go T_ok 200 rfl ?_) | (refine condT rfl rfl ?_; refine go T_ok 200 rfl ?_) | (refine condF rfl rfl ?_; refine go T_ok 200 rfl ?_))
  refine call rfl rfl rfl (ok _ (by decide) rfl) (rVolume_any v _) ?_
  rintro x w ⟨rfl, qk⟩
  have B1 := B1.no qk
  have Sl := Sl.no qk
  have Sg := Sg.no qk
  have q := q.trans qk
  by_cases hv : VoOk v
  case neg =>
    rw [decide_eq_false hv]
    refine go T_ok 200 rfl ?_
    repeat (first | (refine guardA (b := true) rfl rfl rfl rfl (fun _ => ?_) (fun e => by cases e); refine go T_ok 200 rfl ?_) | (refine guardA (b := false) rfl rfl rfl rfl (fun e => by cases e) (fun _ => ?_); refine go T_ok 200 rfl ?_) | (refine condT rfl rfl ?_; refine go T_ok 200 rfl ?_) | (refine condF rfl rfl ?_; refine go T_ok 200 rfl ?_))
    refine call rfl rfl rfl (ok _ (by decide) rfl) (known_any _) ?_
    rintro v wk ⟨rfl, qk⟩
    refine go T_ok 200 rfl ?_
    exact ret (ret1 (v := .bool true) Try.results15 rfl ⟨rfl, q.trans qk⟩)
  rw [decide_eq_true hv]
  refine go T_ok 200 rfl ?_
  repeat (first | (refine ldA T_ok rfl rfl rfl rfl rfl (Bk.all B1) ?_; refine go T_ok 200 rfl ?_) | (refine ld T_ok rfl rfl rfl rfl (Bk.get B1 rfl) ?_; refine go T_ok 200 rfl ?_) | (refine guardA (b := true) rfl rfl rfl rfl (fun _ => ?_) (fun e => by cases e); refine go T_ok 200 rfl ?_) | (refine guardA (b := false) rfl rfl rfl rfl (fun e => by cases e) (fun _ => ?_); refine go T_ok 200 rfl ?_) | (refine condT rfl rfl ?_; refine go T_ok 200 rfl ?_) | (refine condF rfl rfl ?_; refine go T_ok 200 rfl ?_))
  refine call rfl rfl rfl (ok _ (by decide) rfl) (Surveys_any v stp l.l l.A l.c _ _ hv hml Sl) ?_
  rintro x w ⟨rfl, qk⟩
  have B1 := B1.no qk
  have Sl := Sl.no qk
  have Sg := Sg.no qk
  have q := q.trans qk
  by_cases hs : LdOk v stp l.l
  case neg =>
    rw [decide_eq_false hs]
    refine go T_ok 200 rfl ?_
    repeat (first | (refine guardA (b := true) rfl rfl rfl rfl (fun _ => ?_) (fun e => by cases e); refine go T_ok 200 rfl ?_) | (refine guardA (b := false) rfl rfl rfl rfl (fun e => by cases e) (fun _ => ?_); refine go T_ok 200 rfl ?_) | (refine condT rfl rfl ?_; refine go T_ok 200 rfl ?_) | (refine condF rfl rfl ?_; refine go T_ok 200 rfl ?_))
    refine call rfl rfl rfl (ok _ (by decide) rfl) (known_any _) ?_
    rintro v wk ⟨rfl, qk⟩
    refine go T_ok 200 rfl ?_
    exact ret (ret1 (v := .bool true) Try.results15 rfl ⟨rfl, q.trans qk⟩)
  rw [decide_eq_true hs]
  refine go T_ok 200 rfl ?_
  repeat (first | (refine ldA T_ok rfl rfl rfl rfl rfl (Bk.all B1) ?_; refine go T_ok 200 rfl ?_) | (refine ld T_ok rfl rfl rfl rfl (Bk.get B1 rfl) ?_; refine go T_ok 200 rfl ?_) | (refine guardA (b := true) rfl rfl rfl rfl (fun _ => ?_) (fun e => by cases e); refine go T_ok 200 rfl ?_) | (refine guardA (b := false) rfl rfl rfl rfl (fun e => by cases e) (fun _ => ?_); refine go T_ok 200 rfl ?_) | (refine condT rfl rfl ?_; refine go T_ok 200 rfl ?_) | (refine condF rfl rfl ?_; refine go T_ok 200 rfl ?_))
  refine call rfl rfl rfl (ok _ (by decide) rfl) (rGround_any v g.l g.A g.c _ _ hv hmg Sg) ?_
  rintro x w ⟨rfl, qk⟩
  have B1 := B1.no qk
  have Sl := Sl.no qk
  have Sg := Sg.no qk
  have q := q.trans qk
  by_cases hgr : GrOk v g.l
  case neg =>
    rw [decide_eq_false hgr]
    refine go T_ok 200 rfl ?_
    repeat (first | (refine guardA (b := true) rfl rfl rfl rfl (fun _ => ?_) (fun e => by cases e); refine go T_ok 200 rfl ?_) | (refine guardA (b := false) rfl rfl rfl rfl (fun e => by cases e) (fun _ => ?_); refine go T_ok 200 rfl ?_) | (refine condT rfl rfl ?_; refine go T_ok 200 rfl ?_) | (refine condF rfl rfl ?_; refine go T_ok 200 rfl ?_))
    refine call rfl rfl rfl (ok _ (by decide) rfl) (known_any _) ?_
    rintro v wk ⟨rfl, qk⟩
    refine go T_ok 200 rfl ?_
    exact ret (ret1 (v := .bool true) Try.results15 rfl ⟨rfl, q.trans qk⟩)
  rw [decide_eq_true hgr]
  have hw : wrE v stp l.l = 0 := by unfold wrE; rw [if_neg (by omega), if_pos ⟨hv, hs⟩]
  refine go T_ok 200 rfl ?_
  repeat (first | (refine ldA T_ok rfl rfl rfl rfl rfl (Bk.all B1) ?_; refine go T_ok 200 rfl ?_) | (refine ld T_ok rfl rfl rfl rfl (Bk.get B1 rfl) ?_; refine go T_ok 200 rfl ?_) | (refine guardA (b := true) rfl rfl rfl rfl (fun _ => ?_) (fun e => by cases e); refine go T_ok 200 rfl ?_) | (refine guardA (b := false) rfl rfl rfl rfl (fun e => by cases e) (fun _ => ?_); refine go T_ok 200 rfl ?_) | (refine condT rfl rfl ?_; refine go T_ok 200 rfl ?_) | (refine condF rfl rfl ?_; refine go T_ok 200 rfl ?_))
  refine call rfl rfl rfl (ok _ (by decide) rfl) (Fits_any v stp l.l g.l l.A g.A l.c g.c _ _ _ hml Sl hmg Sg) ?_
  rintro x w ⟨rfl, qk⟩
  have B1 := B1.no qk
  have Sl := Sl.no qk
  have Sg := Sg.no qk
  have q := q.trans qk
  refine go T_ok 200 rfl ?_
  repeat (first | (refine ldA T_ok rfl rfl rfl rfl rfl (Bk.all B1) ?_; refine go T_ok 200 rfl ?_) | (refine ld T_ok rfl rfl rfl rfl (Bk.get B1 rfl) ?_; refine go T_ok 200 rfl ?_) | (refine guardA (b := true) rfl rfl rfl rfl (fun _ => ?_) (fun e => by cases e); refine go T_ok 200 rfl ?_) | (refine guardA (b := false) rfl rfl rfl rfl (fun e => by cases e) (fun _ => ?_); refine go T_ok 200 rfl ?_) | (refine condT rfl rfl ?_; refine go T_ok 200 rfl ?_) | (refine condF rfl rfl ?_; refine go T_ok 200 rfl ?_))
  refine call rfl rfl rfl (ok _ (by decide) rfl) (Grounds_any v stp l.l l.A l.c _ _ hml Sl) ?_
  rintro x w ⟨A1, c1, A2, c2, e, a, b, rfl, S1, S2, qk, h1⟩
  have B1 := B1.no qk
  have Sl := Sl.no qk
  have Sg := Sg.no qk
  have q := q.trans qk
  refine go T_ok 200 rfl ?_
  repeat (first | (refine ldA T_ok rfl rfl rfl rfl rfl (Bk.all B1) ?_; refine go T_ok 200 rfl ?_) | (refine ld T_ok rfl rfl rfl rfl (Bk.get B1 rfl) ?_; refine go T_ok 200 rfl ?_) | (refine guardA (b := true) rfl rfl rfl rfl (fun _ => ?_) (fun e => by cases e); refine go T_ok 200 rfl ?_) | (refine guardA (b := false) rfl rfl rfl rfl (fun e => by cases e) (fun _ => ?_); refine go T_ok 200 rfl ?_) | (refine condT rfl rfl ?_; refine go T_ok 200 rfl ?_) | (refine condF rfl rfl ?_; refine go T_ok 200 rfl ?_))
  refine call rfl rfl rfl (ok _ (by decide) rfl) (Clash_any v stp l.l l.A l.c _ _ hml Sl) ?_
  rintro x w ⟨rfl, qk⟩
  have B1 := B1.no qk
  have Sl := Sl.no qk
  have Sg := Sg.no qk
  have S1 := S1.no qk
  have S2 := S2.no qk
  have q := q.trans qk
  cases hcl : clsh v stp l.l with
  | some p =>
    obtain ⟨i, k⟩ := p
    obtain ⟨s, t, hsi, htk, hst⟩ := cl_some hcl
    have hso := hs.1 s (List.mem_of_getElem? hsi)
    have hto := hs.1 t (List.mem_of_getElem? htk)
    have hso' := hso
    have hto' := hto
    unfold SuOk at hso' hto'
    have hi : i < l.l.length := (List.getElem?_eq_some_iff.1 hsi).1
    have hk : k < l.l.length := (List.getElem?_eq_some_iff.1 htk).1
    have hfar := far_st hv hs.2.1 hs.2.2 hto'.1.1 (by omega : t.col < v.nx * v.ny) hso'.1.1 (by omega)
    unfold highS at hst
    have hG : gdR v stp l.l = (7, [], []) := by unfold gdR; rw [if_neg (by omega), hcl]
    have hC : clR v stp l.l = ((i : Int), (k : Int), 0) := by unfold clR; rw [if_neg (by omega), hcl]
    have hF : ftR v stp l.l g.l = (false, 0) := ftR_no hw hgr fun hf => by
      have := no_fit hv hs hgr hf s (List.mem_of_getElem? hsi) t (List.mem_of_getElem? htk)
      unfold highS at this
      omega
    rw [hG] at h1
    cases h1
    rw [hC, hF]
    obtain ⟨bs, os, hA, hbs, hcs⟩ := Sl.el sL_len hsi
    obtain ⟨bt, ot, hA2, hbt, hct⟩ := Sl.el sL_len htk
    rw [hA] at hA2
    simp only [Option.some.injEq, Addr.mk.injEq, and_true] at hA2
    obtain ⟨rfl, rfl⟩ := hA2
    have hlb : bs < w.heap.size := Nat.lt_of_lt_of_le hbs Sl.2.1
    have ks : ∀ (n : Nat) (x : Value), nth? (sL s) n = some x → ∀ w', Chg No w w' → w'.cell? ⟨bs, os + i * 3 + n, none⟩ = some x := fun n x hx w' hS => (hS.cell (a := ⟨bs, os + i * 3 + n, none⟩) hlb (fun h => h)).trans (hcs.get hx)
    have kt : ∀ (n : Nat) (x : Value), nth? (sL t) n = some x → ∀ w', Chg No w w' → w'.cell? ⟨bs, os + k * 3 + n, none⟩ = some x := fun n x hx w' hS => (hS.cell (a := ⟨bs, os + k * 3 + n, none⟩) hlb (fun h => h)).trans (hct.get hx)
    rw [hA]
    refine go T_ok 200 rfl ?_
    repeat (first | (refine guardA (b := true) rfl rfl rfl rfl (fun _ => ?_) (fun e => by cases e); refine go T_ok 200 rfl ?_) | (refine guardA (b := false) rfl rfl rfl rfl (fun e => by cases e) (fun _ => ?_); refine go T_ok 200 rfl ?_) | (refine condT rfl rfl ?_; refine go T_ok 200 rfl ?_) | (refine condF rfl rfl ?_; refine go T_ok 200 rfl ?_))
    refine draw mixed (fun w' => Chg No w w') ([0,1,2,3,4,5,6,7,8,9,10,11,12,13,14,15,16,17,18,19,20,21,22,23,24,25,26,27,28,29,30,31,32,33,34,35,36,37,38,39,40,41,42,43,44,45].map (fun i => (i, true)) ++ [(46, false)] ++ [47,48].map (fun i => (i, true))) rfl (by kernel_rfl) (Chg.drew _) ?_
    refine goH T_ok 200 rfl ?_
    repeat (first | (refine guardHA (b := true) rfl rfl rfl rfl (fun _ => ?_) (fun h => by cases h); refine goH T_ok 200 rfl ?_) | (refine guardHA (b := false) rfl rfl rfl rfl (fun h => by cases h) (fun _ => ?_); refine goH T_ok 200 rfl ?_))
    refine guardHA (b := true) rfl rfl rfl (congrArg Value.bool (decide_eq_true (show (i : Int) < (l.l.length : Int) by omega))) (fun _ => ?_) (fun h => by cases h)
    refine goH T_ok 200 rfl ?_
    repeat (first | (refine guardHA (b := true) rfl rfl rfl rfl (fun _ => ?_) (fun h => by cases h); refine goH T_ok 200 rfl ?_) | (refine guardHA (b := false) rfl rfl rfl rfl (fun h => by cases h) (fun _ => ?_); refine goH T_ok 200 rfl ?_))
    refine guardHA (b := true) rfl rfl rfl (congrArg Value.bool (decide_eq_true (show (k : Int) < (l.l.length : Int) by omega))) (fun _ => ?_) (fun h => by cases h)
    refine goH T_ok 200 rfl ?_
    repeat (first | (refine guardHA (b := true) rfl rfl rfl rfl (fun _ => ?_) (fun h => by cases h); refine goH T_ok 200 rfl ?_) | (refine guardHA (b := false) rfl rfl rfl rfl (fun h => by cases h) (fun _ => ?_); refine goH T_ok 200 rfl ?_))
    refine quietH rfl (fun w' hS => r_idx T_ok rfl rfl rfl rfl i rfl hi) ?_
    refine goH T_ok 200 rfl ?_
    refine quietH rfl (fun w' hS => r_load T_ok rfl rfl rfl (ks 1 _ rfl w' hS)) ?_
    refine goH T_ok 200 rfl ?_
    refine quietH rfl (fun w' hS => r_idx T_ok rfl rfl rfl rfl k rfl hk) ?_
    refine goH T_ok 200 rfl ?_
    refine quietH rfl (fun w' hS => r_load T_ok rfl rfl rfl (kt 2 _ rfl w' hS)) ?_
    refine goH T_ok 200 rfl ?_
    refine guardHA (b := true) rfl rfl rfl (congrArg Value.bool (decide_eq_true (show t.hi < s.lo by omega))) (fun _ => ?_) (fun h => by cases h)
    refine goH T_ok 200 rfl ?_
    repeat (first | (refine guardHA (b := true) rfl rfl rfl rfl (fun _ => ?_) (fun h => by cases h); refine goH T_ok 200 rfl ?_) | (refine guardHA (b := false) rfl rfl rfl rfl (fun h => by cases h) (fun _ => ?_); refine goH T_ok 200 rfl ?_))
    refine callE rfl rfl rfl (ok _ (by decide) rfl) (known_any _) ?_
    rintro x w3 ⟨rfl, q3'⟩
    have qd := (Chg.drew w).trans q3'
    refine ⟨qd, ?_⟩
    refine goH T_ok 200 rfl ?_
    repeat (first | (refine guardHA (b := true) rfl rfl rfl rfl (fun _ => ?_) (fun h => by cases h); refine goH T_ok 200 rfl ?_) | (refine guardHA (b := false) rfl rfl rfl rfl (fun h => by cases h) (fun _ => ?_); refine goH T_ok 200 rfl ?_))
    refine endH ?_
    refine go T_ok 200 rfl ?_
    exact ret (ret1 (v := .bool true) Try.results15 rfl ⟨rfl, q.trans qd⟩)
  | none =>
    have hn := noCl_none hcl
    obtain ⟨f1, f2, f3⟩ := lst_fits hv hs hn
    have hG : gdR v stp l.l = (0, lst v stp l.l, mst v stp l.l) := by unfold gdR; rw [if_neg (by omega), hcl]
    have hC : clR v stp l.l = (0, 0, 5) := by unfold clR; rw [if_neg (by omega), hcl]
    have hF1 := ftR_yes hw f3.1 f1
    have hF2 := ftR_yes hw f3.2.1 f2
    rw [hG] at h1
    cases h1
    rw [hC]
    have hxy := vo_xy hv
    have n1 : (lst v stp l.l).length ≤ maxLen := by rw [lst_len]; unfold maxLen; omega
    have n2 : (mst v stp l.l).length ≤ maxLen := by rw [mst_len]; unfold maxLen; omega
    have hbt : FtOk v stp l.l g.l → GG v (lst v stp l.l) g.l ∧ GG v g.l (mst v stp l.l) := fun hf => fit_between hv hs hgr hf
    generalize lst v stp l.l = La at *
    generalize mst v stp l.l = Lb at *
    by_cases hft : FtOk v stp l.l g.l
    · rw [ftR_yes hw hgr hft]
      refine go T_ok 200 rfl ?_
      repeat (first | (refine ldA T_ok rfl rfl rfl rfl rfl (Bk.all B1) ?_; refine go T_ok 200 rfl ?_) | (refine ld T_ok rfl rfl rfl rfl (Bk.get B1 rfl) ?_; refine go T_ok 200 rfl ?_) | (refine guardA (b := true) rfl rfl rfl rfl (fun _ => ?_) (fun e => by cases e); refine go T_ok 200 rfl ?_) | (refine guardA (b := false) rfl rfl rfl rfl (fun e => by cases e) (fun _ => ?_); refine go T_ok 200 rfl ?_) | (refine condT rfl rfl ?_; refine go T_ok 200 rfl ?_) | (refine condF rfl rfl ?_; refine go T_ok 200 rfl ?_))
      refine call rfl rfl rfl (ok _ (by decide) rfl) (Fits_any v stp l.l La l.A A1 l.c c1 _ _ _ hml Sl n1 S1) ?_
      rintro x w ⟨rfl, qk⟩
      have B1 := B1.no qk
      have Sl := Sl.no qk
      have Sg := Sg.no qk
      have S1 := S1.no qk
      have S2 := S2.no qk
      have q := q.trans qk
      rw [hF1]
      refine go T_ok 200 rfl ?_
      repeat (first | (refine ldA T_ok rfl rfl rfl rfl rfl (Bk.all B1) ?_; refine go T_ok 200 rfl ?_) | (refine ld T_ok rfl rfl rfl rfl (Bk.get B1 rfl) ?_; refine go T_ok 200 rfl ?_) | (refine guardA (b := true) rfl rfl rfl rfl (fun _ => ?_) (fun e => by cases e); refine go T_ok 200 rfl ?_) | (refine guardA (b := false) rfl rfl rfl rfl (fun e => by cases e) (fun _ => ?_); refine go T_ok 200 rfl ?_) | (refine condT rfl rfl ?_; refine go T_ok 200 rfl ?_) | (refine condF rfl rfl ?_; refine go T_ok 200 rfl ?_))
      refine call rfl rfl rfl (ok _ (by decide) rfl) (Fits_any v stp l.l Lb l.A A2 l.c c2 _ _ _ hml Sl n2 S2) ?_
      rintro x w ⟨rfl, qk⟩
      have B1 := B1.no qk
      have Sl := Sl.no qk
      have Sg := Sg.no qk
      have S1 := S1.no qk
      have S2 := S2.no qk
      have q := q.trans qk
      rw [hF2]
      refine go T_ok 200 rfl ?_
      repeat (first | (refine ldA T_ok rfl rfl rfl rfl rfl (Bk.all B1) ?_; refine go T_ok 200 rfl ?_) | (refine ld T_ok rfl rfl rfl rfl (Bk.get B1 rfl) ?_; refine go T_ok 200 rfl ?_) | (refine guardA (b := true) rfl rfl rfl rfl (fun _ => ?_) (fun e => by cases e); refine go T_ok 200 rfl ?_) | (refine guardA (b := false) rfl rfl rfl rfl (fun e => by cases e) (fun _ => ?_); refine go T_ok 200 rfl ?_) | (refine condT rfl rfl ?_; refine go T_ok 200 rfl ?_) | (refine condF rfl rfl ?_; refine go T_ok 200 rfl ?_))
      refine call rfl rfl rfl (ok _ (by decide) rfl) (lgr_any v La Lb A1 A2 c1 c2 _ _ _ hv n1 n2 S1 S2) ?_
      rintro x w ⟨t, rfl, ht, qk⟩
      have B1 := B1.no qk
      have Sl := Sl.no qk
      have Sg := Sg.no qk
      have S1 := S1.no qk
      have S2 := S2.no qk
      have q := q.trans qk
      rw [ht.2 f3]
      refine go T_ok 200 rfl ?_
      repeat (first | (refine ldA T_ok rfl rfl rfl rfl rfl (Bk.all B1) ?_; refine go T_ok 200 rfl ?_) | (refine ld T_ok rfl rfl rfl rfl (Bk.get B1 rfl) ?_; refine go T_ok 200 rfl ?_) | (refine guardA (b := true) rfl rfl rfl rfl (fun _ => ?_) (fun e => by cases e); refine go T_ok 200 rfl ?_) | (refine guardA (b := false) rfl rfl rfl rfl (fun e => by cases e) (fun _ => ?_); refine go T_ok 200 rfl ?_) | (refine condT rfl rfl ?_; refine go T_ok 200 rfl ?_) | (refine condF rfl rfl ?_; refine go T_ok 200 rfl ?_))
      refine call rfl rfl rfl (ok _ (by decide) rfl) (lgr_any v La g.l A1 g.A c1 g.c _ _ _ hv n1 hmg S1 Sg) ?_
      rintro x w ⟨t, rfl, ht, qk⟩
      have B1 := B1.no qk
      have Sl := Sl.no qk
      have Sg := Sg.no qk
      have S1 := S1.no qk
      have S2 := S2.no qk
      have q := q.trans qk
      rw [ht.2 (hbt hft).1]
      refine go T_ok 200 rfl ?_
      repeat (first | (refine ldA T_ok rfl rfl rfl rfl rfl (Bk.all B1) ?_; refine go T_ok 200 rfl ?_) | (refine ld T_ok rfl rfl rfl rfl (Bk.get B1 rfl) ?_; refine go T_ok 200 rfl ?_) | (refine guardA (b := true) rfl rfl rfl rfl (fun _ => ?_) (fun e => by cases e); refine go T_ok 200 rfl ?_) | (refine guardA (b := false) rfl rfl rfl rfl (fun e => by cases e) (fun _ => ?_); refine go T_ok 200 rfl ?_) | (refine condT rfl rfl ?_; refine go T_ok 200 rfl ?_) | (refine condF rfl rfl ?_; refine go T_ok 200 rfl ?_))
      refine call rfl rfl rfl (ok _ (by decide) rfl) (lgr_any v g.l Lb g.A A2 g.c c2 _ _ _ hv hmg n2 Sg S2) ?_
      rintro x w ⟨t, rfl, ht, qk⟩
      have B1 := B1.no qk
      have Sl := Sl.no qk
      have Sg := Sg.no qk
      have S1 := S1.no qk
      have S2 := S2.no qk
      have q := q.trans qk
      rw [ht.2 (hbt hft).2]
      refine go T_ok 200 rfl ?_
      repeat (first | (refine ldA T_ok rfl rfl rfl rfl rfl (Bk.all B1) ?_; refine go T_ok 200 rfl ?_) | (refine ld T_ok rfl rfl rfl rfl (Bk.get B1 rfl) ?_; refine go T_ok 200 rfl ?_) | (refine guardA (b := true) rfl rfl rfl rfl (fun _ => ?_) (fun e => by cases e); refine go T_ok 200 rfl ?_) | (refine guardA (b := false) rfl rfl rfl rfl (fun e => by cases e) (fun _ => ?_); refine go T_ok 200 rfl ?_) | (refine condT rfl rfl ?_; refine go T_ok 200 rfl ?_) | (refine condF rfl rfl ?_; refine go T_ok 200 rfl ?_))
      refine call rfl rfl rfl (ok _ (by decide) rfl) (known_any _) ?_
      rintro v wk ⟨rfl, qk⟩
      refine go T_ok 200 rfl ?_
      exact ret (ret1 (v := .bool true) Try.results15 rfl ⟨rfl, q.trans qk⟩)
    · rw [ftR_no hw hgr hft]
      refine go T_ok 200 rfl ?_
      repeat (first | (refine ldA T_ok rfl rfl rfl rfl rfl (Bk.all B1) ?_; refine go T_ok 200 rfl ?_) | (refine ld T_ok rfl rfl rfl rfl (Bk.get B1 rfl) ?_; refine go T_ok 200 rfl ?_) | (refine guardA (b := true) rfl rfl rfl rfl (fun _ => ?_) (fun e => by cases e); refine go T_ok 200 rfl ?_) | (refine guardA (b := false) rfl rfl rfl rfl (fun e => by cases e) (fun _ => ?_); refine go T_ok 200 rfl ?_) | (refine condT rfl rfl ?_; refine go T_ok 200 rfl ?_) | (refine condF rfl rfl ?_; refine go T_ok 200 rfl ?_))
      refine call rfl rfl rfl (ok _ (by decide) rfl) (Fits_any v stp l.l La l.A A1 l.c c1 _ _ _ hml Sl n1 S1) ?_
      rintro x w ⟨rfl, qk⟩
      have B1 := B1.no qk
      have Sl := Sl.no qk
      have Sg := Sg.no qk
      have S1 := S1.no qk
      have S2 := S2.no qk
      have q := q.trans qk
      rw [hF1]
      refine go T_ok 200 rfl ?_
      repeat (first | (refine ldA T_ok rfl rfl rfl rfl rfl (Bk.all B1) ?_; refine go T_ok 200 rfl ?_) | (refine ld T_ok rfl rfl rfl rfl (Bk.get B1 rfl) ?_; refine go T_ok 200 rfl ?_) | (refine guardA (b := true) rfl rfl rfl rfl (fun _ => ?_) (fun e => by cases e); refine go T_ok 200 rfl ?_) | (refine guardA (b := false) rfl rfl rfl rfl (fun e => by cases e) (fun _ => ?_); refine go T_ok 200 rfl ?_) | (refine condT rfl rfl ?_; refine go T_ok 200 rfl ?_) | (refine condF rfl rfl ?_; refine go T_ok 200 rfl ?_))
      refine call rfl rfl rfl (ok _ (by decide) rfl) (Fits_any v stp l.l Lb l.A A2 l.c c2 _ _ _ hml Sl n2 S2) ?_
      rintro x w ⟨rfl, qk⟩
      have B1 := B1.no qk
      have Sl := Sl.no qk
      have Sg := Sg.no qk
      have S1 := S1.no qk
      have S2 := S2.no qk
      have q := q.trans qk
      rw [hF2]
      refine go T_ok 200 rfl ?_
      repeat (first | (refine ldA T_ok rfl rfl rfl rfl rfl (Bk.all B1) ?_; refine go T_ok 200 rfl ?_) | (refine ld T_ok rfl rfl rfl rfl (Bk.get B1 rfl) ?_; refine go T_ok 200 rfl ?_) | (refine guardA (b := true) rfl rfl rfl rfl (fun _ => ?_) (fun e => by cases e); refine go T_ok 200 rfl ?_) | (refine guardA (b := false) rfl rfl rfl rfl (fun e => by cases e) (fun _ => ?_); refine go T_ok 200 rfl ?_) | (refine condT rfl rfl ?_; refine go T_ok 200 rfl ?_) | (refine condF rfl rfl ?_; refine go T_ok 200 rfl ?_))
      refine call rfl rfl rfl (ok _ (by decide) rfl) (lgr_any v La Lb A1 A2 c1 c2 _ _ _ hv n1 n2 S1 S2) ?_
      rintro x w ⟨t, rfl, ht, qk⟩
      have B1 := B1.no qk
      have Sl := Sl.no qk
      have Sg := Sg.no qk
      have S1 := S1.no qk
      have S2 := S2.no qk
      have q := q.trans qk
      rw [ht.2 f3]
      refine go T_ok 200 rfl ?_
      repeat (first | (refine ldA T_ok rfl rfl rfl rfl rfl (Bk.all B1) ?_; refine go T_ok 200 rfl ?_) | (refine ld T_ok rfl rfl rfl rfl (Bk.get B1 rfl) ?_; refine go T_ok 200 rfl ?_) | (refine guardA (b := true) rfl rfl rfl rfl (fun _ => ?_) (fun e => by cases e); refine go T_ok 200 rfl ?_) | (refine guardA (b := false) rfl rfl rfl rfl (fun e => by cases e) (fun _ => ?_); refine go T_ok 200 rfl ?_) | (refine condT rfl rfl ?_; refine go T_ok 200 rfl ?_) | (refine condF rfl rfl ?_; refine go T_ok 200 rfl ?_))
      refine call rfl rfl rfl (ok _ (by decide) rfl) (known_any _) ?_
      rintro v wk ⟨rfl, qk⟩
      refine go T_ok 200 rfl ?_
      exact ret (ret1 (v := .bool true) Try.results15 rfl ⟨rfl, q.trans qk⟩)
end Go.Proofs.Ytkkjfjeniaiaiaa
