/- The walk of RockMore. -/
import Derived.Test.YtkkjfjeniaiaiaaL3
import Derived.Test.YtkkjfjeniaiaiaaS6
import Derived.Test.YtkkjfjeniaiaiaaE7
namespace Go.Proofs.Ytkkjfjeniaiaiaa
open Go.Ev Go.Proofs Go.Rock
attribute [local irreducible] At AtH
theorem sL_ones (l : List Su) : (l.flatMap sL).all (·.oneCell') = true := by
  induction l with
  | nil => rfl
  | cons p l ih => rw [List.flatMap_cons, List.all_append, ih]; rfl
theorem more_law {v : Vo} {st : Int} {l : List Su} {m : Su} (hv : VoOk v) (hl : LdOk v st (l ++ [m])) : GG v (lst v st l) (lst v st (l ++ [m])) ∧ GG v (mst v st (l ++ [m])) (mst v st l) := by
  have hl1 : LdOk v st l := ⟨fun s hs => hl.1 s (by simp [hs]), hl.2⟩
  have g1 := lst_gr hv hl1
  have g2 := lst_gr hv hl
  refine ⟨⟨g1.1, g2.1, fun i x y hx hy => ?_⟩, ⟨g2.2, g1.2, fun i x y hx hy => ?_⟩⟩
  · have hi : i < (v.nx * v.ny).toNat := by have := (List.getElem?_eq_some_iff.1 hx).1; rwa [lst_len] at this
    rw [lst_get hi] at hx hy
    cases hx
    cases hy
    rw [lstC_snoc]
    omega
  · have hi : i < (v.nx * v.ny).toNat := by have := (List.getElem?_eq_some_iff.1 hx).1; rwa [mst_len] at this
    rw [mst_get hi] at hx hy
    cases hx
    cases hy
    rw [mstC_snoc]
    omega
theorem noCl_sub {v : Vo} {st : Int} {l : List Su} {m : Su} (h : clsh v st (l ++ [m]) = none) : clsh v st l = none := by
  have hn := noCl_none h
  cases hc : clsh v st l with
  | none => rfl
  | some p =>
    obtain ⟨i, k⟩ := p
    obtain ⟨s, t, hs, ht, hlt⟩ := cl_some hc
    have := hn s (by simp [List.mem_of_getElem? hs]) t (by simp [List.mem_of_getElem? ht])
    omega
theorem ft_sub {v : Vo} {st : Int} {l : List Su} {m : Su} {g : List Int} (h : FtOk v st (l ++ [m]) g) : FtOk v st l g := ⟨fun s hs => h.1 s (by simp [hs]), h.2⟩
set_option maxRecDepth 20000 in
set_option maxHeartbeats 8000000 in
theorem walk_RockMore (v : Vo) (stp : Int) (l : Sli Su) (m : Su) (g : Sli Int) (w0 : World) (_hv : VoI v) (_hst : I64 stp) (hl : InS w0 l) (_hm : SuI m) (hg : InI w0 g) (hroom : l.l.length * 24 ≤ 140737488351232) :
    Ret Try.prog 16 [.agg (vL v).toArray, .int .i64 stp, .slice l.A l.l.length l.c, .agg (sL m).toArray, .slice g.A g.l.length g.c] w0 fun x w' => x = .bool true ∧ Chg No w0 w' := by
  refine enter Try.func16 rfl Try.ntmps16 rfl ?_
  refine go T_ok 200 rfl ?_
  refine bx rfl rfl rfl (cs := vL v) rfl ?_
  intro g1 u1 hg1 hs1 q1 B1
  refine go T_ok 200 rfl ?_
  refine bx rfl rfl rfl (cs := sL m) rfl ?_
  intro g2 u2 hg2 hs2 q2 B2
  have B1 := B1.no q2
  have q := q1.trans q2
  have hml := hl.ml
  have hmg := hg.ml
  have Sl := hl.2.2.1.no q
  have Sg := hg.sl.no q
  obtain ⟨LL, hLL⟩ : ∃ L, L = l.l ++ [m] := ⟨_, rfl⟩
  have hlen : LL.length = l.l.length + 1 := by rw [hLL]; simp
  have hnews : [] ++ l.l.flatMap sL ++ sL m = LL.flatMap sL := by rw [hLL]; simp
  have hll : 0 + l.l.length + 1 = LL.length := by omega
  refine go T_ok 200 rfl ?_
  refine join [1, 2, 4, 5, 11] (fun p : Option Addr × Nat => [.int .i64 stp, .slice l.A l.l.length l.c, .slice g.A g.l.length g.c, .pointer (some ⟨g1, 0, none⟩), .slice p.1 LL.length p.2])
    (fun p w' => Chg No u2 w' ∧ Ev.Sl w' w'.heap.size 3 p.1 LL.length (LL.flatMap sL)) (fun _ => rfl) ?_ ?_
  · refine draw2 mixed (fun w' => Chg No u2 w') [0,2] 1 3 [(3,false),(4,false),(5,true)] [(1,false),(4,false),(5,true)] rfl rfl rfl (by kernel_rfl) (Chg.drew _) ?_
    refine goH T_ok 200 rfl ?_
    refine quietH rfl (fun w' hS => r_loadA T_ok rfl rfl rfl rfl (B2.no hS).all) ?_
    refine goH T_ok 200 rfl ?_
    have hdr : u2.drew.heap.size = u2.heap.size := rfl
    have qd := Chg.drew u2
    refine endH (round ⟨rfl, ?_, ?_⟩)
    · skip
      refine appSE (B := u2.heap.size) T_ok rfl rfl rfl rfl rfl own_nil (Sl.no qd) (sL_ones _) (by unfold maxLen at *; omega) (by omega) (by have := qd.size; omega) ?_
      intro A1 c1 w1 o1 p1 _
      have qd := qd.step p1 (fun k hk e => by simp [Value.ownBlock] at e)
      refine ⟨qd, ?_⟩
      refine goH T_ok 200 rfl ?_
      refine rowE T_ok rfl rfl rfl rfl rfl rfl (cs := sL m) rfl ?_
      intro g3 w2 hg3 hs3 p3 B3
      have qd := qd.trans p3
      refine ⟨qd, ?_⟩
      have o1 := own_no o1 p3
      refine goH T_ok 200 rfl ?_
      refine appSE T_ok rfl rfl rfl rfl rfl o1 (B3.sl (sz := 3) (m := 1) rfl) rfl (by unfold maxLen at *; omega) (by omega) (by have := qd.size; omega) ?_
      intro A4 c4 w4 o4 p4 _
      have qd := qd.step p4 (fun k hk e => by have := own_ge o1 e; omega)
      refine ⟨qd, ?_⟩
      refine goH T_ok 200 rfl ?_
      refine endH ?_
      rw [hnews, hll] at o4
      rw [hll]
      exact round ⟨(A4, c4), rfl, qd, own_slN o4⟩
    · skip
      refine rowE T_ok rfl rfl rfl rfl rfl rfl (cs := sL m) rfl ?_
      intro g3 w2 hg3 hs3 p3 B3
      have qd := qd.trans p3
      refine ⟨qd, ?_⟩
      refine goH T_ok 200 rfl ?_
      refine appSE (B := u2.heap.size) T_ok rfl rfl rfl rfl rfl own_nil (Sl.no qd) (sL_ones _) (by unfold maxLen at *; omega) (by omega) (by have := qd.size; omega) ?_
      intro A1 c1 w1 o1 p1 _
      have qd := qd.step p1 (fun k hk e => by simp [Value.ownBlock] at e)
      refine ⟨qd, ?_⟩
      have B3 := B3.keep p1 (fun e => by simp [Value.ownBlock] at e)
      refine goH T_ok 200 rfl ?_
      refine appSE T_ok rfl rfl rfl rfl rfl o1 (B3.sl (sz := 3) (m := 1) rfl) rfl (by unfold maxLen at *; omega) (by omega) (by have := qd.size; omega) ?_
      intro A4 c4 w4 o4 p4 _
      have qd := qd.step p4 (fun k hk e => by have := own_ge o1 e; omega)
      refine ⟨qd, ?_⟩
      refine goH T_ok 200 rfl ?_
      refine endH ?_
      rw [hnews, hll] at o4
      rw [hll]
      exact round ⟨(A4, c4), rfl, qd, own_slN o4⟩
  rintro ⟨A5, c5⟩ τ w ⟨qk, S5⟩
  simp only at S5
  have B1 := B1.no qk
  have Sl := Sl.no qk
  have Sg := Sg.no qk
  have q := q.trans qk
  have hmL : LL.length ≤ maxLen := by unfold maxLen at *; omega
  refine go T_ok 200 rfl ?_
  refine guardD rfl rfl rfl (fun h40 => ?_) (fun h40 => ?_)
  · skip
    refine go T_ok 200 rfl ?_
    repeat (first | (refine guardA (b := true) rfl rfl rfl rfl (fun _ => ?_) (fun e => by cases e); refine go T_ok 200 rfl ?_) | (refine guardA (b := false) rfl rfl rfl rfl (fun e => by cases e) (fun _ => ?_); refine go T_ok 200 rfl ?_) | (refine condT rfl rfl ?_; refine go T_ok 200 rfl ?_) | (refine condF rfl rfl ?_; refine go T_ok 200 rfl ?_))
    refine call rfl rfl rfl (ok _ (by decide) rfl) (known_any _) ?_
    rintro v wk ⟨rfl, qk⟩
    refine go T_ok 200 rfl ?_
    exact ret (ret1 (v := .bool true) Try.results16 rfl ⟨rfl, q.trans qk⟩)
  refine go T_ok 200 rfl ?_
  repeat (first | (refine ldA T_ok rfl rfl rfl rfl rfl (Bk.all B1) ?_; refine go T_ok 200 rfl ?_) | (refine ld T_ok rfl rfl rfl rfl (Bk.get B1 rfl) ?_; refine go T_ok 200 rfl ?_) | (refine guardA (b := true) rfl rfl rfl rfl (fun _ => ?_) (fun e => by cases e); refine go T_ok 200 rfl ?_) | (refine guardA (b := false) rfl rfl rfl rfl (fun e => by cases e) (fun _ => ?_); refine go T_ok 200 rfl ?_) | (refine condT rfl rfl ?_; refine go T_ok 200 rfl ?_) | (refine condF rfl rfl ?_; refine go T_ok 200 rfl ?_))
  refine call rfl rfl rfl (ok _ (by decide) rfl) (rVolume_any v _) ?_
  rintro x w ⟨rfl, qk⟩
  have B1 := B1.no qk
  have Sl := Sl.no qk
  have Sg := Sg.no qk
  have S5 := S5.no qk
  have q := q.trans qk
  by_cases hv : VoOk v
  case neg =>
    rw [decide_eq_false hv]
    refine go T_ok 200 rfl ?_
    repeat (first | (refine guardA (b := true) rfl rfl rfl rfl (fun _ => ?_) (fun e => by cases e); refine go T_ok 200 rfl ?_) | (refine guardA (b := false) rfl rfl rfl rfl (fun e => by cases e) (fun _ => ?_); refine go T_ok 200 rfl ?_) | (refine condT rfl rfl ?_; refine go T_ok 200 rfl ?_) | (refine condF rfl rfl ?_; refine go T_ok 200 rfl ?_))
    refine call rfl rfl rfl (ok _ (by decide) rfl) (known_any _) ?_
    rintro v wk ⟨rfl, qk⟩
    refine go T_ok 200 rfl ?_
    exact ret (ret1 (v := .bool true) Try.results16 rfl ⟨rfl, q.trans qk⟩)
  rw [decide_eq_true hv]
  refine go T_ok 200 rfl ?_
  repeat (first | (refine ldA T_ok rfl rfl rfl rfl rfl (Bk.all B1) ?_; refine go T_ok 200 rfl ?_) | (refine ld T_ok rfl rfl rfl rfl (Bk.get B1 rfl) ?_; refine go T_ok 200 rfl ?_) | (refine guardA (b := true) rfl rfl rfl rfl (fun _ => ?_) (fun e => by cases e); refine go T_ok 200 rfl ?_) | (refine guardA (b := false) rfl rfl rfl rfl (fun e => by cases e) (fun _ => ?_); refine go T_ok 200 rfl ?_) | (refine condT rfl rfl ?_; refine go T_ok 200 rfl ?_) | (refine condF rfl rfl ?_; refine go T_ok 200 rfl ?_))
  refine call rfl rfl rfl (ok _ (by decide) rfl) (Surveys_any v stp LL A5 c5 _ _ hv hmL S5) ?_
  rintro x w ⟨rfl, qk⟩
  have B1 := B1.no qk
  have Sl := Sl.no qk
  have Sg := Sg.no qk
  have S5 := S5.no qk
  have q := q.trans qk
  by_cases hs : LdOk v stp LL
  case neg =>
    rw [decide_eq_false hs]
    refine go T_ok 200 rfl ?_
    repeat (first | (refine guardA (b := true) rfl rfl rfl rfl (fun _ => ?_) (fun e => by cases e); refine go T_ok 200 rfl ?_) | (refine guardA (b := false) rfl rfl rfl rfl (fun e => by cases e) (fun _ => ?_); refine go T_ok 200 rfl ?_) | (refine condT rfl rfl ?_; refine go T_ok 200 rfl ?_) | (refine condF rfl rfl ?_; refine go T_ok 200 rfl ?_))
    refine call rfl rfl rfl (ok _ (by decide) rfl) (known_any _) ?_
    rintro v wk ⟨rfl, qk⟩
    refine go T_ok 200 rfl ?_
    exact ret (ret1 (v := .bool true) Try.results16 rfl ⟨rfl, q.trans qk⟩)
  rw [decide_eq_true hs]
  refine go T_ok 200 rfl ?_
  repeat (first | (refine ldA T_ok rfl rfl rfl rfl rfl (Bk.all B1) ?_; refine go T_ok 200 rfl ?_) | (refine ld T_ok rfl rfl rfl rfl (Bk.get B1 rfl) ?_; refine go T_ok 200 rfl ?_) | (refine guardA (b := true) rfl rfl rfl rfl (fun _ => ?_) (fun e => by cases e); refine go T_ok 200 rfl ?_) | (refine guardA (b := false) rfl rfl rfl rfl (fun e => by cases e) (fun _ => ?_); refine go T_ok 200 rfl ?_) | (refine condT rfl rfl ?_; refine go T_ok 200 rfl ?_) | (refine condF rfl rfl ?_; refine go T_ok 200 rfl ?_))
  refine call rfl rfl rfl (ok _ (by decide) rfl) (rGround_any v g.l g.A g.c _ _ hv hmg Sg) ?_
  rintro x w ⟨rfl, qk⟩
  have B1 := B1.no qk
  have Sl := Sl.no qk
  have Sg := Sg.no qk
  have S5 := S5.no qk
  have q := q.trans qk
  by_cases hgr : GrOk v g.l
  case neg =>
    rw [decide_eq_false hgr]
    refine go T_ok 200 rfl ?_
    repeat (first | (refine guardA (b := true) rfl rfl rfl rfl (fun _ => ?_) (fun e => by cases e); refine go T_ok 200 rfl ?_) | (refine guardA (b := false) rfl rfl rfl rfl (fun e => by cases e) (fun _ => ?_); refine go T_ok 200 rfl ?_) | (refine condT rfl rfl ?_; refine go T_ok 200 rfl ?_) | (refine condF rfl rfl ?_; refine go T_ok 200 rfl ?_))
    refine call rfl rfl rfl (ok _ (by decide) rfl) (known_any _) ?_
    rintro v wk ⟨rfl, qk⟩
    refine go T_ok 200 rfl ?_
    exact ret (ret1 (v := .bool true) Try.results16 rfl ⟨rfl, q.trans qk⟩)
  rw [decide_eq_true hgr]
  have hs1 : LdOk v stp l.l := ⟨fun s hs' => hs.1 s (by rw [hLL]; simp [hs']), hs.2⟩
  have hw : wrE v stp l.l = 0 := by unfold wrE; rw [if_neg (by omega), if_pos ⟨hv, hs1⟩]
  have hw2 : wrE v stp LL = 0 := by unfold wrE; rw [if_neg (by omega), if_pos ⟨hv, hs⟩]
  have hfs : FtOk v stp LL g.l → FtOk v stp l.l g.l := by rw [hLL]; exact ft_sub
  have hcs : clsh v stp LL = none → clsh v stp l.l = none := by rw [hLL]; exact noCl_sub
  have hmo : GG v (lst v stp l.l) (lst v stp LL) ∧ GG v (mst v stp LL) (mst v stp l.l) := by rw [hLL] at hs ⊢; exact more_law hv hs
  have hxy := vo_xy hv
  have n1 : ∀ l, (lst v stp l).length ≤ maxLen := fun l => by rw [lst_len]; unfold maxLen; omega
  have n2 : ∀ l, (mst v stp l).length ≤ maxLen := fun l => by rw [mst_len]; unfold maxLen; omega
  refine go T_ok 200 rfl ?_
  repeat (first | (refine ldA T_ok rfl rfl rfl rfl rfl (Bk.all B1) ?_; refine go T_ok 200 rfl ?_) | (refine ld T_ok rfl rfl rfl rfl (Bk.get B1 rfl) ?_; refine go T_ok 200 rfl ?_) | (refine guardA (b := true) rfl rfl rfl rfl (fun _ => ?_) (fun e => by cases e); refine go T_ok 200 rfl ?_) | (refine guardA (b := false) rfl rfl rfl rfl (fun e => by cases e) (fun _ => ?_); refine go T_ok 200 rfl ?_) | (refine condT rfl rfl ?_; refine go T_ok 200 rfl ?_) | (refine condF rfl rfl ?_; refine go T_ok 200 rfl ?_))
  refine call rfl rfl rfl (ok _ (by decide) rfl) (Grounds_any v stp l.l l.A l.c _ _ hml Sl) ?_
  rintro x w ⟨A1, c1, A2, c2, e, a, b, rfl, S1, S2, qk, h1⟩
  have B1 := B1.no qk
  have Sl := Sl.no qk
  have Sg := Sg.no qk
  have S5 := S5.no qk
  have q := q.trans qk
  refine go T_ok 200 rfl ?_
  repeat (first | (refine ldA T_ok rfl rfl rfl rfl rfl (Bk.all B1) ?_; refine go T_ok 200 rfl ?_) | (refine ld T_ok rfl rfl rfl rfl (Bk.get B1 rfl) ?_; refine go T_ok 200 rfl ?_) | (refine guardA (b := true) rfl rfl rfl rfl (fun _ => ?_) (fun e => by cases e); refine go T_ok 200 rfl ?_) | (refine guardA (b := false) rfl rfl rfl rfl (fun e => by cases e) (fun _ => ?_); refine go T_ok 200 rfl ?_) | (refine condT rfl rfl ?_; refine go T_ok 200 rfl ?_) | (refine condF rfl rfl ?_; refine go T_ok 200 rfl ?_))
  refine call rfl rfl rfl (ok _ (by decide) rfl) (Grounds_any v stp LL A5 c5 _ _ hmL S5) ?_
  rintro x w ⟨A3, c3, A4, c4, e', a', b', rfl, S3, S4, qk, h2⟩
  have B1 := B1.no qk
  have Sl := Sl.no qk
  have Sg := Sg.no qk
  have S5 := S5.no qk
  have S1 := S1.no qk
  have S2 := S2.no qk
  have q := q.trans qk
  refine go T_ok 200 rfl ?_
  repeat (first | (refine ldA T_ok rfl rfl rfl rfl rfl (Bk.all B1) ?_; refine go T_ok 200 rfl ?_) | (refine ld T_ok rfl rfl rfl rfl (Bk.get B1 rfl) ?_; refine go T_ok 200 rfl ?_) | (refine guardA (b := true) rfl rfl rfl rfl (fun _ => ?_) (fun e => by cases e); refine go T_ok 200 rfl ?_) | (refine guardA (b := false) rfl rfl rfl rfl (fun e => by cases e) (fun _ => ?_); refine go T_ok 200 rfl ?_) | (refine condT rfl rfl ?_; refine go T_ok 200 rfl ?_) | (refine condF rfl rfl ?_; refine go T_ok 200 rfl ?_))
  refine call rfl rfl rfl (ok _ (by decide) rfl) (Fits_any v stp l.l g.l l.A g.A l.c g.c _ _ _ hml Sl hmg Sg) ?_
  rintro x w ⟨rfl, qk⟩
  have B1 := B1.no qk
  have Sl := Sl.no qk
  have Sg := Sg.no qk
  have S5 := S5.no qk
  have S1 := S1.no qk
  have S2 := S2.no qk
  have S3 := S3.no qk
  have S4 := S4.no qk
  have q := q.trans qk
  refine go T_ok 200 rfl ?_
  repeat (first | (refine ldA T_ok rfl rfl rfl rfl rfl (Bk.all B1) ?_; refine go T_ok 200 rfl ?_) | (refine ld T_ok rfl rfl rfl rfl (Bk.get B1 rfl) ?_; refine go T_ok 200 rfl ?_) | (refine guardA (b := true) rfl rfl rfl rfl (fun _ => ?_) (fun e => by cases e); refine go T_ok 200 rfl ?_) | (refine guardA (b := false) rfl rfl rfl rfl (fun e => by cases e) (fun _ => ?_); refine go T_ok 200 rfl ?_) | (refine condT rfl rfl ?_; refine go T_ok 200 rfl ?_) | (refine condF rfl rfl ?_; refine go T_ok 200 rfl ?_))
  refine call rfl rfl rfl (ok _ (by decide) rfl) (Fits_any v stp LL g.l A5 g.A c5 g.c _ _ _ hmL S5 hmg Sg) ?_
  rintro x w ⟨rfl, qk⟩
  have B1 := B1.no qk
  have Sl := Sl.no qk
  have Sg := Sg.no qk
  have S5 := S5.no qk
  have S1 := S1.no qk
  have S2 := S2.no qk
  have S3 := S3.no qk
  have S4 := S4.no qk
  have q := q.trans qk
  cases hc2 : clsh v stp LL with
  | none =>
    have hG1 : gdR v stp l.l = (0, lst v stp l.l, mst v stp l.l) := by unfold gdR; rw [if_neg (by omega), hcs hc2]
    have hG2 : gdR v stp LL = (0, lst v stp LL, mst v stp LL) := by unfold gdR; rw [if_neg (by omega), hc2]
    rw [hG1] at h1
    rw [hG2] at h2
    cases h1
    cases h2
    by_cases hf2 : FtOk v stp LL g.l
    · rw [ftR_yes hw2 hgr hf2, ftR_yes hw hgr (hfs hf2)]
      refine go T_ok 200 rfl ?_
      repeat (first | (refine ldA T_ok rfl rfl rfl rfl rfl (Bk.all B1) ?_; refine go T_ok 200 rfl ?_) | (refine ld T_ok rfl rfl rfl rfl (Bk.get B1 rfl) ?_; refine go T_ok 200 rfl ?_) | (refine guardA (b := true) rfl rfl rfl rfl (fun _ => ?_) (fun e => by cases e); refine go T_ok 200 rfl ?_) | (refine guardA (b := false) rfl rfl rfl rfl (fun e => by cases e) (fun _ => ?_); refine go T_ok 200 rfl ?_) | (refine condT rfl rfl ?_; refine go T_ok 200 rfl ?_) | (refine condF rfl rfl ?_; refine go T_ok 200 rfl ?_))
      refine call rfl rfl rfl (ok _ (by decide) rfl) (lgr_any v (lst v stp l.l) (lst v stp LL) A1 A3 c1 c3 _ _ _ hv (n1 _) (n1 _) S1 S3) ?_
      rintro x w ⟨t, rfl, ht, qk⟩
      have B1 := B1.no qk
      have Sl := Sl.no qk
      have Sg := Sg.no qk
      have S5 := S5.no qk
      have S1 := S1.no qk
      have S2 := S2.no qk
      have S3 := S3.no qk
      have S4 := S4.no qk
      have q := q.trans qk
      rw [ht.2 hmo.1]
      refine go T_ok 200 rfl ?_
      repeat (first | (refine ldA T_ok rfl rfl rfl rfl rfl (Bk.all B1) ?_; refine go T_ok 200 rfl ?_) | (refine ld T_ok rfl rfl rfl rfl (Bk.get B1 rfl) ?_; refine go T_ok 200 rfl ?_) | (refine guardA (b := true) rfl rfl rfl rfl (fun _ => ?_) (fun e => by cases e); refine go T_ok 200 rfl ?_) | (refine guardA (b := false) rfl rfl rfl rfl (fun e => by cases e) (fun _ => ?_); refine go T_ok 200 rfl ?_) | (refine condT rfl rfl ?_; refine go T_ok 200 rfl ?_) | (refine condF rfl rfl ?_; refine go T_ok 200 rfl ?_))
      refine call rfl rfl rfl (ok _ (by decide) rfl) (lgr_any v (mst v stp LL) (mst v stp l.l) A4 A2 c4 c2 _ _ _ hv (n2 _) (n2 _) S4 S2) ?_
      rintro x w ⟨t, rfl, ht, qk⟩
      have B1 := B1.no qk
      have Sl := Sl.no qk
      have Sg := Sg.no qk
      have S5 := S5.no qk
      have S1 := S1.no qk
      have S2 := S2.no qk
      have S3 := S3.no qk
      have S4 := S4.no qk
      have q := q.trans qk
      rw [ht.2 hmo.2]
      refine go T_ok 200 rfl ?_
      repeat (first | (refine ldA T_ok rfl rfl rfl rfl rfl (Bk.all B1) ?_; refine go T_ok 200 rfl ?_) | (refine ld T_ok rfl rfl rfl rfl (Bk.get B1 rfl) ?_; refine go T_ok 200 rfl ?_) | (refine guardA (b := true) rfl rfl rfl rfl (fun _ => ?_) (fun e => by cases e); refine go T_ok 200 rfl ?_) | (refine guardA (b := false) rfl rfl rfl rfl (fun e => by cases e) (fun _ => ?_); refine go T_ok 200 rfl ?_) | (refine condT rfl rfl ?_; refine go T_ok 200 rfl ?_) | (refine condF rfl rfl ?_; refine go T_ok 200 rfl ?_))
      refine call rfl rfl rfl (ok _ (by decide) rfl) (known_any _) ?_
      rintro v wk ⟨rfl, qk⟩
      refine go T_ok 200 rfl ?_
      exact ret (ret1 (v := .bool true) Try.results16 rfl ⟨rfl, q.trans qk⟩)
    · rw [ftR_no hw2 hgr hf2]
      by_cases hf1 : FtOk v stp l.l g.l
      · rw [ftR_yes hw hgr hf1]
        refine go T_ok 200 rfl ?_
        repeat (first | (refine ldA T_ok rfl rfl rfl rfl rfl (Bk.all B1) ?_; refine go T_ok 200 rfl ?_) | (refine ld T_ok rfl rfl rfl rfl (Bk.get B1 rfl) ?_; refine go T_ok 200 rfl ?_) | (refine guardA (b := true) rfl rfl rfl rfl (fun _ => ?_) (fun e => by cases e); refine go T_ok 200 rfl ?_) | (refine guardA (b := false) rfl rfl rfl rfl (fun e => by cases e) (fun _ => ?_); refine go T_ok 200 rfl ?_) | (refine condT rfl rfl ?_; refine go T_ok 200 rfl ?_) | (refine condF rfl rfl ?_; refine go T_ok 200 rfl ?_))
        refine call rfl rfl rfl (ok _ (by decide) rfl) (lgr_any v (lst v stp l.l) (lst v stp LL) A1 A3 c1 c3 _ _ _ hv (n1 _) (n1 _) S1 S3) ?_
        rintro x w ⟨t, rfl, ht, qk⟩
        have B1 := B1.no qk
        have Sl := Sl.no qk
        have Sg := Sg.no qk
        have S5 := S5.no qk
        have S1 := S1.no qk
        have S2 := S2.no qk
        have S3 := S3.no qk
        have S4 := S4.no qk
        have q := q.trans qk
        rw [ht.2 hmo.1]
        refine go T_ok 200 rfl ?_
        repeat (first | (refine ldA T_ok rfl rfl rfl rfl rfl (Bk.all B1) ?_; refine go T_ok 200 rfl ?_) | (refine ld T_ok rfl rfl rfl rfl (Bk.get B1 rfl) ?_; refine go T_ok 200 rfl ?_) | (refine guardA (b := true) rfl rfl rfl rfl (fun _ => ?_) (fun e => by cases e); refine go T_ok 200 rfl ?_) | (refine guardA (b := false) rfl rfl rfl rfl (fun e => by cases e) (fun _ => ?_); refine go T_ok 200 rfl ?_) | (refine condT rfl rfl ?_; refine go T_ok 200 rfl ?_) | (refine condF rfl rfl ?_; refine go T_ok 200 rfl ?_))
        refine call rfl rfl rfl (ok _ (by decide) rfl) (lgr_any v (mst v stp LL) (mst v stp l.l) A4 A2 c4 c2 _ _ _ hv (n2 _) (n2 _) S4 S2) ?_
        rintro x w ⟨t, rfl, ht, qk⟩
        have B1 := B1.no qk
        have Sl := Sl.no qk
        have Sg := Sg.no qk
        have S5 := S5.no qk
        have S1 := S1.no qk
        have S2 := S2.no qk
        have S3 := S3.no qk
        have S4 := S4.no qk
        have q := q.trans qk
        rw [ht.2 hmo.2]
        refine go T_ok 200 rfl ?_
        repeat (first | (refine ldA T_ok rfl rfl rfl rfl rfl (Bk.all B1) ?_; refine go T_ok 200 rfl ?_) | (refine ld T_ok rfl rfl rfl rfl (Bk.get B1 rfl) ?_; refine go T_ok 200 rfl ?_) | (refine guardA (b := true) rfl rfl rfl rfl (fun _ => ?_) (fun e => by cases e); refine go T_ok 200 rfl ?_) | (refine guardA (b := false) rfl rfl rfl rfl (fun e => by cases e) (fun _ => ?_); refine go T_ok 200 rfl ?_) | (refine condT rfl rfl ?_; refine go T_ok 200 rfl ?_) | (refine condF rfl rfl ?_; refine go T_ok 200 rfl ?_))
        refine call rfl rfl rfl (ok _ (by decide) rfl) (known_any _) ?_
        rintro v wk ⟨rfl, qk⟩
        refine go T_ok 200 rfl ?_
        exact ret (ret1 (v := .bool true) Try.results16 rfl ⟨rfl, q.trans qk⟩)
      · rw [ftR_no hw hgr hf1]
        refine go T_ok 200 rfl ?_
        repeat (first | (refine ldA T_ok rfl rfl rfl rfl rfl (Bk.all B1) ?_; refine go T_ok 200 rfl ?_) | (refine ld T_ok rfl rfl rfl rfl (Bk.get B1 rfl) ?_; refine go T_ok 200 rfl ?_) | (refine guardA (b := true) rfl rfl rfl rfl (fun _ => ?_) (fun e => by cases e); refine go T_ok 200 rfl ?_) | (refine guardA (b := false) rfl rfl rfl rfl (fun e => by cases e) (fun _ => ?_); refine go T_ok 200 rfl ?_) | (refine condT rfl rfl ?_; refine go T_ok 200 rfl ?_) | (refine condF rfl rfl ?_; refine go T_ok 200 rfl ?_))
        refine call rfl rfl rfl (ok _ (by decide) rfl) (lgr_any v (lst v stp l.l) (lst v stp LL) A1 A3 c1 c3 _ _ _ hv (n1 _) (n1 _) S1 S3) ?_
        rintro x w ⟨t, rfl, ht, qk⟩
        have B1 := B1.no qk
        have Sl := Sl.no qk
        have Sg := Sg.no qk
        have S5 := S5.no qk
        have S1 := S1.no qk
        have S2 := S2.no qk
        have S3 := S3.no qk
        have S4 := S4.no qk
        have q := q.trans qk
        rw [ht.2 hmo.1]
        refine go T_ok 200 rfl ?_
        repeat (first | (refine ldA T_ok rfl rfl rfl rfl rfl (Bk.all B1) ?_; refine go T_ok 200 rfl ?_) | (refine ld T_ok rfl rfl rfl rfl (Bk.get B1 rfl) ?_; refine go T_ok 200 rfl ?_) | (refine guardA (b := true) rfl rfl rfl rfl (fun _ => ?_) (fun e => by cases e); refine go T_ok 200 rfl ?_) | (refine guardA (b := false) rfl rfl rfl rfl (fun e => by cases e) (fun _ => ?_); refine go T_ok 200 rfl ?_) | (refine condT rfl rfl ?_; refine go T_ok 200 rfl ?_) | (refine condF rfl rfl ?_; refine go T_ok 200 rfl ?_))
        refine call rfl rfl rfl (ok _ (by decide) rfl) (lgr_any v (mst v stp LL) (mst v stp l.l) A4 A2 c4 c2 _ _ _ hv (n2 _) (n2 _) S4 S2) ?_
        rintro x w ⟨t, rfl, ht, qk⟩
        have B1 := B1.no qk
        have Sl := Sl.no qk
        have Sg := Sg.no qk
        have S5 := S5.no qk
        have S1 := S1.no qk
        have S2 := S2.no qk
        have S3 := S3.no qk
        have S4 := S4.no qk
        have q := q.trans qk
        rw [ht.2 hmo.2]
        refine go T_ok 200 rfl ?_
        repeat (first | (refine ldA T_ok rfl rfl rfl rfl rfl (Bk.all B1) ?_; refine go T_ok 200 rfl ?_) | (refine ld T_ok rfl rfl rfl rfl (Bk.get B1 rfl) ?_; refine go T_ok 200 rfl ?_) | (refine guardA (b := true) rfl rfl rfl rfl (fun _ => ?_) (fun e => by cases e); refine go T_ok 200 rfl ?_) | (refine guardA (b := false) rfl rfl rfl rfl (fun e => by cases e) (fun _ => ?_); refine go T_ok 200 rfl ?_) | (refine condT rfl rfl ?_; refine go T_ok 200 rfl ?_) | (refine condF rfl rfl ?_; refine go T_ok 200 rfl ?_))
        refine call rfl rfl rfl (ok _ (by decide) rfl) (known_any _) ?_
        rintro v wk ⟨rfl, qk⟩
        refine go T_ok 200 rfl ?_
        exact ret (ret1 (v := .bool true) Try.results16 rfl ⟨rfl, q.trans qk⟩)
  | some p =>
    have hG2 : gdR v stp LL = (7, [], []) := by unfold gdR; rw [if_neg (by omega), hc2]
    rw [hG2] at h2
    cases h2
    cases hc1 : clsh v stp l.l with
    | none =>
      have hG1 : gdR v stp l.l = (0, lst v stp l.l, mst v stp l.l) := by unfold gdR; rw [if_neg (by omega), hc1]
      rw [hG1] at h1
      cases h1
      by_cases hf2 : FtOk v stp LL g.l
      · rw [ftR_yes hw2 hgr hf2, ftR_yes hw hgr (hfs hf2)]
        refine go T_ok 200 rfl ?_
        repeat (first | (refine ldA T_ok rfl rfl rfl rfl rfl (Bk.all B1) ?_; refine go T_ok 200 rfl ?_) | (refine ld T_ok rfl rfl rfl rfl (Bk.get B1 rfl) ?_; refine go T_ok 200 rfl ?_) | (refine guardA (b := true) rfl rfl rfl rfl (fun _ => ?_) (fun e => by cases e); refine go T_ok 200 rfl ?_) | (refine guardA (b := false) rfl rfl rfl rfl (fun e => by cases e) (fun _ => ?_); refine go T_ok 200 rfl ?_) | (refine condT rfl rfl ?_; refine go T_ok 200 rfl ?_) | (refine condF rfl rfl ?_; refine go T_ok 200 rfl ?_))
        refine call rfl rfl rfl (ok _ (by decide) rfl) (known_any _) ?_
        rintro v wk ⟨rfl, qk⟩
        refine go T_ok 200 rfl ?_
        exact ret (ret1 (v := .bool true) Try.results16 rfl ⟨rfl, q.trans qk⟩)
      · rw [ftR_no hw2 hgr hf2]
        by_cases hf1 : FtOk v stp l.l g.l
        · rw [ftR_yes hw hgr hf1]
          refine go T_ok 200 rfl ?_
          repeat (first | (refine ldA T_ok rfl rfl rfl rfl rfl (Bk.all B1) ?_; refine go T_ok 200 rfl ?_) | (refine ld T_ok rfl rfl rfl rfl (Bk.get B1 rfl) ?_; refine go T_ok 200 rfl ?_) | (refine guardA (b := true) rfl rfl rfl rfl (fun _ => ?_) (fun e => by cases e); refine go T_ok 200 rfl ?_) | (refine guardA (b := false) rfl rfl rfl rfl (fun e => by cases e) (fun _ => ?_); refine go T_ok 200 rfl ?_) | (refine condT rfl rfl ?_; refine go T_ok 200 rfl ?_) | (refine condF rfl rfl ?_; refine go T_ok 200 rfl ?_))
          refine call rfl rfl rfl (ok _ (by decide) rfl) (known_any _) ?_
          rintro v wk ⟨rfl, qk⟩
          refine go T_ok 200 rfl ?_
          exact ret (ret1 (v := .bool true) Try.results16 rfl ⟨rfl, q.trans qk⟩)
        · rw [ftR_no hw hgr hf1]
          refine go T_ok 200 rfl ?_
          repeat (first | (refine ldA T_ok rfl rfl rfl rfl rfl (Bk.all B1) ?_; refine go T_ok 200 rfl ?_) | (refine ld T_ok rfl rfl rfl rfl (Bk.get B1 rfl) ?_; refine go T_ok 200 rfl ?_) | (refine guardA (b := true) rfl rfl rfl rfl (fun _ => ?_) (fun e => by cases e); refine go T_ok 200 rfl ?_) | (refine guardA (b := false) rfl rfl rfl rfl (fun e => by cases e) (fun _ => ?_); refine go T_ok 200 rfl ?_) | (refine condT rfl rfl ?_; refine go T_ok 200 rfl ?_) | (refine condF rfl rfl ?_; refine go T_ok 200 rfl ?_))
          refine call rfl rfl rfl (ok _ (by decide) rfl) (known_any _) ?_
          rintro v wk ⟨rfl, qk⟩
          refine go T_ok 200 rfl ?_
          exact ret (ret1 (v := .bool true) Try.results16 rfl ⟨rfl, q.trans qk⟩)
    | some p =>
      have hG1 : gdR v stp l.l = (7, [], []) := by unfold gdR; rw [if_neg (by omega), hc1]
      rw [hG1] at h1
      cases h1
      by_cases hf2 : FtOk v stp LL g.l
      · rw [ftR_yes hw2 hgr hf2, ftR_yes hw hgr (hfs hf2)]
        refine go T_ok 200 rfl ?_
        repeat (first | (refine ldA T_ok rfl rfl rfl rfl rfl (Bk.all B1) ?_; refine go T_ok 200 rfl ?_) | (refine ld T_ok rfl rfl rfl rfl (Bk.get B1 rfl) ?_; refine go T_ok 200 rfl ?_) | (refine guardA (b := true) rfl rfl rfl rfl (fun _ => ?_) (fun e => by cases e); refine go T_ok 200 rfl ?_) | (refine guardA (b := false) rfl rfl rfl rfl (fun e => by cases e) (fun _ => ?_); refine go T_ok 200 rfl ?_) | (refine condT rfl rfl ?_; refine go T_ok 200 rfl ?_) | (refine condF rfl rfl ?_; refine go T_ok 200 rfl ?_))
        refine call rfl rfl rfl (ok _ (by decide) rfl) (known_any _) ?_
        rintro v wk ⟨rfl, qk⟩
        refine go T_ok 200 rfl ?_
        exact ret (ret1 (v := .bool true) Try.results16 rfl ⟨rfl, q.trans qk⟩)
      · rw [ftR_no hw2 hgr hf2]
        by_cases hf1 : FtOk v stp l.l g.l
        · rw [ftR_yes hw hgr hf1]
          refine go T_ok 200 rfl ?_
          repeat (first | (refine ldA T_ok rfl rfl rfl rfl rfl (Bk.all B1) ?_; refine go T_ok 200 rfl ?_) | (refine ld T_ok rfl rfl rfl rfl (Bk.get B1 rfl) ?_; refine go T_ok 200 rfl ?_) | (refine guardA (b := true) rfl rfl rfl rfl (fun _ => ?_) (fun e => by cases e); refine go T_ok 200 rfl ?_) | (refine guardA (b := false) rfl rfl rfl rfl (fun e => by cases e) (fun _ => ?_); refine go T_ok 200 rfl ?_) | (refine condT rfl rfl ?_; refine go T_ok 200 rfl ?_) | (refine condF rfl rfl ?_; refine go T_ok 200 rfl ?_))
          refine call rfl rfl rfl (ok _ (by decide) rfl) (known_any _) ?_
          rintro v wk ⟨rfl, qk⟩
          refine go T_ok 200 rfl ?_
          exact ret (ret1 (v := .bool true) Try.results16 rfl ⟨rfl, q.trans qk⟩)
        · rw [ftR_no hw hgr hf1]
          refine go T_ok 200 rfl ?_
          repeat (first | (refine ldA T_ok rfl rfl rfl rfl rfl (Bk.all B1) ?_; refine go T_ok 200 rfl ?_) | (refine ld T_ok rfl rfl rfl rfl (Bk.get B1 rfl) ?_; refine go T_ok 200 rfl ?_) | (refine guardA (b := true) rfl rfl rfl rfl (fun _ => ?_) (fun e => by cases e); refine go T_ok 200 rfl ?_) | (refine guardA (b := false) rfl rfl rfl rfl (fun e => by cases e) (fun _ => ?_); refine go T_ok 200 rfl ?_) | (refine condT rfl rfl ?_; refine go T_ok 200 rfl ?_) | (refine condF rfl rfl ?_; refine go T_ok 200 rfl ?_))
          refine call rfl rfl rfl (ok _ (by decide) rfl) (known_any _) ?_
          rintro v wk ⟨rfl, qk⟩
          refine go T_ok 200 rfl ?_
          exact ret (ret1 (v := .bool true) Try.results16 rfl ⟨rfl, q.trans qk⟩)
end Go.Proofs.Ytkkjfjeniaiaiaa
