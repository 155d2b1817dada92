/- The walk of RockBounds. -/
import Derived.Test.YtkkjfjeniaiaiaaL3
import Derived.Test.YtkkjfjeniaiaiaaR6
namespace Go.Proofs.Ytkkjfjeniaiaiaa
open Go.Ev Go.Proofs Go.Rock
attribute [local irreducible] At AtH
theorem eqStr72 : eqStr Try.prog 72 2 = true := by kernel_rfl
theorem cLmap (p : Int × Int) : cL p = [p.1, p.2].map (Value.int .i64) := rfl
set_option maxRecDepth 20000 in
set_option maxHeartbeats 8000000 in
theorem walk_RockBounds (v : Vo) (a b : Sli Int) (d : Sli (Int × Int)) (r : Ra) (w0 : World) (_hv : VoI v) (ha : InI w0 a) (hb : InI w0 b) (hd : InD w0 d) (_hr : RaI r) :
    Ret Try.prog 11 [.agg (vL v).toArray, .slice a.A a.l.length a.c, .slice b.A b.l.length b.c, .slice d.A d.l.length d.c, .agg (rL r).toArray] w0 fun x w' => x = .bool true ∧ Chg No w0 w' := by
  refine enter Try.func11 rfl Try.ntmps11 rfl ?_
  refine go T_ok 200 rfl ?_
  refine bx rfl rfl rfl (cs := vL v) rfl ?_
  intro g1 u1 hg1 hs1 q1 B1
  refine go T_ok 200 rfl ?_
  refine bx rfl rfl rfl (cs := rL r) rfl ?_
  intro g2 u2 hg2 hs2 q2 B2
  have B1 := B1.no q2
  have q := q1.trans q2
  have Sa := ha.sl.no q
  have Sb := hb.sl.no q
  have Sd := hd.2.2.1.no q
  refine go T_ok 200 rfl ?_
  refine guardD rfl rfl rfl (fun h => ?_) (fun h => ?_)
  · skip
    refine go T_ok 200 rfl ?_
    repeat (first | (refine guardA (b := true) rfl rfl rfl rfl (fun _ => ?_) (fun e => by cases e); refine go T_ok 200 rfl ?_) | (refine guardA (b := false) rfl rfl rfl rfl (fun e => by cases e) (fun _ => ?_); refine go T_ok 200 rfl ?_) | (refine condT rfl rfl ?_; refine go T_ok 200 rfl ?_) | (refine condF rfl rfl ?_; refine go T_ok 200 rfl ?_))
    refine call rfl rfl rfl (ok _ (by decide) rfl) (known_any _) ?_
    rintro v wk ⟨rfl, qk⟩
    refine go T_ok 200 rfl ?_
    exact ret (ret1 (v := .bool true) Try.results11 rfl ⟨rfl, q.trans qk⟩)
  refine go T_ok 200 rfl ?_
  refine guardD rfl rfl rfl (fun h => ?_) (fun h => ?_)
  · skip
    refine go T_ok 200 rfl ?_
    repeat (first | (refine guardA (b := true) rfl rfl rfl rfl (fun _ => ?_) (fun e => by cases e); refine go T_ok 200 rfl ?_) | (refine guardA (b := false) rfl rfl rfl rfl (fun e => by cases e) (fun _ => ?_); refine go T_ok 200 rfl ?_) | (refine condT rfl rfl ?_; refine go T_ok 200 rfl ?_) | (refine condF rfl rfl ?_; refine go T_ok 200 rfl ?_))
    refine call rfl rfl rfl (ok _ (by decide) rfl) (known_any _) ?_
    rintro v wk ⟨rfl, qk⟩
    refine go T_ok 200 rfl ?_
    exact ret (ret1 (v := .bool true) Try.results11 rfl ⟨rfl, q.trans qk⟩)
  refine go T_ok 200 rfl ?_
  refine condD rfl (fun h => ?_) (fun h => ?_)
  · skip
    refine go T_ok 200 rfl ?_
    repeat (first | (refine guardA (b := true) rfl rfl rfl rfl (fun _ => ?_) (fun e => by cases e); refine go T_ok 200 rfl ?_) | (refine guardA (b := false) rfl rfl rfl rfl (fun e => by cases e) (fun _ => ?_); refine go T_ok 200 rfl ?_) | (refine condT rfl rfl ?_; refine go T_ok 200 rfl ?_) | (refine condF rfl rfl ?_; refine go T_ok 200 rfl ?_))
    refine call rfl rfl rfl (ok _ (by decide) rfl) (known_any _) ?_
    rintro v wk ⟨rfl, qk⟩
    refine go T_ok 200 rfl ?_
    exact ret (ret1 (v := .bool true) Try.results11 rfl ⟨rfl, q.trans qk⟩)
  refine go T_ok 200 rfl ?_
  repeat (first | (refine ldA T_ok rfl rfl rfl rfl rfl (Bk.all B1) ?_; refine go T_ok 200 rfl ?_) | (refine ldA T_ok rfl rfl rfl rfl rfl (Bk.all B2) ?_; refine go T_ok 200 rfl ?_) | (refine ld T_ok rfl rfl rfl rfl (Bk.get B1 rfl) ?_; refine go T_ok 200 rfl ?_) | (refine ld T_ok rfl rfl rfl rfl (Bk.get B2 rfl) ?_; refine go T_ok 200 rfl ?_) | (refine guardA (b := true) rfl rfl rfl rfl (fun _ => ?_) (fun e => by cases e); refine go T_ok 200 rfl ?_) | (refine guardA (b := false) rfl rfl rfl rfl (fun e => by cases e) (fun _ => ?_); refine go T_ok 200 rfl ?_) | (refine condT rfl rfl ?_; refine go T_ok 200 rfl ?_) | (refine condF rfl rfl ?_; refine go T_ok 200 rfl ?_))
  refine call rfl rfl rfl (ok _ (by decide) rfl) (Bounds_any v r a.l b.l d.l a.A b.A d.A a.c b.c d.c _ _ _ _ ha.ml hb.ml hd.ml Sa Sb Sd) ?_
  rintro x w ⟨rfl, qk⟩
  have B1 := B1.no qk
  have B2 := B2.no qk
  have Sa := Sa.no qk
  have Sb := Sb.no qk
  have Sd := Sd.no qk
  have q := q.trans qk
  refine go T_ok 200 rfl ?_
  have yq := q.size
  have yB1 := B1.lt
  have yB2 := B2.lt
  have ySa := Sa.2.1
  have ySb := Sb.2.1
  have ySd := Sd.2.1
  have yq := q.size
  refine nw rfl rfl (z := .agg #[I 0, I 0]) (by kernel_rfl) (cs := [I 0, I 0]) rfl ?_
  intro g3 w hg3 hs3 qk B3
  have B1 := B1.no qk
  have B2 := B2.no qk
  have Sa := Sa.no qk
  have Sb := Sb.no qk
  have Sd := Sd.no qk
  have q := q.trans qk
  refine go T_ok 200 rfl ?_
  refine stA T_ok rfl rfl rfl rfl (vs := cL (bnR v r a.l b.l d.l).1) rfl rfl rfl B3 rfl ?_
  intro w qk B3 hz3
  have B3 : Bk w g3 72 (cL (bnR v r a.l b.l d.l).1) := B3
  have B1 := Bk.keep B1 qk (by omega)
  have B2 := Bk.keep B2 qk (by omega)
  have Sa := Sl.keep Sa qk (fun k hk e => by omega)
  have Sb := Sl.keep Sb qk (fun k hk e => by omega)
  have Sd := Sl.keep Sd qk (fun k hk e => by omega)
  have q := q.step qk (fun k hk e => by omega)
  refine go T_ok 200 rfl ?_
  repeat (first | (refine ldA T_ok rfl rfl rfl rfl rfl (Bk.all B1) ?_; refine go T_ok 200 rfl ?_) | (refine ldA T_ok rfl rfl rfl rfl rfl (Bk.all B2) ?_; refine go T_ok 200 rfl ?_) | (refine ldA T_ok rfl rfl rfl rfl rfl (Bk.all B3) ?_; refine go T_ok 200 rfl ?_) | (refine ld T_ok rfl rfl rfl rfl (Bk.get B1 rfl) ?_; refine go T_ok 200 rfl ?_) | (refine ld T_ok rfl rfl rfl rfl (Bk.get B2 rfl) ?_; refine go T_ok 200 rfl ?_) | (refine ld T_ok rfl rfl rfl rfl (Bk.get B3 rfl) ?_; refine go T_ok 200 rfl ?_) | (refine guardA (b := true) rfl rfl rfl rfl (fun _ => ?_) (fun e => by cases e); refine go T_ok 200 rfl ?_) | (refine guardA (b := false) rfl rfl rfl rfl (fun e => by cases e) (fun _ => ?_); refine go T_ok 200 rfl ?_) | (refine condT rfl rfl ?_; refine go T_ok 200 rfl ?_) | (refine condF rfl rfl ?_; refine go T_ok 200 rfl ?_))
  refine call rfl rfl rfl (ok _ (by decide) rfl) (rVolume_any v _) ?_
  rintro x w ⟨rfl, qk⟩
  have B1 := B1.no qk
  have B2 := B2.no qk
  have Sa := Sa.no qk
  have Sb := Sb.no qk
  have Sd := Sd.no qk
  have B3 := B3.no qk
  have q := q.trans qk
  by_cases hv : VoOk v
  case neg =>
    rw [decide_eq_false hv]
    have hR : bnR v r a.l b.l d.l = ((0, 0), 2) := by unfold bnR; rw [if_neg (fun h => hv h.1.1)]
    rw [hR] at B3 ⊢
    refine go T_ok 200 rfl ?_
    repeat (first | (refine ldA T_ok rfl rfl rfl rfl rfl (Bk.all B1) ?_; refine go T_ok 200 rfl ?_) | (refine ldA T_ok rfl rfl rfl rfl rfl (Bk.all B2) ?_; refine go T_ok 200 rfl ?_) | (refine ldA T_ok rfl rfl rfl rfl rfl (Bk.all B3) ?_; refine go T_ok 200 rfl ?_) | (refine ld T_ok rfl rfl rfl rfl (Bk.get B1 rfl) ?_; refine go T_ok 200 rfl ?_) | (refine ld T_ok rfl rfl rfl rfl (Bk.get B2 rfl) ?_; refine go T_ok 200 rfl ?_) | (refine ld T_ok rfl rfl rfl rfl (Bk.get B3 rfl) ?_; refine go T_ok 200 rfl ?_) | (refine guardA (b := true) rfl rfl rfl rfl (fun _ => ?_) (fun e => by cases e); refine go T_ok 200 rfl ?_) | (refine guardA (b := false) rfl rfl rfl rfl (fun e => by cases e) (fun _ => ?_); refine go T_ok 200 rfl ?_) | (refine condT rfl rfl ?_; refine go T_ok 200 rfl ?_) | (refine condF rfl rfl ?_; refine go T_ok 200 rfl ?_))
    refine eqS (l' := [0, 0]) (m := [0, 0]) rfl rfl eqStr72 rfl rfl rfl ?_
    refine go T_ok 200 rfl ?_
    repeat (first | (refine ldA T_ok rfl rfl rfl rfl rfl (Bk.all B1) ?_; refine go T_ok 200 rfl ?_) | (refine ldA T_ok rfl rfl rfl rfl rfl (Bk.all B2) ?_; refine go T_ok 200 rfl ?_) | (refine ldA T_ok rfl rfl rfl rfl rfl (Bk.all B3) ?_; refine go T_ok 200 rfl ?_) | (refine ld T_ok rfl rfl rfl rfl (Bk.get B1 rfl) ?_; refine go T_ok 200 rfl ?_) | (refine ld T_ok rfl rfl rfl rfl (Bk.get B2 rfl) ?_; refine go T_ok 200 rfl ?_) | (refine ld T_ok rfl rfl rfl rfl (Bk.get B3 rfl) ?_; refine go T_ok 200 rfl ?_) | (refine guardA (b := true) rfl rfl rfl rfl (fun _ => ?_) (fun e => by cases e); refine go T_ok 200 rfl ?_) | (refine guardA (b := false) rfl rfl rfl rfl (fun e => by cases e) (fun _ => ?_); refine go T_ok 200 rfl ?_) | (refine condT rfl rfl ?_; refine go T_ok 200 rfl ?_) | (refine condF rfl rfl ?_; refine go T_ok 200 rfl ?_))
    refine call rfl rfl rfl (ok _ (by decide) rfl) (known_any _) ?_
    rintro v wk ⟨rfl, qk⟩
    refine go T_ok 200 rfl ?_
    exact ret (ret1 (v := .bool true) Try.results11 rfl ⟨rfl, q.trans qk⟩)
  rw [decide_eq_true hv]
  refine go T_ok 200 rfl ?_
  repeat (first | (refine ldA T_ok rfl rfl rfl rfl rfl (Bk.all B1) ?_; refine go T_ok 200 rfl ?_) | (refine ldA T_ok rfl rfl rfl rfl rfl (Bk.all B2) ?_; refine go T_ok 200 rfl ?_) | (refine ldA T_ok rfl rfl rfl rfl rfl (Bk.all B3) ?_; refine go T_ok 200 rfl ?_) | (refine ld T_ok rfl rfl rfl rfl (Bk.get B1 rfl) ?_; refine go T_ok 200 rfl ?_) | (refine ld T_ok rfl rfl rfl rfl (Bk.get B2 rfl) ?_; refine go T_ok 200 rfl ?_) | (refine ld T_ok rfl rfl rfl rfl (Bk.get B3 rfl) ?_; refine go T_ok 200 rfl ?_) | (refine guardA (b := true) rfl rfl rfl rfl (fun _ => ?_) (fun e => by cases e); refine go T_ok 200 rfl ?_) | (refine guardA (b := false) rfl rfl rfl rfl (fun e => by cases e) (fun _ => ?_); refine go T_ok 200 rfl ?_) | (refine condT rfl rfl ?_; refine go T_ok 200 rfl ?_) | (refine condF rfl rfl ?_; refine go T_ok 200 rfl ?_))
  refine call rfl rfl rfl (ok _ (by decide) rfl) (rRay_any r _) ?_
  rintro x w ⟨rfl, qk⟩
  have B1 := B1.no qk
  have B2 := B2.no qk
  have Sa := Sa.no qk
  have Sb := Sb.no qk
  have Sd := Sd.no qk
  have B3 := B3.no qk
  have q := q.trans qk
  by_cases hr : RaOk r
  case neg =>
    rw [decide_eq_false hr]
    have hR : bnR v r a.l b.l d.l = ((0, 0), 2) := by unfold bnR; rw [if_neg (fun h => hr h.1.2.1)]
    rw [hR] at B3 ⊢
    refine go T_ok 200 rfl ?_
    repeat (first | (refine ldA T_ok rfl rfl rfl rfl rfl (Bk.all B1) ?_; refine go T_ok 200 rfl ?_) | (refine ldA T_ok rfl rfl rfl rfl rfl (Bk.all B2) ?_; refine go T_ok 200 rfl ?_) | (refine ldA T_ok rfl rfl rfl rfl rfl (Bk.all B3) ?_; refine go T_ok 200 rfl ?_) | (refine ld T_ok rfl rfl rfl rfl (Bk.get B1 rfl) ?_; refine go T_ok 200 rfl ?_) | (refine ld T_ok rfl rfl rfl rfl (Bk.get B2 rfl) ?_; refine go T_ok 200 rfl ?_) | (refine ld T_ok rfl rfl rfl rfl (Bk.get B3 rfl) ?_; refine go T_ok 200 rfl ?_) | (refine guardA (b := true) rfl rfl rfl rfl (fun _ => ?_) (fun e => by cases e); refine go T_ok 200 rfl ?_) | (refine guardA (b := false) rfl rfl rfl rfl (fun e => by cases e) (fun _ => ?_); refine go T_ok 200 rfl ?_) | (refine condT rfl rfl ?_; refine go T_ok 200 rfl ?_) | (refine condF rfl rfl ?_; refine go T_ok 200 rfl ?_))
    refine eqS (l' := [0, 0]) (m := [0, 0]) rfl rfl eqStr72 rfl rfl rfl ?_
    refine go T_ok 200 rfl ?_
    repeat (first | (refine ldA T_ok rfl rfl rfl rfl rfl (Bk.all B1) ?_; refine go T_ok 200 rfl ?_) | (refine ldA T_ok rfl rfl rfl rfl rfl (Bk.all B2) ?_; refine go T_ok 200 rfl ?_) | (refine ldA T_ok rfl rfl rfl rfl rfl (Bk.all B3) ?_; refine go T_ok 200 rfl ?_) | (refine ld T_ok rfl rfl rfl rfl (Bk.get B1 rfl) ?_; refine go T_ok 200 rfl ?_) | (refine ld T_ok rfl rfl rfl rfl (Bk.get B2 rfl) ?_; refine go T_ok 200 rfl ?_) | (refine ld T_ok rfl rfl rfl rfl (Bk.get B3 rfl) ?_; refine go T_ok 200 rfl ?_) | (refine guardA (b := true) rfl rfl rfl rfl (fun _ => ?_) (fun e => by cases e); refine go T_ok 200 rfl ?_) | (refine guardA (b := false) rfl rfl rfl rfl (fun e => by cases e) (fun _ => ?_); refine go T_ok 200 rfl ?_) | (refine condT rfl rfl ?_; refine go T_ok 200 rfl ?_) | (refine condF rfl rfl ?_; refine go T_ok 200 rfl ?_))
    refine call rfl rfl rfl (ok _ (by decide) rfl) (known_any _) ?_
    rintro v wk ⟨rfl, qk⟩
    refine go T_ok 200 rfl ?_
    exact ret (ret1 (v := .bool true) Try.results11 rfl ⟨rfl, q.trans qk⟩)
  rw [decide_eq_true hr]
  refine go T_ok 200 rfl ?_
  repeat (first | (refine ldA T_ok rfl rfl rfl rfl rfl (Bk.all B1) ?_; refine go T_ok 200 rfl ?_) | (refine ldA T_ok rfl rfl rfl rfl rfl (Bk.all B2) ?_; refine go T_ok 200 rfl ?_) | (refine ldA T_ok rfl rfl rfl rfl rfl (Bk.all B3) ?_; refine go T_ok 200 rfl ?_) | (refine ld T_ok rfl rfl rfl rfl (Bk.get B1 rfl) ?_; refine go T_ok 200 rfl ?_) | (refine ld T_ok rfl rfl rfl rfl (Bk.get B2 rfl) ?_; refine go T_ok 200 rfl ?_) | (refine ld T_ok rfl rfl rfl rfl (Bk.get B3 rfl) ?_; refine go T_ok 200 rfl ?_) | (refine guardA (b := true) rfl rfl rfl rfl (fun _ => ?_) (fun e => by cases e); refine go T_ok 200 rfl ?_) | (refine guardA (b := false) rfl rfl rfl rfl (fun e => by cases e) (fun _ => ?_); refine go T_ok 200 rfl ?_) | (refine condT rfl rfl ?_; refine go T_ok 200 rfl ?_) | (refine condF rfl rfl ?_; refine go T_ok 200 rfl ?_))
  refine call rfl rfl rfl (ok _ (by decide) rfl) (lgr_any v a.l b.l a.A b.A a.c b.c _ _ _ hv ha.ml hb.ml Sa Sb) ?_
  rintro x w ⟨t, rfl, ht, qk⟩
  have B1 := B1.no qk
  have B2 := B2.no qk
  have Sa := Sa.no qk
  have Sb := Sb.no qk
  have Sd := Sd.no qk
  have B3 := B3.no qk
  have q := q.trans qk
  cases t with
  | false =>
    have hgg : ¬ GG v a.l b.l := fun h => Bool.noConfusion (ht.2 h)
    have hR : bnR v r a.l b.l d.l = ((0, 0), 2) := by unfold bnR; rw [if_neg (fun h => hgg ⟨h.1.2.2, h.2.1, h.2.2.1⟩)]
    rw [hR] at B3 ⊢
    refine go T_ok 200 rfl ?_
    repeat (first | (refine ldA T_ok rfl rfl rfl rfl rfl (Bk.all B1) ?_; refine go T_ok 200 rfl ?_) | (refine ldA T_ok rfl rfl rfl rfl rfl (Bk.all B2) ?_; refine go T_ok 200 rfl ?_) | (refine ldA T_ok rfl rfl rfl rfl rfl (Bk.all B3) ?_; refine go T_ok 200 rfl ?_) | (refine ld T_ok rfl rfl rfl rfl (Bk.get B1 rfl) ?_; refine go T_ok 200 rfl ?_) | (refine ld T_ok rfl rfl rfl rfl (Bk.get B2 rfl) ?_; refine go T_ok 200 rfl ?_) | (refine ld T_ok rfl rfl rfl rfl (Bk.get B3 rfl) ?_; refine go T_ok 200 rfl ?_) | (refine guardA (b := true) rfl rfl rfl rfl (fun _ => ?_) (fun e => by cases e); refine go T_ok 200 rfl ?_) | (refine guardA (b := false) rfl rfl rfl rfl (fun e => by cases e) (fun _ => ?_); refine go T_ok 200 rfl ?_) | (refine condT rfl rfl ?_; refine go T_ok 200 rfl ?_) | (refine condF rfl rfl ?_; refine go T_ok 200 rfl ?_))
    refine eqS (l' := [0, 0]) (m := [0, 0]) rfl rfl eqStr72 rfl rfl rfl ?_
    refine go T_ok 200 rfl ?_
    repeat (first | (refine ldA T_ok rfl rfl rfl rfl rfl (Bk.all B1) ?_; refine go T_ok 200 rfl ?_) | (refine ldA T_ok rfl rfl rfl rfl rfl (Bk.all B2) ?_; refine go T_ok 200 rfl ?_) | (refine ldA T_ok rfl rfl rfl rfl rfl (Bk.all B3) ?_; refine go T_ok 200 rfl ?_) | (refine ld T_ok rfl rfl rfl rfl (Bk.get B1 rfl) ?_; refine go T_ok 200 rfl ?_) | (refine ld T_ok rfl rfl rfl rfl (Bk.get B2 rfl) ?_; refine go T_ok 200 rfl ?_) | (refine ld T_ok rfl rfl rfl rfl (Bk.get B3 rfl) ?_; refine go T_ok 200 rfl ?_) | (refine guardA (b := true) rfl rfl rfl rfl (fun _ => ?_) (fun e => by cases e); refine go T_ok 200 rfl ?_) | (refine guardA (b := false) rfl rfl rfl rfl (fun e => by cases e) (fun _ => ?_); refine go T_ok 200 rfl ?_) | (refine condT rfl rfl ?_; refine go T_ok 200 rfl ?_) | (refine condF rfl rfl ?_; refine go T_ok 200 rfl ?_))
    refine call rfl rfl rfl (ok _ (by decide) rfl) (known_any _) ?_
    rintro v wk ⟨rfl, qk⟩
    refine go T_ok 200 rfl ?_
    exact ret (ret1 (v := .bool true) Try.results11 rfl ⟨rfl, q.trans qk⟩)
  | true =>
  have hgg := ht.1 rfl
  refine go T_ok 200 rfl ?_
  repeat (first | (refine ldA T_ok rfl rfl rfl rfl rfl (Bk.all B1) ?_; refine go T_ok 200 rfl ?_) | (refine ldA T_ok rfl rfl rfl rfl rfl (Bk.all B2) ?_; refine go T_ok 200 rfl ?_) | (refine ldA T_ok rfl rfl rfl rfl rfl (Bk.all B3) ?_; refine go T_ok 200 rfl ?_) | (refine ld T_ok rfl rfl rfl rfl (Bk.get B1 rfl) ?_; refine go T_ok 200 rfl ?_) | (refine ld T_ok rfl rfl rfl rfl (Bk.get B2 rfl) ?_; refine go T_ok 200 rfl ?_) | (refine ld T_ok rfl rfl rfl rfl (Bk.get B3 rfl) ?_; refine go T_ok 200 rfl ?_) | (refine guardA (b := true) rfl rfl rfl rfl (fun _ => ?_) (fun e => by cases e); refine go T_ok 200 rfl ?_) | (refine guardA (b := false) rfl rfl rfl rfl (fun e => by cases e) (fun _ => ?_); refine go T_ok 200 rfl ?_) | (refine condT rfl rfl ?_; refine go T_ok 200 rfl ?_) | (refine condF rfl rfl ?_; refine go T_ok 200 rfl ?_))
  refine call rfl rfl rfl (ok _ (by decide) rfl) (Spans_any v d.l d.A d.c _ _ hv hd.ml Sd) ?_
  rintro x w ⟨rfl, qk⟩
  have B1 := B1.no qk
  have B2 := B2.no qk
  have Sa := Sa.no qk
  have Sb := Sb.no qk
  have Sd := Sd.no qk
  have B3 := B3.no qk
  have q := q.trans qk
  by_cases hs : SpOk v d.l
  case neg =>
    rw [decide_eq_false hs]
    have hR : bnR v r a.l b.l d.l = ((0, 0), 2) := by unfold bnR; rw [if_neg (fun h => hs h.2.2.2)]
    rw [hR] at B3 ⊢
    refine go T_ok 200 rfl ?_
    repeat (first | (refine ldA T_ok rfl rfl rfl rfl rfl (Bk.all B1) ?_; refine go T_ok 200 rfl ?_) | (refine ldA T_ok rfl rfl rfl rfl rfl (Bk.all B2) ?_; refine go T_ok 200 rfl ?_) | (refine ldA T_ok rfl rfl rfl rfl rfl (Bk.all B3) ?_; refine go T_ok 200 rfl ?_) | (refine ld T_ok rfl rfl rfl rfl (Bk.get B1 rfl) ?_; refine go T_ok 200 rfl ?_) | (refine ld T_ok rfl rfl rfl rfl (Bk.get B2 rfl) ?_; refine go T_ok 200 rfl ?_) | (refine ld T_ok rfl rfl rfl rfl (Bk.get B3 rfl) ?_; refine go T_ok 200 rfl ?_) | (refine guardA (b := true) rfl rfl rfl rfl (fun _ => ?_) (fun e => by cases e); refine go T_ok 200 rfl ?_) | (refine guardA (b := false) rfl rfl rfl rfl (fun e => by cases e) (fun _ => ?_); refine go T_ok 200 rfl ?_) | (refine condT rfl rfl ?_; refine go T_ok 200 rfl ?_) | (refine condF rfl rfl ?_; refine go T_ok 200 rfl ?_))
    refine eqS (l' := [0, 0]) (m := [0, 0]) rfl rfl eqStr72 rfl rfl rfl ?_
    refine go T_ok 200 rfl ?_
    repeat (first | (refine ldA T_ok rfl rfl rfl rfl rfl (Bk.all B1) ?_; refine go T_ok 200 rfl ?_) | (refine ldA T_ok rfl rfl rfl rfl rfl (Bk.all B2) ?_; refine go T_ok 200 rfl ?_) | (refine ldA T_ok rfl rfl rfl rfl rfl (Bk.all B3) ?_; refine go T_ok 200 rfl ?_) | (refine ld T_ok rfl rfl rfl rfl (Bk.get B1 rfl) ?_; refine go T_ok 200 rfl ?_) | (refine ld T_ok rfl rfl rfl rfl (Bk.get B2 rfl) ?_; refine go T_ok 200 rfl ?_) | (refine ld T_ok rfl rfl rfl rfl (Bk.get B3 rfl) ?_; refine go T_ok 200 rfl ?_) | (refine guardA (b := true) rfl rfl rfl rfl (fun _ => ?_) (fun e => by cases e); refine go T_ok 200 rfl ?_) | (refine guardA (b := false) rfl rfl rfl rfl (fun e => by cases e) (fun _ => ?_); refine go T_ok 200 rfl ?_) | (refine condT rfl rfl ?_; refine go T_ok 200 rfl ?_) | (refine condF rfl rfl ?_; refine go T_ok 200 rfl ?_))
    refine call rfl rfl rfl (ok _ (by decide) rfl) (known_any _) ?_
    rintro v wk ⟨rfl, qk⟩
    refine go T_ok 200 rfl ?_
    exact ret (ret1 (v := .bool true) Try.results11 rfl ⟨rfl, q.trans qk⟩)
  rw [decide_eq_true hs]
  have hR : bnR v r a.l b.l d.l = ((opS v r a.l (dnl (d.l.map (·.1))), opS v r b.l (dnl (d.l.map (·.2)))), 0) := by unfold bnR; rw [if_pos ⟨⟨hv, hr, hgg.1⟩, hgg.2.1, hgg.2.2, hs⟩]
  rw [hR] at B3 ⊢
  have hB := fun w hS => rBounds_any v r a.l b.l d.l a.A b.A d.A a.c b.c d.c w0.heap.size w0.heap.size w0.heap.size w hv hr hgg.1 hgg.2.1 hs (ha.sl.no hS) (hb.sl.no hS) (hd.2.2.1.no hS) (Chg.size hS)
  generalize (opS v r a.l (dnl (d.l.map (·.1))), opS v r b.l (dnl (d.l.map (·.2)))) = P at *
  refine go T_ok 200 rfl ?_
  repeat (first | (refine guardA (b := true) rfl rfl rfl rfl (fun _ => ?_) (fun e => by cases e); refine go T_ok 200 rfl ?_) | (refine guardA (b := false) rfl rfl rfl rfl (fun e => by cases e) (fun _ => ?_); refine go T_ok 200 rfl ?_) | (refine condT rfl rfl ?_; refine go T_ok 200 rfl ?_) | (refine condF rfl rfl ?_; refine go T_ok 200 rfl ?_))
  refine draw mixed (fun w' => Chg No w w') ([0,1,2,3,4,5,6,7,8].map (fun i => (i, true)) ++ [(9, false)] ++ [10,11,12].map (fun i => (i, true)) ++ [(13, false)] ++ [14,15].map (fun i => (i, true))) rfl (by kernel_rfl) (Chg.drew _) ?_
  refine goH T_ok 200 rfl ?_
  refine guardH (b := true) rfl rfl rfl (fun _ => ?_) (fun h => by cases h)
  refine goH T_ok 200 rfl ?_
  refine quietH rfl (fun w' hS => r_loadA T_ok rfl rfl rfl rfl (B3.no hS).all) ?_
  refine goH T_ok 200 rfl ?_
  refine quietH rfl (fun w' hS => r_loadA T_ok rfl rfl rfl rfl (B1.no hS).all) ?_
  refine goH T_ok 200 rfl ?_
  refine quietH rfl (fun w' hS => r_loadA T_ok rfl rfl rfl rfl (B2.no hS).all) ?_
  refine goH T_ok 200 rfl ?_
  have qd := Chg.drew w
  refine callE rfl rfl rfl (ok _ (by decide) rfl) (hB _ (q.trans qd)) ?_
  rintro x w2 ⟨rfl, q2'⟩
  have qd := qd.trans q2'
  refine ⟨qd, ?_⟩
  refine goH T_ok 200 rfl ?_
  refine quietH rfl (fun w' hS => r_eqS (l := [P.1, P.2]) (m := [P.1, P.2]) rfl eqStr72 rfl rfl rfl) ?_
  rw [show ([P.1, P.2] == [P.1, P.2]) = true by simp]
  refine goH T_ok 200 rfl ?_
  refine guardH (b := true) rfl rfl rfl (fun _ => ?_) (fun h => by cases h)
  refine callE rfl rfl rfl (ok _ (by decide) rfl) (known_any _) ?_
  rintro x w3 ⟨rfl, q3'⟩
  have qd := qd.trans q3'
  refine ⟨qd, ?_⟩
  refine goH T_ok 200 rfl ?_
  refine endH ?_
  refine go T_ok 200 rfl ?_
  exact ret (ret1 (v := .bool true) Try.results11 rfl ⟨rfl, q.trans qd⟩)
end Go.Proofs.Ytkkjfjeniaiaiaa
