/- The contracts of Bounds, of both sides, and of what goes with it. -/
import Derived.Test.YtkkjfjeniaiaiaaE4
import Derived.Test.YtkkjfjeniaiaiaaE5
import Derived.Test.YtkkjfjeniaiaiaaR4
namespace Go.Proofs.Ytkkjfjeniaiaiaa
open Go.Ev Go.Proofs Go.Rock
attribute [local irreducible] At AtH

/-- two grounds, the first one nowhere greater -/
def LeL (a b : List Int) : Prop := ∀ (i : Nat) (x y : Int), a[i]? = some x → b[i]? = some y → x ≤ y
def SpOk (v : Vo) (d : List (Int × Int)) : Prop := (∀ s ∈ d, 0 ≤ s.1 ∧ s.1 ≤ s.2 ∧ s.2 ≤ 10000) ∧ (d.length : Int) = v.nx * v.ny * v.nz
instance (v : Vo) (d : List (Int × Int)) : Decidable (SpOk v d) := by unfold SpOk; infer_instance
open Classical in
noncomputable def bnR (v : Vo) (r : Ra) (a b : List Int) (d : List (Int × Int)) : (Int × Int) × Int :=
  if UnOk v r a ∧ GrOk v b ∧ LeL a b ∧ SpOk v d then ((opS v r a (dnl (d.map (·.1))), opS v r b (dnl (d.map (·.2)))), 0) else ((0, 0), 2)
theorem dn_get {d : List (Int × Int)} {c : Int} (h0 : 0 ≤ c) (h1 : c < d.length) : ∃ s, d[c.toNat]? = some s ∧ dnl (d.map (·.1)) c = s.1 ∧ dnl (d.map (·.2)) c = s.2 := by
  have hlt : c.toNat < d.length := by omega
  refine ⟨d[c.toNat], List.getElem?_eq_getElem hlt, ?_, ?_⟩
  · unfold dnl; rw [List.getD_eq_getElem?_getD, List.getElem?_map, List.getElem?_eq_getElem hlt]; rfl
  · unfold dnl; rw [List.getD_eq_getElem?_getD, List.getElem?_map, List.getElem?_eq_getElem hlt]; rfl
theorem dns_lo {v : Vo} {d : List (Int × Int)} {A : Option Addr} {c B gd : Nat} {w : World} (h1 : Bk w gd 70 [.slice A d.length c]) (hS : Sl w B 2 A d.length (d.flatMap cL)) (hl : (d.length : Int) = v.nx * v.ny * v.nz) :
    Dns v (dnl (d.map (·.1))) (.func (.func 80) #[] #[.pointer (some ⟨gd, 0, none⟩)]) w.heap.size w := by
  refine ⟨80, _, rfl, ok _ (by decide) rfl, ?_⟩
  intro k w' hk0 hk1 q
  have l1 := h1.lt
  have l2 := hS.2.1
  have h1 := h1.keep q (by omega)
  have hS := hS.keep q (fun k hk e => by omega)
  obtain ⟨s, hs, e1, e2⟩ := dn_get (d := d) hk0 (by omega)
  obtain ⟨b, o, hA, hb, hc⟩ := hS.el cL_len hs
  rw [hA] at h1
  rw [e1]
  refine enter Try.func80 rfl Try.ntmps80 rfl ?_
  refine go T_ok 200 rfl ?_
  repeat (first | (refine ld T_ok rfl rfl rfl rfl (Bk.get h1 rfl) ?_; refine go T_ok 200 rfl ?_) | (refine guardA (b := true) rfl rfl rfl rfl (fun _ => ?_) (fun e => by cases e); refine go T_ok 200 rfl ?_) | (refine guardA (b := false) rfl rfl rfl rfl (fun e => by cases e) (fun _ => ?_); refine go T_ok 200 rfl ?_) | (refine condT rfl rfl ?_; refine go T_ok 200 rfl ?_) | (refine condF rfl rfl ?_; refine go T_ok 200 rfl ?_))
  refine idx T_ok rfl rfl rfl rfl rfl k.toNat (by omega) (by omega) ?_
  refine go T_ok 200 rfl ?_
  refine ld T_ok rfl rfl rfl rfl (hc.get (i := 0) rfl) ?_
  refine go T_ok 200 rfl ?_
  exact ret (ret1 (v := .int .i64 _) Try.results80 rfl ⟨rfl, Chg.refl _ _⟩)
theorem dns_hi {v : Vo} {d : List (Int × Int)} {A : Option Addr} {c B gd : Nat} {w : World} (h1 : Bk w gd 70 [.slice A d.length c]) (hS : Sl w B 2 A d.length (d.flatMap cL)) (hl : (d.length : Int) = v.nx * v.ny * v.nz) :
    Dns v (dnl (d.map (·.2))) (.func (.func 81) #[] #[.pointer (some ⟨gd, 0, none⟩)]) w.heap.size w := by
  refine ⟨81, _, rfl, ok _ (by decide) rfl, ?_⟩
  intro k w' hk0 hk1 q
  have l1 := h1.lt
  have l2 := hS.2.1
  have h1 := h1.keep q (by omega)
  have hS := hS.keep q (fun k hk e => by omega)
  obtain ⟨s, hs, e1, e2⟩ := dn_get (d := d) hk0 (by omega)
  obtain ⟨b, o, hA, hb, hc⟩ := hS.el cL_len hs
  rw [hA] at h1
  rw [e2]
  refine enter Try.func81 rfl Try.ntmps81 rfl ?_
  refine go T_ok 200 rfl ?_
  repeat (first | (refine ld T_ok rfl rfl rfl rfl (Bk.get h1 rfl) ?_; refine go T_ok 200 rfl ?_) | (refine guardA (b := true) rfl rfl rfl rfl (fun _ => ?_) (fun e => by cases e); refine go T_ok 200 rfl ?_) | (refine guardA (b := false) rfl rfl rfl rfl (fun e => by cases e) (fun _ => ?_); refine go T_ok 200 rfl ?_) | (refine condT rfl rfl ?_; refine go T_ok 200 rfl ?_) | (refine condF rfl rfl ?_; refine go T_ok 200 rfl ?_))
  refine idx T_ok rfl rfl rfl rfl rfl k.toNat (by omega) (by omega) ?_
  refine go T_ok 200 rfl ?_
  refine ld T_ok rfl rfl rfl rfl (hc.get (i := 1) rfl) ?_
  refine go T_ok 200 rfl ?_
  exact ret (ret1 (v := .int .i64 _) Try.results81 rfl ⟨rfl, Chg.refl _ _⟩)
theorem LeL.take {a b : List Int} {j : Nat} {x y : Int} (h : LeL (a.take j) (b.take j)) (hx : a[j]? = some x) (hy : b[j]? = some y) (hxy : x ≤ y) : LeL (a.take (j + 1)) (b.take (j + 1)) := by
  intro i p q hp hq
  rw [List.getElem?_take] at hp hq
  split at hp
  · rename_i hi
    rw [if_pos hi] at hq
    by_cases e : i = j
    · subst e
      rw [hx] at hp; rw [hy] at hq
      cases hp; cases hq
      exact hxy
    · refine h i p q ?_ ?_
      · rw [List.getElem?_take, if_pos (by omega)]; exact hp
      · rw [List.getElem?_take, if_pos (by omega)]; exact hq
  · cases hp
set_option maxRecDepth 20000 in
set_option maxHeartbeats 8000000 in
theorem Bounds_any (v : Vo) (r : Ra) (a b : List Int) (d : List (Int × Int)) (A1 A2 A3 : Option Addr) (c1 c2 c3 n1 n2 n3 : Nat) (w0 : World) (hL1 : a.length ≤ maxLen) (hL2 : b.length ≤ maxLen) (hL3 : d.length ≤ maxLen)
    (h1 : Sl w0 n1 1 A1 a.length (iL a)) (h2 : Sl w0 n2 1 A2 b.length (iL b)) (h3 : Sl w0 n3 2 A3 d.length (d.flatMap cL)) :
    Ret Try.prog 45 [.agg (vL v).toArray, .slice A1 a.length c1, .slice A2 b.length c2, .slice A3 d.length c3, .agg (rL r).toArray] w0 fun x w' => x = .tuple #[.agg (cL (bnR v r a b d).1).toArray, .int .i64 (bnR v r a b d).2] ∧ Chg No w0 w' := by
  have hm3 := len63 hL3
  refine enter Try.func45 rfl Try.ntmps45 rfl ?_
  refine go T_ok 200 rfl ?_
  refine bx rfl rfl rfl (cs := vL v) rfl ?_
  intro g1 u1 hg1 hs1 q1 B1
  refine go T_ok 200 rfl ?_
  refine bx rfl rfl rfl (cs := [.slice A3 d.length c3]) rfl ?_
  intro g8 u8 hg8 hs8 q8 B8
  refine go T_ok 200 rfl ?_
  refine bx rfl rfl rfl (cs := rL r) rfl ?_
  intro g2 u2 hg2 hs2 q2 B2
  have B1 := (B1.no q8).no q2
  have B8 := B8.no q2
  have q := (q1.trans q8).trans q2
  refine go T_ok 200 rfl ?_
  refine nw rfl rfl (z := .agg #[I 0, I 0]) (by kernel_rfl) (cs := [I 0, I 0]) rfl ?_
  intro g10 w hg10 hs10 qk B10
  have B10 : Bk w g10 72 (cL (0, 0)) := B10
  have B1 := B1.no qk
  have B2 := B2.no qk
  have B8 := B8.no qk
  have q := q.trans qk
  have S1 := h1.no q
  have S2 := h2.no q
  have S3 := h3.no q
  have hge : w0.heap.size ≤ g10 := by have := q.size; omega
  refine go T_ok 200 rfl ?_
  repeat (first | (refine ldA T_ok rfl rfl rfl rfl rfl (Bk.all B1) ?_; refine go T_ok 200 rfl ?_) | (refine ldA T_ok rfl rfl rfl rfl rfl (Bk.all B2) ?_; refine go T_ok 200 rfl ?_) | (refine ldA T_ok rfl rfl rfl rfl rfl (Bk.all B8) ?_; refine go T_ok 200 rfl ?_) | (refine ldA T_ok rfl rfl rfl rfl rfl (Bk.all B10) ?_; refine go T_ok 200 rfl ?_) | (refine ld T_ok rfl rfl rfl rfl (Bk.get B1 rfl) ?_; refine go T_ok 200 rfl ?_) | (refine ld T_ok rfl rfl rfl rfl (Bk.get B2 rfl) ?_; refine go T_ok 200 rfl ?_) | (refine ld T_ok rfl rfl rfl rfl (Bk.get B8 rfl) ?_; refine go T_ok 200 rfl ?_) | (refine ld T_ok rfl rfl rfl rfl (Bk.get B10 rfl) ?_; refine go T_ok 200 rfl ?_) | (refine guardA (b := true) rfl rfl rfl rfl (fun _ => ?_) (fun e => by cases e); refine go T_ok 200 rfl ?_) | (refine guardA (b := false) rfl rfl rfl rfl (fun e => by cases e) (fun _ => ?_); refine go T_ok 200 rfl ?_) | (refine condT rfl rfl ?_; refine go T_ok 200 rfl ?_) | (refine condF rfl rfl ?_; refine go T_ok 200 rfl ?_))
  refine call rfl rfl rfl (ok _ (by decide) rfl) (volume_any v _) ?_
  rintro x w ⟨rfl, qk⟩
  have B1 := B1.no qk
  have B2 := B2.no qk
  have B8 := B8.no qk
  have B10 := B10.no qk
  have S1 := S1.no qk
  have S2 := S2.no qk
  have S3 := S3.no qk
  have q := q.trans qk
  by_cases hv : VoOk v
  case neg =>
    rw [decide_eq_false hv]
    have hR : bnR v r a b d = ((0, 0), 2) := by unfold bnR; rw [if_neg (fun h => hv h.1.1)]
    rw [hR]
    refine go T_ok 200 rfl ?_
    repeat (first | (refine guardA (b := true) rfl rfl rfl rfl (fun _ => ?_) (fun e => by cases e); refine go T_ok 200 rfl ?_) | (refine guardA (b := false) rfl rfl rfl rfl (fun e => by cases e) (fun _ => ?_); refine go T_ok 200 rfl ?_) | (refine condT rfl rfl ?_; refine go T_ok 200 rfl ?_) | (refine condF rfl rfl ?_; refine go T_ok 200 rfl ?_))
    have yq := q.size
    refine stA T_ok rfl rfl rfl rfl (vs := cL (0, 0)) rfl rfl rfl B10 rfl ?_
    intro w qk B10 hz10
    have B10 : Bk w g10 72 (cL (0, 0)) := B10
    have q := q.step qk (fun k hk e => by omega)
    refine go T_ok 200 rfl ?_
    exact ret (retR2 Try.results45 (resA T_ok rfl rfl rfl B10.all) (show ResV _ _ _ _ (.tmp _) (.int .i64 2) from rfl) ⟨rfl, q⟩)
  rw [decide_eq_true hv]
  refine go T_ok 200 rfl ?_
  repeat (first | (refine ldA T_ok rfl rfl rfl rfl rfl (Bk.all B1) ?_; refine go T_ok 200 rfl ?_) | (refine ldA T_ok rfl rfl rfl rfl rfl (Bk.all B2) ?_; refine go T_ok 200 rfl ?_) | (refine ldA T_ok rfl rfl rfl rfl rfl (Bk.all B8) ?_; refine go T_ok 200 rfl ?_) | (refine ldA T_ok rfl rfl rfl rfl rfl (Bk.all B10) ?_; refine go T_ok 200 rfl ?_) | (refine ld T_ok rfl rfl rfl rfl (Bk.get B1 rfl) ?_; refine go T_ok 200 rfl ?_) | (refine ld T_ok rfl rfl rfl rfl (Bk.get B2 rfl) ?_; refine go T_ok 200 rfl ?_) | (refine ld T_ok rfl rfl rfl rfl (Bk.get B8 rfl) ?_; refine go T_ok 200 rfl ?_) | (refine ld T_ok rfl rfl rfl rfl (Bk.get B10 rfl) ?_; refine go T_ok 200 rfl ?_) | (refine guardA (b := true) rfl rfl rfl rfl (fun _ => ?_) (fun e => by cases e); refine go T_ok 200 rfl ?_) | (refine guardA (b := false) rfl rfl rfl rfl (fun e => by cases e) (fun _ => ?_); refine go T_ok 200 rfl ?_) | (refine condT rfl rfl ?_; refine go T_ok 200 rfl ?_) | (refine condF rfl rfl ?_; refine go T_ok 200 rfl ?_))
  refine call rfl rfl rfl (ok _ (by decide) rfl) (ray_any r _) ?_
  rintro x w ⟨rfl, qk⟩
  have B1 := B1.no qk
  have B2 := B2.no qk
  have B8 := B8.no qk
  have B10 := B10.no qk
  have S1 := S1.no qk
  have S2 := S2.no qk
  have S3 := S3.no qk
  have q := q.trans qk
  by_cases hr : RaOk r
  case neg =>
    rw [decide_eq_false hr]
    have hR : bnR v r a b d = ((0, 0), 2) := by unfold bnR; rw [if_neg (fun h => hr h.1.2.1)]
    rw [hR]
    refine go T_ok 200 rfl ?_
    repeat (first | (refine guardA (b := true) rfl rfl rfl rfl (fun _ => ?_) (fun e => by cases e); refine go T_ok 200 rfl ?_) | (refine guardA (b := false) rfl rfl rfl rfl (fun e => by cases e) (fun _ => ?_); refine go T_ok 200 rfl ?_) | (refine condT rfl rfl ?_; refine go T_ok 200 rfl ?_) | (refine condF rfl rfl ?_; refine go T_ok 200 rfl ?_))
    have yq := q.size
    refine stA T_ok rfl rfl rfl rfl (vs := cL (0, 0)) rfl rfl rfl B10 rfl ?_
    intro w qk B10 hz10
    have B10 : Bk w g10 72 (cL (0, 0)) := B10
    have q := q.step qk (fun k hk e => by omega)
    refine go T_ok 200 rfl ?_
    exact ret (retR2 Try.results45 (resA T_ok rfl rfl rfl B10.all) (show ResV _ _ _ _ (.tmp _) (.int .i64 2) from rfl) ⟨rfl, q⟩)
  rw [decide_eq_true hr]
  refine go T_ok 200 rfl ?_
  repeat (first | (refine ldA T_ok rfl rfl rfl rfl rfl (Bk.all B1) ?_; refine go T_ok 200 rfl ?_) | (refine ldA T_ok rfl rfl rfl rfl rfl (Bk.all B2) ?_; refine go T_ok 200 rfl ?_) | (refine ldA T_ok rfl rfl rfl rfl rfl (Bk.all B8) ?_; refine go T_ok 200 rfl ?_) | (refine ldA T_ok rfl rfl rfl rfl rfl (Bk.all B10) ?_; refine go T_ok 200 rfl ?_) | (refine ld T_ok rfl rfl rfl rfl (Bk.get B1 rfl) ?_; refine go T_ok 200 rfl ?_) | (refine ld T_ok rfl rfl rfl rfl (Bk.get B2 rfl) ?_; refine go T_ok 200 rfl ?_) | (refine ld T_ok rfl rfl rfl rfl (Bk.get B8 rfl) ?_; refine go T_ok 200 rfl ?_) | (refine ld T_ok rfl rfl rfl rfl (Bk.get B10 rfl) ?_; refine go T_ok 200 rfl ?_) | (refine guardA (b := true) rfl rfl rfl rfl (fun _ => ?_) (fun e => by cases e); refine go T_ok 200 rfl ?_) | (refine guardA (b := false) rfl rfl rfl rfl (fun e => by cases e) (fun _ => ?_); refine go T_ok 200 rfl ?_) | (refine condT rfl rfl ?_; refine go T_ok 200 rfl ?_) | (refine condF rfl rfl ?_; refine go T_ok 200 rfl ?_))
  refine call rfl rfl rfl (ok _ (by decide) rfl) (grounded_any v a A1 c1 _ _ hv hL1 S1) ?_
  rintro x w ⟨rfl, qk⟩
  have B1 := B1.no qk
  have B2 := B2.no qk
  have B8 := B8.no qk
  have B10 := B10.no qk
  have S1 := S1.no qk
  have S2 := S2.no qk
  have S3 := S3.no qk
  have q := q.trans qk
  by_cases hga : GrOk v a
  case neg =>
    rw [decide_eq_false hga]
    have hR : bnR v r a b d = ((0, 0), 2) := by unfold bnR; rw [if_neg (fun h => hga h.1.2.2)]
    rw [hR]
    refine go T_ok 200 rfl ?_
    repeat (first | (refine guardA (b := true) rfl rfl rfl rfl (fun _ => ?_) (fun e => by cases e); refine go T_ok 200 rfl ?_) | (refine guardA (b := false) rfl rfl rfl rfl (fun e => by cases e) (fun _ => ?_); refine go T_ok 200 rfl ?_) | (refine condT rfl rfl ?_; refine go T_ok 200 rfl ?_) | (refine condF rfl rfl ?_; refine go T_ok 200 rfl ?_))
    have yq := q.size
    refine stA T_ok rfl rfl rfl rfl (vs := cL (0, 0)) rfl rfl rfl B10 rfl ?_
    intro w qk B10 hz10
    have B10 : Bk w g10 72 (cL (0, 0)) := B10
    have q := q.step qk (fun k hk e => by omega)
    refine go T_ok 200 rfl ?_
    exact ret (retR2 Try.results45 (resA T_ok rfl rfl rfl B10.all) (show ResV _ _ _ _ (.tmp _) (.int .i64 2) from rfl) ⟨rfl, q⟩)
  rw [decide_eq_true hga]
  refine go T_ok 200 rfl ?_
  repeat (first | (refine ldA T_ok rfl rfl rfl rfl rfl (Bk.all B1) ?_; refine go T_ok 200 rfl ?_) | (refine ldA T_ok rfl rfl rfl rfl rfl (Bk.all B2) ?_; refine go T_ok 200 rfl ?_) | (refine ldA T_ok rfl rfl rfl rfl rfl (Bk.all B8) ?_; refine go T_ok 200 rfl ?_) | (refine ldA T_ok rfl rfl rfl rfl rfl (Bk.all B10) ?_; refine go T_ok 200 rfl ?_) | (refine ld T_ok rfl rfl rfl rfl (Bk.get B1 rfl) ?_; refine go T_ok 200 rfl ?_) | (refine ld T_ok rfl rfl rfl rfl (Bk.get B2 rfl) ?_; refine go T_ok 200 rfl ?_) | (refine ld T_ok rfl rfl rfl rfl (Bk.get B8 rfl) ?_; refine go T_ok 200 rfl ?_) | (refine ld T_ok rfl rfl rfl rfl (Bk.get B10 rfl) ?_; refine go T_ok 200 rfl ?_) | (refine guardA (b := true) rfl rfl rfl rfl (fun _ => ?_) (fun e => by cases e); refine go T_ok 200 rfl ?_) | (refine guardA (b := false) rfl rfl rfl rfl (fun e => by cases e) (fun _ => ?_); refine go T_ok 200 rfl ?_) | (refine condT rfl rfl ?_; refine go T_ok 200 rfl ?_) | (refine condF rfl rfl ?_; refine go T_ok 200 rfl ?_))
  refine call rfl rfl rfl (ok _ (by decide) rfl) (grounded_any v b A2 c2 _ _ hv hL2 S2) ?_
  rintro x w ⟨rfl, qk⟩
  have B1 := B1.no qk
  have B2 := B2.no qk
  have B8 := B8.no qk
  have B10 := B10.no qk
  have S1 := S1.no qk
  have S2 := S2.no qk
  have S3 := S3.no qk
  have q := q.trans qk
  by_cases hgb : GrOk v b
  case neg =>
    rw [decide_eq_false hgb]
    have hR : bnR v r a b d = ((0, 0), 2) := by unfold bnR; rw [if_neg (fun h => hgb h.2.1)]
    rw [hR]
    refine go T_ok 200 rfl ?_
    repeat (first | (refine guardA (b := true) rfl rfl rfl rfl (fun _ => ?_) (fun e => by cases e); refine go T_ok 200 rfl ?_) | (refine guardA (b := false) rfl rfl rfl rfl (fun e => by cases e) (fun _ => ?_); refine go T_ok 200 rfl ?_) | (refine condT rfl rfl ?_; refine go T_ok 200 rfl ?_) | (refine condF rfl rfl ?_; refine go T_ok 200 rfl ?_))
    have yq := q.size
    refine stA T_ok rfl rfl rfl rfl (vs := cL (0, 0)) rfl rfl rfl B10 rfl ?_
    intro w qk B10 hz10
    have B10 : Bk w g10 72 (cL (0, 0)) := B10
    have q := q.step qk (fun k hk e => by omega)
    refine go T_ok 200 rfl ?_
    exact ret (retR2 Try.results45 (resA T_ok rfl rfl rfl B10.all) (show ResV _ _ _ _ (.tmp _) (.int .i64 2) from rfl) ⟨rfl, q⟩)
  rw [decide_eq_true hgb]
  have m1 := vo_xy hv
  have m2 := vo_xyz hv
  have e1 : w64 (v.nx * v.ny) = v.nx * v.ny := w64_id (by omega) (by omega)
  have e2 : w64 (v.nx * v.ny * v.nz) = v.nx * v.ny * v.nz := w64_id (by omega) (by omega)
  refine go T_ok 200 rfl ?_
  repeat (first | (refine ldA T_ok rfl rfl rfl rfl rfl (Bk.all B1) ?_; refine go T_ok 200 rfl ?_) | (refine ldA T_ok rfl rfl rfl rfl rfl (Bk.all B2) ?_; refine go T_ok 200 rfl ?_) | (refine ldA T_ok rfl rfl rfl rfl rfl (Bk.all B8) ?_; refine go T_ok 200 rfl ?_) | (refine ldA T_ok rfl rfl rfl rfl rfl (Bk.all B10) ?_; refine go T_ok 200 rfl ?_) | (refine ld T_ok rfl rfl rfl rfl (Bk.get B1 rfl) ?_; refine go T_ok 200 rfl ?_) | (refine ld T_ok rfl rfl rfl rfl (Bk.get B2 rfl) ?_; refine go T_ok 200 rfl ?_) | (refine ld T_ok rfl rfl rfl rfl (Bk.get B8 rfl) ?_; refine go T_ok 200 rfl ?_) | (refine ld T_ok rfl rfl rfl rfl (Bk.get B10 rfl) ?_; refine go T_ok 200 rfl ?_) | (refine guardA (b := true) rfl rfl rfl rfl (fun _ => ?_) (fun e => by cases e); refine go T_ok 200 rfl ?_) | (refine guardA (b := false) rfl rfl rfl rfl (fun e => by cases e) (fun _ => ?_); refine go T_ok 200 rfl ?_) | (refine condT rfl rfl ?_; refine go T_ok 200 rfl ?_) | (refine condF rfl rfl ?_; refine go T_ok 200 rfl ?_))
  rw [e1, e2]
  refine cond rfl (fun hl => ?_) (fun hl => ?_)
  · have hl : (d.length : Int) ≠ v.nx * v.ny * v.nz := by simpa using hl
    have hR : bnR v r a b d = ((0, 0), 2) := by unfold bnR; rw [if_neg (fun h => hl h.2.2.2.2)]
    rw [hR]
    refine go T_ok 200 rfl ?_
    repeat (first | (refine guardA (b := true) rfl rfl rfl rfl (fun _ => ?_) (fun e => by cases e); refine go T_ok 200 rfl ?_) | (refine guardA (b := false) rfl rfl rfl rfl (fun e => by cases e) (fun _ => ?_); refine go T_ok 200 rfl ?_) | (refine condT rfl rfl ?_; refine go T_ok 200 rfl ?_) | (refine condF rfl rfl ?_; refine go T_ok 200 rfl ?_))
    have yq := q.size
    refine stA T_ok rfl rfl rfl rfl (vs := cL (0, 0)) rfl rfl rfl B10 rfl ?_
    intro w qk B10 hz10
    have B10 : Bk w g10 72 (cL (0, 0)) := B10
    have q := q.step qk (fun k hk e => by omega)
    refine go T_ok 200 rfl ?_
    exact ret (retR2 Try.results45 (resA T_ok rfl rfl rfl B10.all) (show ResV _ _ _ _ (.tmp _) (.int .i64 2) from rfl) ⟨rfl, q⟩)
  have hl : (d.length : Int) = v.nx * v.ny * v.nz := by simpa using hl
  have hla := hga.2
  have hlb := hgb.2
  have hab : b.length = a.length := by omega
  refine go T_ok 200 rfl ?_
  refine loop [1, 2, 5, 8, 9, 10, 51, 52] (fun j : Nat => [.slice A1 a.length c1, .slice A2 b.length c2, .pointer (some ⟨g1, 0, none⟩), .pointer (some ⟨g8, 0, none⟩), .pointer (some ⟨g2, 0, none⟩), .pointer (some ⟨g10, 0, none⟩), .int .i64 (a.length : Int), .int .i64 (j : Int)])
    (fun j w' => j ≤ a.length ∧ Chg No w w' ∧ LeL (a.take j) (b.take j)) (fun j => a.length - j) 0 (fun _ => rfl) rfl ⟨by omega, Chg.refl _ _, fun i x y h => by simp at h⟩ ?_
  rintro j τ w ⟨hj, qk, hI⟩
  have p := qk
  have B1 := B1.no qk
  have B2 := B2.no qk
  have B8 := B8.no qk
  have B10 := B10.no qk
  have S1 := S1.no qk
  have S2 := S2.no qk
  have S3 := S3.no qk
  have q := q.trans qk
  refine go T_ok 200 rfl ?_
  refine condD rfl (fun hlt => ?_) (fun hlt => ?_)
  · have hlt : j < a.length := by omega
    obtain ⟨x, hx⟩ : ∃ x, a[j]? = some x := ⟨_, List.getElem?_eq_getElem hlt⟩
    obtain ⟨y, hy⟩ : ∃ x, b[j]? = some x := ⟨_, List.getElem?_eq_getElem (by omega)⟩
    obtain ⟨bx_, ox, hAx, hbx, hcx⟩ := S1.elI hx
    obtain ⟨by_, oy, hAy, hby, hcy⟩ := S2.elI hy
    have lx : bx_ < w.heap.size := Nat.lt_of_lt_of_le hbx S1.2.1
    have ly : by_ < w.heap.size := Nat.lt_of_lt_of_le hby S2.2.1
    have e8 : w64 ((j : Int) + 1) = ((j + 1 : Nat) : Int) := w64_id (by omega) (by omega)
    rw [hAx, hAy]
    refine go T_ok 200 rfl ?_
    refine draw mixed (fun w' => Chg No w w') ([0,1,2,3,4,5,6,7,8].map (fun i => (i, true))) rfl (by kernel_rfl) (Chg.drew _) ?_
    refine goH T_ok 200 rfl ?_
    refine quietH rfl (fun w' hS => r_idx T_ok rfl rfl rfl rfl j rfl hlt) ?_
    refine goH T_ok 200 rfl ?_
    refine quietH rfl (fun w' hS => r_load T_ok rfl rfl rfl ((hS.cell (a := ⟨bx_, ox + j * 1, none⟩) lx (fun h => h)).trans hcx)) ?_
    refine goH T_ok 200 rfl ?_
    refine quietH rfl (fun w' hS => r_idx T_ok rfl rfl rfl rfl j rfl (by omega)) ?_
    refine goH T_ok 200 rfl ?_
    refine quietH rfl (fun w' hS => r_load T_ok rfl rfl rfl ((hS.cell (a := ⟨by_, oy + j * 1, none⟩) ly (fun h => h)).trans hcy)) ?_
    refine goH T_ok 200 rfl ?_
    refine endH ?_
    have qk := Chg.drew w
    have B1 := B1.no qk
    have B2 := B2.no qk
    have B8 := B8.no qk
    have B10 := B10.no qk
    have S1 := S1.no qk
    have S2 := S2.no qk
    have S3 := S3.no qk
    have p := p.no qk
    have q := q.trans qk
    refine go T_ok 200 rfl ?_
    refine condD rfl (fun h5 => ?_) (fun h5 => ?_)
    · skip
      have hR : bnR v r a b d = ((0, 0), 2) := by unfold bnR; rw [if_neg (fun h => (by have := h.2.2.1 j x y hx hy; omega))]
      rw [hR]
      refine go T_ok 200 rfl ?_
      repeat (first | (refine guardA (b := true) rfl rfl rfl rfl (fun _ => ?_) (fun e => by cases e); refine go T_ok 200 rfl ?_) | (refine guardA (b := false) rfl rfl rfl rfl (fun e => by cases e) (fun _ => ?_); refine go T_ok 200 rfl ?_) | (refine condT rfl rfl ?_; refine go T_ok 200 rfl ?_) | (refine condF rfl rfl ?_; refine go T_ok 200 rfl ?_))
      have yq := q.size
      refine stA T_ok rfl rfl rfl rfl (vs := cL (0, 0)) rfl rfl rfl B10 rfl ?_
      intro w qk B10 hz10
      have B10 : Bk w g10 72 (cL (0, 0)) := B10
      have q := q.step qk (fun k hk e => by omega)
      refine go T_ok 200 rfl ?_
      exact ret (retR2 Try.results45 (resA T_ok rfl rfl rfl B10.all) (show ResV _ _ _ _ (.tmp _) (.int .i64 2) from rfl) ⟨rfl, q⟩)
    · refine go T_ok 200 rfl ?_
      rw [e8]
      exact round ⟨j + 1, rfl, ⟨by omega, p, hI.take hx hy (by omega)⟩, by omega⟩
  have hjl : j = a.length := by omega
  rw [hjl, List.take_length, List.take_of_length_le (by omega)] at hI
  clear p
  refine go T_ok 200 rfl ?_
  repeat (first | (refine ldA T_ok rfl rfl rfl rfl rfl (Bk.all B1) ?_; refine go T_ok 200 rfl ?_) | (refine ldA T_ok rfl rfl rfl rfl rfl (Bk.all B2) ?_; refine go T_ok 200 rfl ?_) | (refine ldA T_ok rfl rfl rfl rfl rfl (Bk.all B8) ?_; refine go T_ok 200 rfl ?_) | (refine ldA T_ok rfl rfl rfl rfl rfl (Bk.all B10) ?_; refine go T_ok 200 rfl ?_) | (refine ld T_ok rfl rfl rfl rfl (Bk.get B1 rfl) ?_; refine go T_ok 200 rfl ?_) | (refine ld T_ok rfl rfl rfl rfl (Bk.get B2 rfl) ?_; refine go T_ok 200 rfl ?_) | (refine ld T_ok rfl rfl rfl rfl (Bk.get B8 rfl) ?_; refine go T_ok 200 rfl ?_) | (refine ld T_ok rfl rfl rfl rfl (Bk.get B10 rfl) ?_; refine go T_ok 200 rfl ?_) | (refine guardA (b := true) rfl rfl rfl rfl (fun _ => ?_) (fun e => by cases e); refine go T_ok 200 rfl ?_) | (refine guardA (b := false) rfl rfl rfl rfl (fun e => by cases e) (fun _ => ?_); refine go T_ok 200 rfl ?_) | (refine condT rfl rfl ?_; refine go T_ok 200 rfl ?_) | (refine condF rfl rfl ?_; refine go T_ok 200 rfl ?_))
  refine loop [1, 2, 5, 8, 9, 10, 66, 67, 68] (fun j : Nat => [.slice A1 a.length c1, .slice A2 b.length c2, .pointer (some ⟨g1, 0, none⟩), .pointer (some ⟨g8, 0, none⟩), .pointer (some ⟨g2, 0, none⟩), .pointer (some ⟨g10, 0, none⟩), .slice A3 d.length c3, .int .i64 (d.length : Int), .int .i64 (j : Int)])
    (fun j w' => j ≤ d.length ∧ Chg No w w' ∧ ∀ s ∈ d.take j, 0 ≤ s.1 ∧ s.1 ≤ s.2 ∧ s.2 ≤ 10000) (fun j => d.length - j) 0 (fun _ => rfl) rfl ⟨by omega, Chg.refl _ _, fun a h => by simp at h⟩ ?_
  rintro j τ w ⟨hj, qk, hD⟩
  have p := qk
  have B1 := B1.no qk
  have B2 := B2.no qk
  have B8 := B8.no qk
  have B10 := B10.no qk
  have S1 := S1.no qk
  have S2 := S2.no qk
  have S3 := S3.no qk
  have q := q.trans qk
  refine go T_ok 200 rfl ?_
  refine condD rfl (fun hlt => ?_) (fun hlt => ?_)
  · have hlt : j < d.length := by omega
    obtain ⟨s, hs⟩ : ∃ x, d[j]? = some x := ⟨_, List.getElem?_eq_getElem hlt⟩
    have hsm := List.mem_of_getElem? hs
    obtain ⟨bx_, ox, hAx, hbx, hcx⟩ := S3.el cL_len hs
    have e8 : w64 ((j : Int) + 1) = ((j + 1 : Nat) : Int) := w64_id (by omega) (by omega)
    rw [hAx]
    refine go T_ok 200 rfl ?_
    refine idx T_ok rfl rfl rfl rfl rfl j rfl hlt ?_
    refine go T_ok 200 rfl ?_
    refine ldA T_ok rfl rfl rfl rfl rfl hcx ?_
    refine go T_ok 200 rfl ?_
    have yB1 := B1.lt
    have yB2 := B2.lt
    have yB8 := B8.lt
    have yB10 := B10.lt
    have yS1 := S1.2.1
    have yS2 := S2.2.1
    have yS3 := S3.2.1
    have yp := Chg.size p
    have yq := q.size
    refine nw rfl rfl (z := .agg #[I 0, I 0]) (by kernel_rfl) (cs := [I 0, I 0]) rfl ?_
    intro g14 w hg14 hs14 qk B14
    have B1 := B1.no qk
    have B2 := B2.no qk
    have B8 := B8.no qk
    have B10 := B10.no qk
    have S1 := S1.no qk
    have S2 := S2.no qk
    have S3 := S3.no qk
    have p := p.no qk
    have q := q.trans qk
    refine go T_ok 200 rfl ?_
    refine stA T_ok rfl rfl rfl rfl (vs := cL s) rfl rfl rfl B14 rfl ?_
    intro w qk B14 hz14
    have B14 : Bk w g14 72 (cL s) := B14
    have B1 := Bk.keep B1 qk (by omega)
    have B2 := Bk.keep B2 qk (by omega)
    have B8 := Bk.keep B8 qk (by omega)
    have B10 := Bk.keep B10 qk (by omega)
    have S1 := Sl.keep S1 qk (fun k hk e => by omega)
    have S2 := Sl.keep S2 qk (fun k hk e => by omega)
    have S3 := Sl.keep S3 qk (fun k hk e => by omega)
    have p := Chg.step p qk (fun k hk e => by omega)
    have q := q.step qk (fun k hk e => by omega)
    refine go T_ok 200 rfl ?_
    repeat (first | (refine ldA T_ok rfl rfl rfl rfl rfl (Bk.all B1) ?_; refine go T_ok 200 rfl ?_) | (refine ldA T_ok rfl rfl rfl rfl rfl (Bk.all B2) ?_; refine go T_ok 200 rfl ?_) | (refine ldA T_ok rfl rfl rfl rfl rfl (Bk.all B8) ?_; refine go T_ok 200 rfl ?_) | (refine ldA T_ok rfl rfl rfl rfl rfl (Bk.all B10) ?_; refine go T_ok 200 rfl ?_) | (refine ldA T_ok rfl rfl rfl rfl rfl (Bk.all B14) ?_; refine go T_ok 200 rfl ?_) | (refine ld T_ok rfl rfl rfl rfl (Bk.get B1 rfl) ?_; refine go T_ok 200 rfl ?_) | (refine ld T_ok rfl rfl rfl rfl (Bk.get B2 rfl) ?_; refine go T_ok 200 rfl ?_) | (refine ld T_ok rfl rfl rfl rfl (Bk.get B8 rfl) ?_; refine go T_ok 200 rfl ?_) | (refine ld T_ok rfl rfl rfl rfl (Bk.get B10 rfl) ?_; refine go T_ok 200 rfl ?_) | (refine ld T_ok rfl rfl rfl rfl (Bk.get B14 rfl) ?_; refine go T_ok 200 rfl ?_) | (refine guardA (b := true) rfl rfl rfl rfl (fun _ => ?_) (fun e => by cases e); refine go T_ok 200 rfl ?_) | (refine guardA (b := false) rfl rfl rfl rfl (fun e => by cases e) (fun _ => ?_); refine go T_ok 200 rfl ?_) | (refine condT rfl rfl ?_; refine go T_ok 200 rfl ?_) | (refine condF rfl rfl ?_; refine go T_ok 200 rfl ?_))
    refine guardD rfl rfl rfl (fun h5 => ?_) (fun h5 => ?_)
    · skip
      have hR : bnR v r a b d = ((0, 0), 2) := by unfold bnR; rw [if_neg (fun h => (by have := h.2.2.2.1 s hsm; omega))]
      rw [hR]
      refine go T_ok 200 rfl ?_
      repeat (first | (refine guardA (b := true) rfl rfl rfl rfl (fun _ => ?_) (fun e => by cases e); refine go T_ok 200 rfl ?_) | (refine guardA (b := false) rfl rfl rfl rfl (fun e => by cases e) (fun _ => ?_); refine go T_ok 200 rfl ?_) | (refine condT rfl rfl ?_; refine go T_ok 200 rfl ?_) | (refine condF rfl rfl ?_; refine go T_ok 200 rfl ?_))
      have yq := q.size
      refine stA T_ok rfl rfl rfl rfl (vs := cL (0, 0)) rfl rfl rfl B10 rfl ?_
      intro w qk B10 hz10
      have B10 : Bk w g10 72 (cL (0, 0)) := B10
      have q := q.step qk (fun k hk e => by omega)
      refine go T_ok 200 rfl ?_
      exact ret (retR2 Try.results45 (resA T_ok rfl rfl rfl B10.all) (show ResV _ _ _ _ (.tmp _) (.int .i64 2) from rfl) ⟨rfl, q⟩)
    refine go T_ok 200 rfl ?_
    repeat (first | (refine ldA T_ok rfl rfl rfl rfl rfl (Bk.all B1) ?_; refine go T_ok 200 rfl ?_) | (refine ldA T_ok rfl rfl rfl rfl rfl (Bk.all B2) ?_; refine go T_ok 200 rfl ?_) | (refine ldA T_ok rfl rfl rfl rfl rfl (Bk.all B8) ?_; refine go T_ok 200 rfl ?_) | (refine ldA T_ok rfl rfl rfl rfl rfl (Bk.all B10) ?_; refine go T_ok 200 rfl ?_) | (refine ldA T_ok rfl rfl rfl rfl rfl (Bk.all B14) ?_; refine go T_ok 200 rfl ?_) | (refine ld T_ok rfl rfl rfl rfl (Bk.get B1 rfl) ?_; refine go T_ok 200 rfl ?_) | (refine ld T_ok rfl rfl rfl rfl (Bk.get B2 rfl) ?_; refine go T_ok 200 rfl ?_) | (refine ld T_ok rfl rfl rfl rfl (Bk.get B8 rfl) ?_; refine go T_ok 200 rfl ?_) | (refine ld T_ok rfl rfl rfl rfl (Bk.get B10 rfl) ?_; refine go T_ok 200 rfl ?_) | (refine ld T_ok rfl rfl rfl rfl (Bk.get B14 rfl) ?_; refine go T_ok 200 rfl ?_) | (refine guardA (b := true) rfl rfl rfl rfl (fun _ => ?_) (fun e => by cases e); refine go T_ok 200 rfl ?_) | (refine guardA (b := false) rfl rfl rfl rfl (fun e => by cases e) (fun _ => ?_); refine go T_ok 200 rfl ?_) | (refine condT rfl rfl ?_; refine go T_ok 200 rfl ?_) | (refine condF rfl rfl ?_; refine go T_ok 200 rfl ?_))
    refine guardD rfl rfl rfl (fun h6 => ?_) (fun h6 => ?_)
    · skip
      have hR : bnR v r a b d = ((0, 0), 2) := by unfold bnR; rw [if_neg (fun h => (by have := h.2.2.2.1 s hsm; omega))]
      rw [hR]
      refine go T_ok 200 rfl ?_
      repeat (first | (refine guardA (b := true) rfl rfl rfl rfl (fun _ => ?_) (fun e => by cases e); refine go T_ok 200 rfl ?_) | (refine guardA (b := false) rfl rfl rfl rfl (fun e => by cases e) (fun _ => ?_); refine go T_ok 200 rfl ?_) | (refine condT rfl rfl ?_; refine go T_ok 200 rfl ?_) | (refine condF rfl rfl ?_; refine go T_ok 200 rfl ?_))
      have yq := q.size
      refine stA T_ok rfl rfl rfl rfl (vs := cL (0, 0)) rfl rfl rfl B10 rfl ?_
      intro w qk B10 hz10
      have B10 : Bk w g10 72 (cL (0, 0)) := B10
      have q := q.step qk (fun k hk e => by omega)
      refine go T_ok 200 rfl ?_
      exact ret (retR2 Try.results45 (resA T_ok rfl rfl rfl B10.all) (show ResV _ _ _ _ (.tmp _) (.int .i64 2) from rfl) ⟨rfl, q⟩)
    refine go T_ok 200 rfl ?_
    repeat (first | (refine ldA T_ok rfl rfl rfl rfl rfl (Bk.all B1) ?_; refine go T_ok 200 rfl ?_) | (refine ldA T_ok rfl rfl rfl rfl rfl (Bk.all B2) ?_; refine go T_ok 200 rfl ?_) | (refine ldA T_ok rfl rfl rfl rfl rfl (Bk.all B8) ?_; refine go T_ok 200 rfl ?_) | (refine ldA T_ok rfl rfl rfl rfl rfl (Bk.all B10) ?_; refine go T_ok 200 rfl ?_) | (refine ldA T_ok rfl rfl rfl rfl rfl (Bk.all B14) ?_; refine go T_ok 200 rfl ?_) | (refine ld T_ok rfl rfl rfl rfl (Bk.get B1 rfl) ?_; refine go T_ok 200 rfl ?_) | (refine ld T_ok rfl rfl rfl rfl (Bk.get B2 rfl) ?_; refine go T_ok 200 rfl ?_) | (refine ld T_ok rfl rfl rfl rfl (Bk.get B8 rfl) ?_; refine go T_ok 200 rfl ?_) | (refine ld T_ok rfl rfl rfl rfl (Bk.get B10 rfl) ?_; refine go T_ok 200 rfl ?_) | (refine ld T_ok rfl rfl rfl rfl (Bk.get B14 rfl) ?_; refine go T_ok 200 rfl ?_) | (refine guardA (b := true) rfl rfl rfl rfl (fun _ => ?_) (fun e => by cases e); refine go T_ok 200 rfl ?_) | (refine guardA (b := false) rfl rfl rfl rfl (fun e => by cases e) (fun _ => ?_); refine go T_ok 200 rfl ?_) | (refine condT rfl rfl ?_; refine go T_ok 200 rfl ?_) | (refine condF rfl rfl ?_; refine go T_ok 200 rfl ?_))
    refine condD rfl (fun h7 => ?_) (fun h7 => ?_)
    · skip
      have hR : bnR v r a b d = ((0, 0), 2) := by unfold bnR; rw [if_neg (fun h => (by have := h.2.2.2.1 s hsm; omega))]
      rw [hR]
      refine go T_ok 200 rfl ?_
      repeat (first | (refine guardA (b := true) rfl rfl rfl rfl (fun _ => ?_) (fun e => by cases e); refine go T_ok 200 rfl ?_) | (refine guardA (b := false) rfl rfl rfl rfl (fun e => by cases e) (fun _ => ?_); refine go T_ok 200 rfl ?_) | (refine condT rfl rfl ?_; refine go T_ok 200 rfl ?_) | (refine condF rfl rfl ?_; refine go T_ok 200 rfl ?_))
      have yq := q.size
      refine stA T_ok rfl rfl rfl rfl (vs := cL (0, 0)) rfl rfl rfl B10 rfl ?_
      intro w qk B10 hz10
      have B10 : Bk w g10 72 (cL (0, 0)) := B10
      have q := q.step qk (fun k hk e => by omega)
      refine go T_ok 200 rfl ?_
      exact ret (retR2 Try.results45 (resA T_ok rfl rfl rfl B10.all) (show ResV _ _ _ _ (.tmp _) (.int .i64 2) from rfl) ⟨rfl, q⟩)
    refine go T_ok 200 rfl ?_
    rw [e8]
    refine round ⟨j + 1, rfl, ⟨by omega, p, fun z hz => ?_⟩, by omega⟩
    rw [take_snoc hs, List.mem_append, List.mem_singleton] at hz
    rcases hz with hz | rfl
    · exact hD z hz
    · omega
  have hjl : j = d.length := by omega
  rw [hjl, List.take_length] at hD
  clear p
  refine go T_ok 200 rfl ?_
  repeat (first | (refine ldA T_ok rfl rfl rfl rfl rfl (Bk.all B1) ?_; refine go T_ok 200 rfl ?_) | (refine ldA T_ok rfl rfl rfl rfl rfl (Bk.all B2) ?_; refine go T_ok 200 rfl ?_) | (refine ldA T_ok rfl rfl rfl rfl rfl (Bk.all B8) ?_; refine go T_ok 200 rfl ?_) | (refine ldA T_ok rfl rfl rfl rfl rfl (Bk.all B10) ?_; refine go T_ok 200 rfl ?_) | (refine ld T_ok rfl rfl rfl rfl (Bk.get B1 rfl) ?_; refine go T_ok 200 rfl ?_) | (refine ld T_ok rfl rfl rfl rfl (Bk.get B2 rfl) ?_; refine go T_ok 200 rfl ?_) | (refine ld T_ok rfl rfl rfl rfl (Bk.get B8 rfl) ?_; refine go T_ok 200 rfl ?_) | (refine ld T_ok rfl rfl rfl rfl (Bk.get B10 rfl) ?_; refine go T_ok 200 rfl ?_) | (refine guardA (b := true) rfl rfl rfl rfl (fun _ => ?_) (fun e => by cases e); refine go T_ok 200 rfl ?_) | (refine guardA (b := false) rfl rfl rfl rfl (fun e => by cases e) (fun _ => ?_); refine go T_ok 200 rfl ?_) | (refine condT rfl rfl ?_; refine go T_ok 200 rfl ?_) | (refine condF rfl rfl ?_; refine go T_ok 200 rfl ?_))
  refine call rfl rfl rfl (ok _ (by decide) rfl) (through_any v r _ hr) ?_
  rintro x w ⟨rfl, qk⟩
  have B1 := B1.no qk
  have B2 := B2.no qk
  have B8 := B8.no qk
  have B10 := B10.no qk
  have S1 := S1.no qk
  have S2 := S2.no qk
  have S3 := S3.no qk
  have q := q.trans qk
  refine go T_ok 200 rfl ?_
  have yB1 := B1.lt
  have yB2 := B2.lt
  have yB8 := B8.lt
  have yB10 := B10.lt
  have yS1 := S1.2.1
  have yS2 := S2.2.1
  have yS3 := S3.2.1
  have yq := q.size
  refine nw rfl rfl (z := .agg #[I 0, I 0, I 0, I 0, I 0, I 0, I 0, I 0, I 0, I 0, I 0, I 0, I 0, I 0]) (by kernel_rfl) (cs := [I 0, I 0, I 0, I 0, I 0, I 0, I 0, I 0, I 0, I 0, I 0, I 0, I 0, I 0]) rfl ?_
  intro g15 w hg15 hs15 qk B15
  have B1 := B1.no qk
  have B2 := B2.no qk
  have B8 := B8.no qk
  have B10 := B10.no qk
  have S1 := S1.no qk
  have S2 := S2.no qk
  have S3 := S3.no qk
  have q := q.trans qk
  refine go T_ok 200 rfl ?_
  refine stA T_ok rfl rfl rfl rfl (vs := wL v r) rfl rfl rfl B15 rfl ?_
  intro w qk B15 hz15
  have B15 : Bk w g15 103 (wL v r) := B15
  have B1 := Bk.keep B1 qk (by omega)
  have B2 := Bk.keep B2 qk (by omega)
  have B8 := Bk.keep B8 qk (by omega)
  have B10 := Bk.keep B10 qk (by omega)
  have S1 := Sl.keep S1 qk (fun k hk e => by omega)
  have S2 := Sl.keep S2 qk (fun k hk e => by omega)
  have S3 := Sl.keep S3 qk (fun k hk e => by omega)
  have q := q.step qk (fun k hk e => by omega)
  have hR : bnR v r a b d = ((opS v r a (dnl (d.map (·.1))), opS v r b (dnl (d.map (·.2)))), 0) := by unfold bnR; rw [if_pos ⟨⟨hv, hr, hga⟩, hgb, hI, hD, hl⟩]
  have hd1 : ∀ c, 0 ≤ c → c < v.nx * v.ny * v.nz → 0 ≤ dnl (d.map (·.1)) c ∧ dnl (d.map (·.1)) c ≤ 10000 := fun c h0 h1 => by
    obtain ⟨s, hs, e1, _⟩ := dn_get (d := d) h0 (by omega)
    have := hD s (List.mem_of_getElem? hs)
    omega
  have hd2 : ∀ c, 0 ≤ c → c < v.nx * v.ny * v.nz → 0 ≤ dnl (d.map (·.2)) c ∧ dnl (d.map (·.2)) c ≤ 10000 := fun c h0 h1 => by
    obtain ⟨s, hs, _, e1⟩ := dn_get (d := d) h0 (by omega)
    have := hD s (List.mem_of_getElem? hs)
    omega
  have yB10 := B10.lt
  have yB15 := B15.lt
  refine go T_ok 200 rfl ?_
  refine draw mixed (fun w' => Chg (fun k => k = g10) w w') ([0,1,2,4,5,6].map (fun i => (i, true)) ++ [(3, false)] ++ [(7, false)] ++ [8].map (fun i => (i, true)) ++ [(9, false)] ++ [10].map (fun i => (i, true))) rfl (by kernel_rfl) ((Chg.drew _).mono (fun _ _ h => h.elim)) ?_
  refine goH T_ok 200 rfl ?_
  refine quietH rfl (fun w' hS => r_loadA T_ok rfl rfl rfl rfl (B15.keep hS (by omega)).all) ?_
  refine goH T_ok 200 rfl ?_
  refine quietH rfl (fun w' hS => r_loadA T_ok rfl rfl rfl rfl (B15.keep hS (by omega)).all) ?_
  refine goH T_ok 200 rfl ?_
  have qd := Chg.drew w
  refine callE rfl rfl rfl (ok _ (by decide) rfl) (opacity_any v r a (dnl (d.map (·.1))) _ A1 c1 _ _ hv hr hga (S1.no qd) hd1 (dns_lo (B8.no qd) (S3.no qd) hl)) ?_
  rintro x w2 ⟨rfl, q2'⟩
  have qd := qd.trans q2'
  refine ⟨qd.mono (fun _ _ h => h.elim), ?_⟩
  refine goH T_ok 200 rfl ?_
  refine callE rfl rfl rfl (ok _ (by decide) rfl) (opacity_any v r b (dnl (d.map (·.2))) _ A2 c2 _ _ hv hr hgb (S2.no qd) hd2 (dns_hi (B8.no qd) (S3.no qd) hl)) ?_
  rintro x w3 ⟨rfl, q3'⟩
  have qd := qd.trans q3'
  refine ⟨qd.mono (fun _ _ h => h.elim), ?_⟩
  refine goH T_ok 200 rfl ?_
  refine stAE T_ok rfl rfl rfl rfl (vs := cL (opS v r a (dnl (d.map (·.1))), opS v r b (dnl (d.map (·.2))))) rfl rfl rfl (B10.no qd) rfl ?_
  intro w4 p4 B10 hz10
  refine ⟨(qd.mono (fun _ _ h => h.elim)).trans p4, ?_⟩
  refine goH T_ok 200 rfl ?_
  refine endH ?_
  have B10 : Bk w4 g10 72 (cL (opS v r a (dnl (d.map (·.1))), opS v r b (dnl (d.map (·.2))))) := B10
  have q := (q.trans qd).step p4 (fun k hk e => by omega)
  refine go T_ok 200 rfl ?_
  rw [hR]
  exact ret (retR2 Try.results45 (resA T_ok rfl rfl rfl B10.all) (show ResV _ _ _ _ (.tmp _) (.int .i64 0) from rfl) ⟨rfl, q⟩)
end Go.Proofs.Ytkkjfjeniaiaiaa
