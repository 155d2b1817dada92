/- The contracts of the law's grounded, and of the specification's Spans and Bounds. -/
import Derived.Test.YtkkjfjeniaiaiaaCF
namespace Go.Proofs.Ytkkjfjeniaiaiaa
open Go.Ev Go.Proofs Go.Rock
attribute [local irreducible] At AtH
/-- two grounds in order -/
def GG (v : Vo) (a b : List Int) : Prop := GrOk v a ∧ GrOk v b ∧ LeL a b
set_option maxHeartbeats 8000000 in
theorem lgr_any (v : Vo) (a b : List Int) (A1 A2 : Option Addr) (c1 c2 n1 n2 : Nat) (w0 : World) (hv : VoOk v) (hL1 : a.length ≤ maxLen) (hL2 : b.length ≤ maxLen) (h1 : Sl w0 n1 1 A1 a.length (iL a)) (h2 : Sl w0 n2 1 A2 b.length (iL b)) :
    Ret Try.prog 46 [.agg (vL v).toArray, .slice A1 a.length c1, .slice A2 b.length c2] w0 fun x w' => ∃ t : Bool, x = .bool t ∧ (t = true ↔ GG v a b) ∧ Chg No w0 w' := by
  have m1 := vo_xy hv
  refine enter Try.func46 rfl Try.ntmps46 rfl ?_
  refine go T_ok 200 rfl ?_
  refine bx rfl rfl rfl (cs := vL v) rfl ?_
  intro g1 u1 hg1 hs1 q1 B1
  have q := q1
  have S1 := h1.no q
  have S2 := h2.no q
  refine go T_ok 200 rfl ?_
  repeat (first | (refine ldA T_ok rfl rfl rfl rfl rfl (Bk.all B1) ?_; refine go T_ok 200 rfl ?_) | (refine ld T_ok rfl rfl rfl rfl (Bk.get B1 rfl) ?_; refine go T_ok 200 rfl ?_) | (refine guardA (b := true) rfl rfl rfl rfl (fun _ => ?_) (fun e => by cases e); refine go T_ok 200 rfl ?_) | (refine guardA (b := false) rfl rfl rfl rfl (fun e => by cases e) (fun _ => ?_); refine go T_ok 200 rfl ?_) | (refine condT rfl rfl ?_; refine go T_ok 200 rfl ?_) | (refine condF rfl rfl ?_; refine go T_ok 200 rfl ?_))
  refine call rfl rfl rfl (ok _ (by decide) rfl) (rGround_any v a A1 c1 _ _ hv hL1 S1) ?_
  rintro x w ⟨rfl, qk⟩
  have B1 := B1.no qk
  have S1 := S1.no qk
  have S2 := S2.no qk
  have q := q.trans qk
  by_cases hga : GrOk v a
  case neg =>
    rw [decide_eq_false hga]
    refine go T_ok 200 rfl ?_
    repeat (first | (refine guardA (b := true) rfl rfl rfl rfl (fun _ => ?_) (fun e => by cases e); refine go T_ok 200 rfl ?_) | (refine guardA (b := false) rfl rfl rfl rfl (fun e => by cases e) (fun _ => ?_); refine go T_ok 200 rfl ?_) | (refine condT rfl rfl ?_; refine go T_ok 200 rfl ?_) | (refine condF rfl rfl ?_; refine go T_ok 200 rfl ?_))
    exact ret (ret1 (v := .bool false) Try.results46 rfl ⟨false, rfl, ⟨fun h => Bool.noConfusion h, fun h => absurd h (fun h => hga h.1)⟩, q⟩)
  rw [decide_eq_true hga]
  refine go T_ok 200 rfl ?_
  repeat (first | (refine ldA T_ok rfl rfl rfl rfl rfl (Bk.all B1) ?_; refine go T_ok 200 rfl ?_) | (refine ld T_ok rfl rfl rfl rfl (Bk.get B1 rfl) ?_; refine go T_ok 200 rfl ?_) | (refine guardA (b := true) rfl rfl rfl rfl (fun _ => ?_) (fun e => by cases e); refine go T_ok 200 rfl ?_) | (refine guardA (b := false) rfl rfl rfl rfl (fun e => by cases e) (fun _ => ?_); refine go T_ok 200 rfl ?_) | (refine condT rfl rfl ?_; refine go T_ok 200 rfl ?_) | (refine condF rfl rfl ?_; refine go T_ok 200 rfl ?_))
  refine call rfl rfl rfl (ok _ (by decide) rfl) (rGround_any v b A2 c2 _ _ hv hL2 S2) ?_
  rintro x w ⟨rfl, qk⟩
  have B1 := B1.no qk
  have S1 := S1.no qk
  have S2 := S2.no qk
  have q := q.trans qk
  by_cases hgb : GrOk v b
  case neg =>
    rw [decide_eq_false hgb]
    refine go T_ok 200 rfl ?_
    repeat (first | (refine guardA (b := true) rfl rfl rfl rfl (fun _ => ?_) (fun e => by cases e); refine go T_ok 200 rfl ?_) | (refine guardA (b := false) rfl rfl rfl rfl (fun e => by cases e) (fun _ => ?_); refine go T_ok 200 rfl ?_) | (refine condT rfl rfl ?_; refine go T_ok 200 rfl ?_) | (refine condF rfl rfl ?_; refine go T_ok 200 rfl ?_))
    exact ret (ret1 (v := .bool false) Try.results46 rfl ⟨false, rfl, ⟨fun h => Bool.noConfusion h, fun h => absurd h (fun h => hgb h.2.1)⟩, q⟩)
  rw [decide_eq_true hgb]
  have hla := hga.2
  have hlb := hgb.2
  refine go T_ok 200 rfl ?_
  repeat (first | (refine guardA (b := true) rfl rfl rfl rfl (fun _ => ?_) (fun e => by cases e); refine go T_ok 200 rfl ?_) | (refine guardA (b := false) rfl rfl rfl rfl (fun e => by cases e) (fun _ => ?_); refine go T_ok 200 rfl ?_) | (refine condT rfl rfl ?_; refine go T_ok 200 rfl ?_) | (refine condF rfl rfl ?_; refine go T_ok 200 rfl ?_))
  refine loop [1, 2, 7] (fun j : Nat => [.slice A1 a.length c1, .slice A2 b.length c2, .int .i64 (j : Int)])
    (fun j w' => j ≤ a.length ∧ Chg No w w' ∧ LeL (a.take j) (b.take j)) (fun j => a.length - j) 0 (fun _ => rfl) rfl ⟨by omega, Chg.refl _ _, fun i x y h => by simp at h⟩ ?_
  rintro j τ w ⟨hj, qk, hI⟩
  have p := qk
  have B1 := B1.no qk
  have S1 := S1.no qk
  have S2 := S2.no qk
  have q := q.trans qk
  refine go T_ok 200 rfl ?_
  refine condD rfl (fun hlt => ?_) (fun hlt => ?_)
  · have hlt : j < a.length := by omega
    obtain ⟨x, hx⟩ : ∃ x, a[j]? = some x := ⟨_, List.getElem?_eq_getElem hlt⟩
    obtain ⟨y, hy⟩ : ∃ x, b[j]? = some x := ⟨_, List.getElem?_eq_getElem (by omega)⟩
    obtain ⟨bx_, ox, hAx, hbx, hcx⟩ := S1.elI hx
    obtain ⟨by_, oy, hAy, hby, hcy⟩ := S2.elI hy
    have lx : bx_ < w.heap.size := Nat.lt_of_lt_of_le hbx S1.2.1
    have ly : by_ < w.heap.size := Nat.lt_of_lt_of_le hby S2.2.1
    have e8 : w64 ((j : Int) + 1) = ((j + 1 : Nat) : Int) := w64_id (by omega) (by omega)
    rw [hAx, hAy]
    refine go T_ok 200 rfl ?_
    refine draw mixed (fun w' => Chg No w w') ([0,1,2,3,4,5,6,7,8].map (fun i => (i, true))) rfl (by kernel_rfl) (Chg.drew _) ?_
    refine goH T_ok 200 rfl ?_
    refine quietH rfl (fun w' hS => r_idx T_ok rfl rfl rfl rfl j rfl hlt) ?_
    refine goH T_ok 200 rfl ?_
    refine quietH rfl (fun w' hS => r_load T_ok rfl rfl rfl ((hS.cell (a := ⟨bx_, ox + j * 1, none⟩) lx (fun h => h)).trans hcx)) ?_
    refine goH T_ok 200 rfl ?_
    refine quietH rfl (fun w' hS => r_idx T_ok rfl rfl rfl rfl j rfl (by omega)) ?_
    refine goH T_ok 200 rfl ?_
    refine quietH rfl (fun w' hS => r_load T_ok rfl rfl rfl ((hS.cell (a := ⟨by_, oy + j * 1, none⟩) ly (fun h => h)).trans hcy)) ?_
    refine goH T_ok 200 rfl ?_
    refine endH ?_
    have qk := Chg.drew w
    have S1 := S1.no qk
    have S2 := S2.no qk
    have p := p.no qk
    have q := q.trans qk
    refine go T_ok 200 rfl ?_
    refine condD rfl (fun h5 => ?_) (fun h5 => ?_)
    · refine go T_ok 200 rfl ?_
      exact ret (ret1 (v := .bool false) Try.results46 rfl ⟨false, rfl, ⟨fun h => Bool.noConfusion h, fun h => absurd h (fun h => by have := h.2.2 j x y hx hy; omega)⟩, q⟩)
    · refine go T_ok 200 rfl ?_
      rw [e8]
      exact round ⟨j + 1, rfl, ⟨by omega, p, hI.take hx hy (by omega)⟩, by omega⟩
  have hjl : j = a.length := by omega
  rw [hjl, List.take_length, List.take_of_length_le (by omega)] at hI
  refine go T_ok 200 rfl ?_
  exact ret (ret1 (v := .bool true) Try.results46 rfl ⟨true, rfl, ⟨fun _ => ⟨hga, hgb, hI⟩, fun _ => rfl⟩, q⟩)
set_option maxHeartbeats 8000000 in
theorem Spans_any (v : Vo) (d : List (Int × Int)) (A3 : Option Addr) (c3 n3 : Nat) (w0 : World) (hv : VoOk v) (hL3 : d.length ≤ maxLen) (h3 : Sl w0 n3 2 A3 d.length (d.flatMap cL)) :
    Ret Try.prog 47 [.agg (vL v).toArray, .slice A3 d.length c3] w0 fun x w' => x = .bool (decide (SpOk v d)) ∧ Chg No w0 w' := by
  have hm3 := len63 hL3
  refine enter Try.func47 rfl Try.ntmps47 rfl ?_
  refine go T_ok 200 rfl ?_
  refine bx rfl rfl rfl (cs := vL v) rfl ?_
  intro g1 u1 hg1 hs1 q1 B1
  have q := q1
  have S3 := h3.no q
  refine go T_ok 200 rfl ?_
  refine loop [1, 2, 5] (fun j : Nat => [.slice A3 d.length c3, .pointer (some ⟨g1, 0, none⟩), .int .i64 (j : Int)])
    (fun j w' => j ≤ d.length ∧ Chg No u1 w' ∧ ∀ s ∈ d.take j, 0 ≤ s.1 ∧ s.1 ≤ s.2 ∧ s.2 ≤ 10000) (fun j => d.length - j) 0 (fun _ => rfl) rfl ⟨by omega, Chg.refl _ _, fun a h => by simp at h⟩ ?_
  rintro j τ w ⟨hj, qk, hD⟩
  have p := qk
  have B1 := B1.no qk
  have S3 := S3.no qk
  have q := q.trans qk
  refine go T_ok 200 rfl ?_
  refine condD rfl (fun hlt => ?_) (fun hlt => ?_)
  · have hlt : j < d.length := by omega
    obtain ⟨s, hs⟩ : ∃ x, d[j]? = some x := ⟨_, List.getElem?_eq_getElem hlt⟩
    have hsm := List.mem_of_getElem? hs
    obtain ⟨bx_, ox, hAx, hbx, hcx⟩ := S3.el cL_len hs
    have hlb : bx_ < w.heap.size := Nat.lt_of_lt_of_le hbx S3.2.1
    have k0 : ∀ (i : Nat) (x : Value), nth? (cL s) i = some x → ∀ w', Chg No w w' → w'.cell? ⟨bx_, ox + j * 2 + i, none⟩ = some x := fun i x hx w' hS => (hS.cell (a := ⟨bx_, ox + j * 2 + i, none⟩) hlb (fun h => h)).trans (hcx.get hx)
    have e8 : w64 ((j : Int) + 1) = ((j + 1 : Nat) : Int) := w64_id (by omega) (by omega)
    rw [hAx]
    refine go T_ok 200 rfl ?_
    refine draw mixed (fun w' => Chg No w w') ([0,1,2,3,4,5,6,7,8,9].map (fun i => (i, true)) ++ [(10, false)] ++ [11,12,13,14,15,16,17,18,19].map (fun i => (i, true))) rfl (by kernel_rfl) (Chg.drew _) ?_
    refine goH T_ok 200 rfl ?_
    refine quietH rfl (fun w' hS => r_idx T_ok rfl rfl rfl rfl j rfl hlt) ?_
    refine goH T_ok 200 rfl ?_
    refine quietH rfl (fun w' hS => r_load T_ok rfl rfl rfl (k0 0 _ rfl w' hS)) ?_
    refine goH T_ok 200 rfl ?_
    refine quietH rfl (fun w' hS => r_idx T_ok rfl rfl rfl rfl j rfl hlt) ?_
    refine goH T_ok 200 rfl ?_
    refine quietH rfl (fun w' hS => r_load T_ok rfl rfl rfl (k0 1 _ rfl w' hS)) ?_
    refine goH T_ok 200 rfl ?_
    have qk := Chg.drew w
    have qd := qk
    have B1 := B1.no qk
    have S3 := S3.no qk
    have p := p.no qk
    have q := q.trans qk
    refine callE rfl rfl rfl (ok _ (by decide) rfl) (rin_any _ _ _ _) ?_
    rintro x w' ⟨rfl, rfl⟩
    refine ⟨qd, ?_⟩
    refine goH T_ok 200 rfl ?_
    by_cases h1 : 0 ≤ s.1 ∧ s.1 ≤ s.2
    case neg =>
      rw [decide_eq_false h1]
      refine guardH (b := true) rfl rfl rfl (fun _ => ?_) (fun h => by cases h)
      refine goH T_ok 200 rfl ?_
      refine endH ?_
      refine go T_ok 200 rfl ?_
      repeat (first | (refine guardA (b := true) rfl rfl rfl rfl (fun _ => ?_) (fun e => by cases e); refine go T_ok 200 rfl ?_) | (refine guardA (b := false) rfl rfl rfl rfl (fun e => by cases e) (fun _ => ?_); refine go T_ok 200 rfl ?_) | (refine condT rfl rfl ?_; refine go T_ok 200 rfl ?_) | (refine condF rfl rfl ?_; refine go T_ok 200 rfl ?_))
      exact ret (ret1 (v := .bool false) Try.results47 rfl ⟨congrArg Value.bool (decide_eq_false fun h => h1 ⟨(h.1 s hsm).1, (h.1 s hsm).2.1⟩).symm, q⟩)
    rw [decide_eq_true h1]
    refine guardH (b := false) rfl rfl rfl (fun h => by cases h) (fun _ => ?_)
    refine goH T_ok 200 rfl ?_
    refine quietH rfl (fun w' hS => r_idx T_ok rfl rfl rfl rfl j rfl hlt) ?_
    refine goH T_ok 200 rfl ?_
    refine quietH rfl (fun w' hS => r_load T_ok rfl rfl rfl (k0 1 _ rfl w' hS)) ?_
    refine goH T_ok 200 rfl ?_
    refine endH ?_
    refine go T_ok 200 rfl ?_
    refine condD rfl (fun h5 => ?_) (fun h5 => ?_)
    · refine go T_ok 200 rfl ?_
      exact ret (ret1 (v := .bool false) Try.results47 rfl ⟨congrArg Value.bool (decide_eq_false fun h => by have := (h.1 s hsm).2.2; omega).symm, q⟩)
    refine go T_ok 200 rfl ?_
    rw [e8]
    refine round ⟨j + 1, rfl, ⟨by omega, p, fun z hz => ?_⟩, by omega⟩
    rw [take_snoc hs, List.mem_append, List.mem_singleton] at hz
    rcases hz with hz | rfl
    · exact hD z hz
    · omega
  have hjl : j = d.length := by omega
  rw [hjl, List.take_length] at hD
  refine go T_ok 200 rfl ?_
  repeat (first | (refine ldA T_ok rfl rfl rfl rfl rfl (Bk.all B1) ?_; refine go T_ok 200 rfl ?_) | (refine ld T_ok rfl rfl rfl rfl (Bk.get B1 rfl) ?_; refine go T_ok 200 rfl ?_) | (refine guardA (b := true) rfl rfl rfl rfl (fun _ => ?_) (fun e => by cases e); refine go T_ok 200 rfl ?_) | (refine guardA (b := false) rfl rfl rfl rfl (fun e => by cases e) (fun _ => ?_); refine go T_ok 200 rfl ?_) | (refine condT rfl rfl ?_; refine go T_ok 200 rfl ?_) | (refine condF rfl rfl ?_; refine go T_ok 200 rfl ?_))
  refine call rfl rfl rfl (ok _ (by decide) rfl) (Cells_any v _ hv) ?_
  rintro x w ⟨rfl, qk⟩
  have B1 := B1.no qk
  have S3 := S3.no qk
  have p := p.no qk
  have q := q.trans qk
  refine go T_ok 200 rfl ?_
  refine ret (ret1 (v := .bool _) Try.results47 rfl ⟨?_, q⟩)
  congr 1
  rw [Bool.eq_iff_iff, decide_eq_true_iff]
  unfold SpOk
  exact ⟨fun h => ⟨hD, by simpa using h⟩, fun h => by simpa using h.2⟩
theorem lt_own {w : World} {B : Nat} {e : TypeId} {sz n : Nat} {v : Value} {xs : List Value} (h : w.ownsRow B e sz v n xs) {k : Nat} (hk : v.ownBlock = some k) : k < w.heap.size := by
  obtain ⟨cs, t, hc⟩ := own_cells h hk
  rcases Nat.lt_or_ge k w.heap.size with h | h
  · exact h
  · rw [Array.getElem?_eq_none h] at hc; cases hc
/-- the forks of two appends -/
def ap2 : Tr :=
  .fork ([0,1,2,3,4,5,8,9,10,11,12,13].map fun i => (i, true))
    (.fork [(6, false)] (.fin ([(7, false), (14, false), (15, false)] ++ [16, 17].map fun i => (i, true))) (.fin ([(14, false), (7, false), (15, false)] ++ [16, 17].map fun i => (i, true))))
    (.fin ([(14, false), (6, false), (7, false), (15, false)] ++ [16, 17].map fun i => (i, true)))
set_option maxRecDepth 20000 in
set_option maxHeartbeats 8000000 in
theorem rBounds_any (v : Vo) (r : Ra) (a b : List Int) (d : List (Int × Int)) (A1 A2 A3 : Option Addr) (c1 c2 c3 n1 n2 n3 : Nat) (w0 : World) (hv : VoOk v) (hr : RaOk r) (hga : GrOk v a) (hgb : GrOk v b) (hd : SpOk v d)
    (h1 : Sl w0 n1 1 A1 a.length (iL a)) (h2 : Sl w0 n2 1 A2 b.length (iL b)) (h3 : Sl w0 n3 2 A3 d.length (d.flatMap cL)) (hn3 : n3 ≤ w0.heap.size) :
    Ret Try.prog 48 [.agg (vL v).toArray, .slice A1 a.length c1, .slice A2 b.length c2, .slice A3 d.length c3, .agg (rL r).toArray] w0 fun x w' => x = .agg (cL (opS v r a (dnl (d.map (·.1))), opS v r b (dnl (d.map (·.2))))).toArray ∧ Chg No w0 w' := by
  have hdl := hd.2
  have hxyz := vo_xyz hv
  refine enter Try.func48 rfl Try.ntmps48 rfl ?_
  refine go T_ok 200 rfl ?_
  refine bx rfl rfl rfl (cs := vL v) rfl ?_
  intro g1 u1 hg1 hs1 q1 B1
  refine go T_ok 200 rfl ?_
  refine bx rfl rfl rfl (cs := rL r) rfl ?_
  intro g2 u2 hg2 hs2 q2 B2
  have B1 := B1.no q2
  have q := q1.trans q2
  refine go T_ok 200 rfl ?_
  refine nw rfl rfl (z := .agg #[I 0, I 0]) (by kernel_rfl) (cs := [I 0, I 0]) rfl ?_
  intro g10 w hg10 hs10 qk B10
  have B10 : Bk w g10 72 (cL (0, 0)) := B10
  have B1 := B1.no qk
  have B2 := B2.no qk
  have q := q.trans qk
  have y1 := B1.lt
  have y2 := B2.lt
  have yq := q.size
  refine go T_ok 200 rfl ?_
  refine loop [1, 2, 3, 5, 9, 10, 11, 12, 13] (fun p : Nat × Value × Value => [.slice A1 a.length c1, .slice A2 b.length c2, .slice A3 d.length c3, .pointer (some ⟨g1, 0, none⟩), .pointer (some ⟨g2, 0, none⟩), .pointer (some ⟨g10, 0, none⟩), p.2.1, p.2.2, .int .i64 (p.1 : Int)])
    (fun p w' => p.1 ≤ d.length ∧ Chg No w0 w' ∧ Bk w' g1 23 (vL v) ∧ Bk w' g2 26 (rL r) ∧ Bk w' g10 72 (cL (0, 0)) ∧ w'.ownsRow (g10 + 1) 3 1 p.2.1 p.1 (iL ((d.map (·.1)).take p.1)) ∧ w'.ownsRow (g10 + 1) 3 1 p.2.2 p.1 (iL ((d.map (·.2)).take p.1)) ∧ (∀ k, p.2.1.ownBlock = some k → p.2.2.ownBlock ≠ some k))
    (fun p => d.length - p.1) (0, .slice none 0 0, .slice none 0 0) (fun _ => rfl) rfl ⟨by show 0 ≤ _; omega, q, B1, B2, B10, own_nil, own_nil, fun k h => by cases h⟩ ?_
  rintro ⟨j, x1, x2⟩ τ w ⟨hj, q, B1, B2, B10, o1, o2, hne⟩
  simp only at hj o1 o2 hne
  obtain ⟨X1, k1, rfl⟩ := own_form o1
  obtain ⟨X2, k2, rfl⟩ := own_form o2
  have S3 := h3.no q
  refine go T_ok 200 rfl ?_
  refine condD rfl (fun hlt => ?_) (fun hlt => ?_)
  · have hlt : j < d.length := by omega
    obtain ⟨s, hs⟩ : ∃ x, d[j]? = some x := ⟨_, List.getElem?_eq_getElem hlt⟩
    obtain ⟨bx_, ox, hAx, hbx, hcx⟩ := h3.el cL_len hs
    have k0 : ∀ (i : Nat) (x : Value), nth? (cL s) i = some x → ∀ w', Chg No w0 w' → w'.cell? ⟨bx_, ox + j * 2 + i, none⟩ = some x := fun i x hx w' hS => (hS.cell (a := ⟨bx_, ox + j * 2 + i, none⟩) (Nat.lt_of_lt_of_le hbx hn3) (fun h => h)).trans (hcx.get hx)
    have e8 : w64 ((j : Int) + 1) = ((j + 1 : Nat) : Int) := w64_id (by omega) (by omega)
    have hg1' : (d.map (·.1))[j]? = some s.1 := by rw [List.getElem?_map, hs]; rfl
    have hg2' : (d.map (·.2))[j]? = some s.2 := by rw [List.getElem?_map, hs]; rfl
    have hf1 : iL ((d.map (·.1)).take j) ++ [I s.1] = iL ((d.map (·.1)).take (j + 1)) := by rw [take_snoc hg1']; simp [iL]
    have hf2 : iL ((d.map (·.2)).take j) ++ [I s.2] = iL ((d.map (·.2)).take (j + 1)) := by rw [take_snoc hg2']; simp [iL]
    have n10 := B10.lt
    rw [hAx]
    refine go T_ok 200 rfl ?_
    refine drawT mixed (fun w' => Chg No w0 w') ap2 (by kernel_rfl) (q.trans (Chg.drew _)) ?_
    have qd := q.trans (Chg.drew w)
    have B1 := B1.no (Chg.drew w)
    have B2 := B2.no (Chg.drew w)
    have B10 := B10.no (Chg.drew w)
    have o1 := own_no o1 (Chg.drew w)
    have o2 := own_no o2 (Chg.drew w)
    refine segK rfl ?_
    refine goH T_ok 200 rfl ?_
    refine quietH rfl (fun w' hS => r_idx T_ok rfl rfl rfl rfl j rfl hlt) ?_
    refine goH T_ok 200 rfl ?_
    refine quietH rfl (fun w' hS => r_load T_ok rfl rfl rfl (k0 0 _ rfl w' hS)) ?_
    refine goH T_ok 200 rfl ?_
    refine quietH rfl (fun w' hS => r_idx T_ok rfl rfl rfl rfl j rfl hlt) ?_
    refine goH T_ok 200 rfl ?_
    refine quietH rfl (fun w' hS => r_load T_ok rfl rfl rfl (k0 1 _ rfl w' hS)) ?_
    refine goH T_ok 200 rfl ?_
    refine forkK qd ?_ ?_
    · refine segK rfl ?_
      have l2 := fun k (e : _ = some k) => lt_own o2 (k := k) e
      refine rowE T_ok rfl rfl rfl rfl rfl rfl (cs := [I s.1]) rfl ?_
      intro gg1 w hh1 hs1 pp BB1
      have qd := qd.trans pp
      refine ⟨qd, ?_⟩
      have B1 := B1.no pp
      have B2 := B2.no pp
      have B10 := B10.no pp
      have o1 := own_no o1 pp
      have o2 := own_no o2 pp
      try have BB2 := BB2.no pp
      refine goH T_ok 200 rfl ?_
      refine forkK qd ?_ ?_
      · refine segF rfl ?_
        have zz := BB1.lt
        have lo := fun k (e : _ = some k) => lt_own o2 (k := k) e
        have z10 := B10.lt
        have zq := qd.size
        refine appSE T_ok rfl rfl rfl rfl rfl o1 (BB1.sl (sz := 1) (m := 1) rfl) rfl (by unfold maxLen; omega) (by omega) (by omega) ?_
        intro XX XC w oo pp hown
        have qd := qd.step pp (fun k hk e => by have := own_ge o1 e; omega)
        refine ⟨qd, ?_⟩
        have B1 := B1.keep pp (fun e => by have := own_ge o1 e; omega)
        have B2 := B2.keep pp (fun e => by have := own_ge o1 e; omega)
        have B10 := B10.keep pp (fun e => by have := own_ge o1 e; omega)
        try have BB2 := BB2.keep pp (fun e => by have := l1 _ e; omega)
        have o2 := own_keep o2 pp (fun k e e2 => (hne k e2 e))
        have hne := (show ∀ k, (Value.slice XX (j + 1) XC).ownBlock = some k → _ ≠ some k from fun k e e2 => by rcases hown with h | h; (rw [h] at e; exact hne k e e2); (rw [h] at e; cases e; have := lo _ e2; omega))
        have o1 := oo
        refine goH T_ok 200 rfl ?_
        have l1 := fun k (e : _ = some k) => lt_own o1 (k := k) e
        refine rowE T_ok rfl rfl rfl rfl rfl rfl (cs := [I s.2]) rfl ?_
        intro gg2 w hh2 hs2 pp BB2
        have qd := qd.trans pp
        refine ⟨qd, ?_⟩
        have B1 := B1.no pp
        have B2 := B2.no pp
        have B10 := B10.no pp
        have o1 := own_no o1 pp
        have o2 := own_no o2 pp
        try have BB1 := BB1.no pp
        refine goH T_ok 200 rfl ?_
        have zz := BB2.lt
        have lo := fun k (e : _ = some k) => lt_own o1 (k := k) e
        have z10 := B10.lt
        have zq := qd.size
        refine appSE T_ok rfl rfl rfl rfl rfl o2 (BB2.sl (sz := 1) (m := 1) rfl) rfl (by unfold maxLen; omega) (by omega) (by omega) ?_
        intro XX XC w oo pp hown
        have qd := qd.step pp (fun k hk e => by have := own_ge o2 e; omega)
        refine ⟨qd, ?_⟩
        have B1 := B1.keep pp (fun e => by have := own_ge o2 e; omega)
        have B2 := B2.keep pp (fun e => by have := own_ge o2 e; omega)
        have B10 := B10.keep pp (fun e => by have := own_ge o2 e; omega)
        try have BB1 := BB1.keep pp (fun e => by have := l2 _ e; omega)
        have o1 := own_keep o1 pp (fun k e e2 => (hne k e e2))
        have hne := (show ∀ k, _ = some k → (Value.slice XX (j + 1) XC).ownBlock ≠ some k from fun k e2 e => by rcases hown with h | h; (rw [h] at e; exact hne k e2 e); (rw [h] at e; cases e; have := lo _ e2; omega))
        have o2 := oo
        refine goH T_ok 200 rfl ?_
        refine endH ?_
        refine go T_ok 200 rfl ?_
        rw [e8]
        rw [hf1] at o1
        rw [hf2] at o2
        exact round ⟨(j + 1, _, _), rfl, ⟨by show j + 1 ≤ _; omega, qd, B1, B2, B10, o1, o2, hne⟩, by show _ - (j + 1) < _ - j; omega⟩
      · refine segF rfl ?_
        have l1 := fun k (e : _ = some k) => lt_own o1 (k := k) e
        refine rowE T_ok rfl rfl rfl rfl rfl rfl (cs := [I s.2]) rfl ?_
        intro gg2 w hh2 hs2 pp BB2
        have qd := qd.trans pp
        refine ⟨qd, ?_⟩
        have B1 := B1.no pp
        have B2 := B2.no pp
        have B10 := B10.no pp
        have o1 := own_no o1 pp
        have o2 := own_no o2 pp
        try have BB1 := BB1.no pp
        refine goH T_ok 200 rfl ?_
        have zz := BB1.lt
        have lo := fun k (e : _ = some k) => lt_own o2 (k := k) e
        have z10 := B10.lt
        have zq := qd.size
        refine appSE T_ok rfl rfl rfl rfl rfl o1 (BB1.sl (sz := 1) (m := 1) rfl) rfl (by unfold maxLen; omega) (by omega) (by omega) ?_
        intro XX XC w oo pp hown
        have qd := qd.step pp (fun k hk e => by have := own_ge o1 e; omega)
        refine ⟨qd, ?_⟩
        have B1 := B1.keep pp (fun e => by have := own_ge o1 e; omega)
        have B2 := B2.keep pp (fun e => by have := own_ge o1 e; omega)
        have B10 := B10.keep pp (fun e => by have := own_ge o1 e; omega)
        try have BB2 := BB2.keep pp (fun e => by have := l1 _ e; omega)
        have o2 := own_keep o2 pp (fun k e e2 => (hne k e2 e))
        have hne := (show ∀ k, (Value.slice XX (j + 1) XC).ownBlock = some k → _ ≠ some k from fun k e e2 => by rcases hown with h | h; (rw [h] at e; exact hne k e e2); (rw [h] at e; cases e; have := lo _ e2; omega))
        have o1 := oo
        refine goH T_ok 200 rfl ?_
        have zz := BB2.lt
        have lo := fun k (e : _ = some k) => lt_own o1 (k := k) e
        have z10 := B10.lt
        have zq := qd.size
        refine appSE T_ok rfl rfl rfl rfl rfl o2 (BB2.sl (sz := 1) (m := 1) rfl) rfl (by unfold maxLen; omega) (by omega) (by omega) ?_
        intro XX XC w oo pp hown
        have qd := qd.step pp (fun k hk e => by have := own_ge o2 e; omega)
        refine ⟨qd, ?_⟩
        have B1 := B1.keep pp (fun e => by have := own_ge o2 e; omega)
        have B2 := B2.keep pp (fun e => by have := own_ge o2 e; omega)
        have B10 := B10.keep pp (fun e => by have := own_ge o2 e; omega)
        try have BB1 := BB1.keep pp (fun e => by have := l2 _ e; omega)
        have o1 := own_keep o1 pp (fun k e e2 => (hne k e e2))
        have hne := (show ∀ k, _ = some k → (Value.slice XX (j + 1) XC).ownBlock ≠ some k from fun k e2 e => by rcases hown with h | h; (rw [h] at e; exact hne k e2 e); (rw [h] at e; cases e; have := lo _ e2; omega))
        have o2 := oo
        refine goH T_ok 200 rfl ?_
        refine endH ?_
        refine go T_ok 200 rfl ?_
        rw [e8]
        rw [hf1] at o1
        rw [hf2] at o2
        exact round ⟨(j + 1, _, _), rfl, ⟨by show j + 1 ≤ _; omega, qd, B1, B2, B10, o1, o2, hne⟩, by show _ - (j + 1) < _ - j; omega⟩
    · refine segF rfl ?_
      have l1 := fun k (e : _ = some k) => lt_own o1 (k := k) e
      refine rowE T_ok rfl rfl rfl rfl rfl rfl (cs := [I s.2]) rfl ?_
      intro gg2 w hh2 hs2 pp BB2
      have qd := qd.trans pp
      refine ⟨qd, ?_⟩
      have B1 := B1.no pp
      have B2 := B2.no pp
      have B10 := B10.no pp
      have o1 := own_no o1 pp
      have o2 := own_no o2 pp
      try have BB1 := BB1.no pp
      refine goH T_ok 200 rfl ?_
      have l2 := fun k (e : _ = some k) => lt_own o2 (k := k) e
      refine rowE T_ok rfl rfl rfl rfl rfl rfl (cs := [I s.1]) rfl ?_
      intro gg1 w hh1 hs1 pp BB1
      have qd := qd.trans pp
      refine ⟨qd, ?_⟩
      have B1 := B1.no pp
      have B2 := B2.no pp
      have B10 := B10.no pp
      have o1 := own_no o1 pp
      have o2 := own_no o2 pp
      try have BB2 := BB2.no pp
      refine goH T_ok 200 rfl ?_
      have zz := BB1.lt
      have lo := fun k (e : _ = some k) => lt_own o2 (k := k) e
      have z10 := B10.lt
      have zq := qd.size
      refine appSE T_ok rfl rfl rfl rfl rfl o1 (BB1.sl (sz := 1) (m := 1) rfl) rfl (by unfold maxLen; omega) (by omega) (by omega) ?_
      intro XX XC w oo pp hown
      have qd := qd.step pp (fun k hk e => by have := own_ge o1 e; omega)
      refine ⟨qd, ?_⟩
      have B1 := B1.keep pp (fun e => by have := own_ge o1 e; omega)
      have B2 := B2.keep pp (fun e => by have := own_ge o1 e; omega)
      have B10 := B10.keep pp (fun e => by have := own_ge o1 e; omega)
      try have BB2 := BB2.keep pp (fun e => by have := l1 _ e; omega)
      have o2 := own_keep o2 pp (fun k e e2 => (hne k e2 e))
      have hne := (show ∀ k, (Value.slice XX (j + 1) XC).ownBlock = some k → _ ≠ some k from fun k e e2 => by rcases hown with h | h; (rw [h] at e; exact hne k e e2); (rw [h] at e; cases e; have := lo _ e2; omega))
      have o1 := oo
      refine goH T_ok 200 rfl ?_
      have zz := BB2.lt
      have lo := fun k (e : _ = some k) => lt_own o1 (k := k) e
      have z10 := B10.lt
      have zq := qd.size
      refine appSE T_ok rfl rfl rfl rfl rfl o2 (BB2.sl (sz := 1) (m := 1) rfl) rfl (by unfold maxLen; omega) (by omega) (by omega) ?_
      intro XX XC w oo pp hown
      have qd := qd.step pp (fun k hk e => by have := own_ge o2 e; omega)
      refine ⟨qd, ?_⟩
      have B1 := B1.keep pp (fun e => by have := own_ge o2 e; omega)
      have B2 := B2.keep pp (fun e => by have := own_ge o2 e; omega)
      have B10 := B10.keep pp (fun e => by have := own_ge o2 e; omega)
      try have BB1 := BB1.keep pp (fun e => by have := l2 _ e; omega)
      have o1 := own_keep o1 pp (fun k e e2 => (hne k e e2))
      have hne := (show ∀ k, _ = some k → (Value.slice XX (j + 1) XC).ownBlock ≠ some k from fun k e2 e => by rcases hown with h | h; (rw [h] at e; exact hne k e2 e); (rw [h] at e; cases e; have := lo _ e2; omega))
      have o2 := oo
      refine goH T_ok 200 rfl ?_
      refine endH ?_
      refine go T_ok 200 rfl ?_
      rw [e8]
      rw [hf1] at o1
      rw [hf2] at o2
      exact round ⟨(j + 1, _, _), rfl, ⟨by show j + 1 ≤ _; omega, qd, B1, B2, B10, o1, o2, hne⟩, by show _ - (j + 1) < _ - j; omega⟩
  · have hll1 : (d.map (·.1)).length = d.length := List.length_map ..
    have hll2 : (d.map (·.2)).length = d.length := List.length_map ..
    have hjl : j = d.length := by omega
    rw [hjl, List.take_of_length_le (by omega)] at o1 o2
    rw [hjl]
    have T1 := own_slN o1
    have T2 := own_slN o2
    have hd1 : DlOk v (d.map (·.1)) := ⟨fun h hh => by obtain ⟨s, hs, rfl⟩ := List.mem_map.1 hh; have := hd.1 s hs; omega, by omega⟩
    have hd2 : DlOk v (d.map (·.2)) := ⟨fun h hh => by obtain ⟨s, hs, rfl⟩ := List.mem_map.1 hh; have := hd.1 s hs; omega, by omega⟩
    have S1 := h1.no q
    have S2 := h2.no q
    refine go T_ok 200 rfl ?_
    refine draw mixed (fun w' => Chg (fun k => k = g10) w w') ([0,1,2,3,5,6,7,8].map (fun i => (i, true)) ++ [(4, false)] ++ [(9, false)] ++ [10].map (fun i => (i, true)) ++ [(11, false)]) rfl (by kernel_rfl) ((Chg.drew _).mono (fun _ _ h => h.elim)) ?_
    have y1 := B1.lt
    refine goH T_ok 200 rfl ?_
    refine quietH rfl (fun w' hS => r_loadA T_ok rfl rfl rfl rfl (B1.keep hS (by omega)).all) ?_
    refine goH T_ok 200 rfl ?_
    refine quietH rfl (fun w' hS => r_loadA T_ok rfl rfl rfl rfl (B2.keep hS (by omega)).all) ?_
    refine goH T_ok 200 rfl ?_
    refine quietH rfl (fun w' hS => r_loadA T_ok rfl rfl rfl rfl (B1.keep hS (by omega)).all) ?_
    refine goH T_ok 200 rfl ?_
    refine quietH rfl (fun w' hS => r_loadA T_ok rfl rfl rfl rfl (B2.keep hS (by omega)).all) ?_
    refine goH T_ok 200 rfl ?_
    have qd := Chg.drew w
    have hK1 := rOpacity_any v r a (d.map (·.1)) A1 X1 c1 k1 _ _ _ hv hr hga (S1.no qd) hd1 (by rw [hll1]; exact T1.no qd)
    rw [hll1] at hK1
    refine callE rfl rfl rfl (ok _ (by decide) rfl) (hK1) ?_
    rintro x w2 ⟨rfl, q2'⟩
    have qd := qd.trans q2'
    refine ⟨qd.mono (fun _ _ h => h.elim), ?_⟩
    refine goH T_ok 200 rfl ?_
    have hK2 := rOpacity_any v r b (d.map (·.2)) A2 X2 c2 k2 _ _ _ hv hr hgb (S2.no qd) hd2 (by rw [hll2]; exact T2.no qd)
    rw [hll2] at hK2
    refine callE rfl rfl rfl (ok _ (by decide) rfl) (hK2) ?_
    rintro x w3 ⟨rfl, q3'⟩
    have qd := qd.trans q3'
    refine ⟨qd.mono (fun _ _ h => h.elim), ?_⟩
    refine goH T_ok 200 rfl ?_
    refine stAE T_ok rfl rfl rfl rfl (vs := cL (opS v r a (dnl (d.map (·.1))), opS v r b (dnl (d.map (·.2))))) rfl rfl rfl (B10.no qd) rfl ?_
    intro w4 p4 B10 hz10
    refine ⟨(qd.mono (fun _ _ h => h.elim)).trans p4, ?_⟩
    refine goH T_ok 200 rfl ?_
    refine endH ?_
    have B10 : Bk w4 g10 72 (cL (opS v r a (dnl (d.map (·.1))), opS v r b (dnl (d.map (·.2))))) := B10
    have q := (q.trans qd).step p4 (fun k hk e => by omega)
    refine go T_ok 200 rfl ?_
    exact ret (retR1 Try.results48 (resA T_ok rfl rfl rfl B10.all) ⟨rfl, q⟩)
end Go.Proofs.Ytkkjfjeniaiaiaa
