/- The contracts of opacity, Opacity, Horizon. -/
import Derived.Test.YtkkjfjeniaiaiaaC9
namespace Go.Proofs.Ytkkjfjeniaiaiaa
open Go.Ev Go.Proofs Go.Rock
attribute [local irreducible] At AtH

def sumF (d : Int → Int) (l : List Pc) : Int := l.foldl (fun s p => s + (p.u - p.a) * d p.c) 0
theorem sumF_snoc (d : Int → Int) (l : List Pc) (p : Pc) : sumF d (l ++ [p]) = sumF d l + (p.u - p.a) * d p.c := by unfold sumF; rw [List.foldl_append]; rfl
def opS (v : Vo) (r : Ra) (g : List Int) (d : Int → Int) : Int := sumF d (cutS (und v r g) (pcs v r))
/-- densities: a closure -/
def Dns (v : Vo) (d : Int → Int) (fv : Value) (B : Nat) (w0 : World) : Prop := ∃ k cap, fv = .func (.func k) #[] cap ∧ callable Try.prog k = true ∧
  ∀ c w', 0 ≤ c → c < v.nx * v.ny * v.nz → Chg (fun b => B ≤ b) w0 w' → Ret Try.prog k (.int .i64 c :: cap.toList) w' fun x w'' => x = .int .i64 (d c) ∧ Chg No w' w''
set_option maxHeartbeats 4000000 in
theorem opacity_any (v : Vo) (r : Ra) (g : List Int) (d : Int → Int) (fv : Value) (A : Option Addr) (c B : Nat) (w : World) (hv : VoOk v) (hr : RaOk r) (hg : GrOk v g) (hS : Sl w B 1 A g.length (iL g))
    (hd : ∀ c, 0 ≤ c → c < v.nx * v.ny * v.nz → 0 ≤ d c ∧ d c ≤ 10000) (hD : Dns v d fv w.heap.size w) :
    Ret Try.prog 66 [.agg (wL v r).toArray, .slice A g.length c, fv] w fun x w' => x = .int .i64 (opS v r g d) ∧ Chg No w w' := by
  obtain ⟨kf, cap, rfl, hkf, hden⟩ := hD
  refine enter Try.func66 rfl Try.ntmps66 rfl ?_
  refine go T_ok 200 rfl ?_
  refine bx rfl rfl rfl (cs := wL v r) rfl ?_
  intro g1 u1 hg1 hs1 q1 B1
  refine go T_ok 200 rfl ?_
  refine draw mixed (fun w' => Chg No u1 w') ([0,1,2,7].map (fun i => (i, true)) ++ [(3, false)] ++ [(4, false)] ++ [(5, false)] ++ [6].map (fun i => (i, true))) rfl (by kernel_rfl) (Chg.drew _) ?_
  refine goH T_ok 200 rfl ?_
  refine quietH rfl (fun w' hS => r_loadA T_ok rfl rfl rfl rfl (B1.no hS).all) ?_
  refine goH T_ok 200 rfl ?_
  refine quietH rfl (fun w' hS => r_loadA T_ok rfl rfl rfl rfl (B1.no hS).all) ?_
  refine goH T_ok 200 rfl ?_
  refine callE rfl rfl rfl (ok _ (by decide) rfl) (under_any v r A g.length c _) ?_
  rintro x w7 ⟨gG, gW, rfl, p7, G7, W7⟩
  have q67 : Chg No u1 w7 := (Chg.drew _).trans p7
  refine ⟨q67, ?_⟩
  refine goH T_ok 200 rfl ?_
  refine rowE T_ok rfl rfl rfl rfl rfl rfl (cs := [.func (.func 89) #[] #[.pointer (some ⟨gG, 0, none⟩), .pointer (some ⟨gW, 0, none⟩)]]) rfl ?_
  intro gr w8 hgr hs8 p8 R8
  refine ⟨q67.trans p8, ?_⟩
  refine goH T_ok 200 rfl ?_
  have S8 := hS.no ((q1.trans q67).trans p8)
  refine callE rfl rfl rfl (ok _ (by decide) rfl) (parts_any v r (und v r g) _ 1 1 _ hv hr (cuts_und hv hr hg R8 (G7.no p8) (W7.no p8) S8)) ?_
  rintro x w9 ⟨A9, c9, rfl, o9, p9⟩
  have q09 : Chg No u1 w9 := (q67.trans p8).trans p9
  refine ⟨q09, ?_⟩
  refine goH T_ok 200 rfl ?_
  refine endH ?_
  have hopS : opS v r g d = sumF d (cutS (und v r g) (pcs v r)) := rfl
  have hmem : ∀ p ∈ cutS (und v r g) (pcs v r), PcR v p ∧ p.a < p.u := fun p hp => by
    have := mem_cut hv hr (shr_und v r g) hp
    exact ⟨this.1, this.2.1⟩
  have hlen := cut_len r (und v r g) hv
  have S9 := own_sl o9
  have q0 := q1.trans q09
  rw [hopS]
  generalize cutS (und v r g) (pcs v r) = L at S9 hmem hlen ⊢
  refine go T_ok 200 rfl ?_
  refine loop [2, 7, 15, 16, 17] (fun j : Nat => [.func (.func kf) #[] cap, .int .i64 (sumF d (L.take j)), .slice A9 L.length c9, .int .i64 (L.length : Int), .int .i64 (j : Int)])
    (fun j w' => j ≤ L.length ∧ Chg No w9 w' ∧ 0 ≤ sumF d (L.take j) ∧ sumF d (L.take j) ≤ (j : Int) * 241920000000000) (fun j => L.length - j) 0 (fun _ => rfl) rfl ⟨by omega, Chg.refl _ _, by simp [sumF], by simp [sumF]⟩ ?_
  rintro j τ w10 ⟨hj, q10, h0, h1⟩
  refine go T_ok 200 rfl ?_
  refine condD rfl (fun hlt => ?_) (fun hlt => ?_)
  · have hlt : j < L.length := by omega
    obtain ⟨p, hp⟩ : ∃ p, L[j]? = some p := ⟨_, List.getElem?_eq_getElem hlt⟩
    obtain ⟨⟨k1, k2, k3, k4, k5, k6⟩, k7⟩ := hmem p (List.mem_of_getElem? hp)
    obtain ⟨b, o, rfl, _, hc⟩ := (S9.no q10).el pL_len hp
    have hs : sumF d (L.take (j + 1)) = sumF d (L.take j) + (p.u - p.a) * d p.c := by rw [take_snoc hp, sumF_snoc]
    obtain ⟨d0, d1⟩ := hd p.c k1 k2
    have m1 := mul_bd (a := p.u - p.a) (b := d p.c) (A := 24192000000) (B := 10000) (by omega) d0 (by omega) d1
    have e1 : w64 (p.u - p.a) = p.u - p.a := w64_id (by omega) (by omega)
    have e2 : w64 ((p.u - p.a) * d p.c) = (p.u - p.a) * d p.c := w64_id (by omega) (by omega)
    have e3 : w64 (sumF d (L.take j) + (p.u - p.a) * d p.c) = sumF d (L.take j) + (p.u - p.a) * d p.c := w64_id (by omega) (by omega)
    have e4 : w64 ((j : Int) + 1) = ((j + 1 : Nat) : Int) := w64_id (by omega) (by omega)
    refine go T_ok 200 rfl ?_
    refine idx T_ok rfl rfl rfl rfl rfl j rfl hlt ?_
    refine go T_ok 200 rfl ?_
    refine ldA T_ok rfl rfl rfl rfl rfl hc ?_
    refine go T_ok 200 rfl ?_
    refine nw rfl rfl (z := .agg #[I 0, I 0, I 0]) (by kernel_rfl) (cs := [I 0, I 0, I 0]) rfl ?_
    intro g4 u4 hg4 hs4 q4 B4
    refine go T_ok 200 rfl ?_
    refine stA T_ok rfl rfl rfl rfl (vs := pL p) rfl rfl rfl B4 rfl ?_
    intro u5 q5 B5 hs5
    have B5 : Bk u5 g4 124 (pL p) := B5
    have q45 : Chg No w10 u5 := q4.step q5 (fun k hk e => by omega)
    refine go T_ok 200 rfl ?_
    refine draw mixed (fun w' => Chg No u5 w') ([0,1,2,3,4,5,6,7,8].map (fun i => (i, true)) ++ [(9, false)] ++ [10,11,12].map (fun i => (i, true))) rfl (by kernel_rfl) (Chg.drew _) ?_
    refine goH T_ok 200 rfl ?_
    repeat (first | (refine quietH rfl (fun w' hS => r_load T_ok rfl rfl rfl (Bk.get (B5.no hS) rfl)) ?_; refine goH T_ok 200 rfl ?_))
    have hK := hden p.c u5.drew k1 k2 ((((q0.trans q10).trans q45).trans (Chg.drew _)).mono fun _ _ h => h.elim)
    refine callE rfl rfl rfl hkf hK ?_
    rintro x u6 ⟨rfl, q6⟩
    have q56 : Chg No u5 u6 := (Chg.drew _).trans q6
    refine ⟨q56, ?_⟩
    refine goH T_ok 200 rfl ?_
    rw [e1, e2, e3]
    refine endH ?_
    refine go T_ok 200 rfl ?_
    rw [e4]
    refine round ⟨j + 1, by rw [hs]; rfl, ⟨by omega, (q10.trans q45).trans q56, by omega, by omega⟩, by omega⟩
  · have hjl : j = L.length := by omega
    subst hjl
    rw [List.take_length]
    refine go T_ok 200 rfl ?_
    exact ret (ret1 (v := .int .i64 _) Try.results66 rfl ⟨rfl, q0.trans q10⟩)
def DlOk (v : Vo) (l : List Int) : Prop := (∀ h ∈ l, 0 ≤ h ∧ h ≤ 10000) ∧ (l.length : Int) = v.nx * v.ny * v.nz
instance (v : Vo) (g : List Int) : Decidable (DlOk v g) := by unfold DlOk; infer_instance
def dnl (l : List Int) (c : Int) : Int := l.getD c.toNat 0
theorem dnl_get {l : List Int} {c : Int} (h0 : 0 ≤ c) (h1 : c < l.length) : l[c.toNat]? = some (dnl l c) := by
  have hlt : c.toNat < l.length := by omega
  unfold dnl
  rw [List.getD_eq_getElem?_getD, List.getElem?_eq_getElem hlt]
  rfl
theorem dns_op {v : Vo} {l : List Int} {A : Option Addr} {c B gd : Nat} {w : World} (h1 : Bk w gd 24 [.slice A l.length c]) (hS : Sl w B 1 A l.length (iL l)) (hl : (l.length : Int) = v.nx * v.ny * v.nz) :
    Dns v (dnl l) (.func (.func 67) #[] #[.pointer (some ⟨gd, 0, none⟩)]) w.heap.size w := by
  refine ⟨67, _, rfl, ok _ (by decide) rfl, ?_⟩
  intro k w' hk0 hk1 q
  have l1 := h1.lt
  have l2 := hS.2.1
  have h1 := h1.keep q (by omega)
  have hS := hS.keep q (fun k hk e => by omega)
  obtain ⟨b, o, rfl, hb, hc⟩ := hS.elI (dnl_get hk0 (by omega))
  refine enter Try.func67 rfl Try.ntmps67 rfl ?_
  refine go T_ok 200 rfl ?_
  repeat (first | (refine ld T_ok rfl rfl rfl rfl (Bk.get h1 rfl) ?_; refine go T_ok 200 rfl ?_) | (refine guardA (b := true) rfl rfl rfl rfl (fun _ => ?_) (fun e => by cases e); refine go T_ok 200 rfl ?_) | (refine guardA (b := false) rfl rfl rfl rfl (fun e => by cases e) (fun _ => ?_); refine go T_ok 200 rfl ?_) | (refine condT rfl rfl ?_; refine go T_ok 200 rfl ?_) | (refine condF rfl rfl ?_; refine go T_ok 200 rfl ?_))
  refine idx T_ok rfl rfl rfl rfl rfl k.toNat (by omega) (by omega) ?_
  refine go T_ok 200 rfl ?_
  refine ld T_ok rfl rfl rfl rfl (hc) ?_
  refine go T_ok 200 rfl ?_
  exact ret (ret1 (v := .int .i64 _) Try.results67 rfl ⟨rfl, Chg.refl _ _⟩)
def opR (v : Vo) (r : Ra) (g l : List Int) : Int × Int := if UnOk v r g ∧ DlOk v l then (opS v r g (dnl l), 0) else (0, 2)
set_option maxHeartbeats 4000000 in
theorem Opacity_any (v : Vo) (r : Ra) (g l : List Int) (A A2 : Option Addr) (c c2 B B2 : Nat) (w : World) (hL : g.length ≤ maxLen) (hS : Sl w B 1 A g.length (iL g)) (hL2 : l.length ≤ maxLen) (hS2 : Sl w B2 1 A2 l.length (iL l)) :
    Ret Try.prog 20 [.agg (vL v).toArray, .slice A g.length c, .slice A2 l.length c2, .agg (rL r).toArray] w fun x w' => x = .tuple #[.int .i64 (opR v r g l).1, .int .i64 (opR v r g l).2] ∧ Chg No w w' := by
  have hL2 := len63 hL2
  refine enter Try.func20 rfl Try.ntmps20 rfl ?_
  refine go T_ok 200 rfl ?_
  refine bx rfl rfl rfl (cs := vL v) rfl ?_
  intro g1 u1 hg1 hs1 q1 B1
  refine go T_ok 200 rfl ?_
  refine bx rfl rfl rfl (cs := [.slice A2 l.length c2]) rfl ?_
  intro g3 u3 hg3 hs3 q3 B3
  refine go T_ok 200 rfl ?_
  refine bx rfl rfl rfl (cs := rL r) rfl ?_
  intro g2 u2 hg2 hs2 q2 B2
  have B1 := (B1.no q3).no q2
  have B3 := B3.no q2
  have q12 := (q1.trans q3).trans q2
  refine go T_ok 200 rfl ?_
  refine ldA T_ok rfl rfl rfl rfl rfl B1.all ?_
  refine go T_ok 200 rfl ?_
  refine call rfl rfl rfl (ok _ (by decide) rfl) (volume_any v _) ?_
  rintro x w1 ⟨rfl, p1⟩
  refine go T_ok 200 rfl ?_
  refine guardN rfl rfl rfl (fun hv => ?_) (fun hv => ?_)
  · have hv := of_decide_eq_false hv
    refine go T_ok 200 rfl ?_
    repeat (first | (refine guardA (b := true) rfl rfl rfl rfl (fun _ => ?_) (fun e => by cases e); refine go T_ok 200 rfl ?_) | (refine guardA (b := false) rfl rfl rfl rfl (fun e => by cases e) (fun _ => ?_); refine go T_ok 200 rfl ?_) | (refine condT rfl rfl ?_; refine go T_ok 200 rfl ?_) | (refine condF rfl rfl ?_; refine go T_ok 200 rfl ?_))
    have hR : opR v r g l = (0, 2) := by unfold opR; rw [if_neg (fun h => hv h.1.1)]
    rw [hR]
    exact ret (ret2 (v := .int .i64 0) (x := .int .i64 2) Try.results20 rfl rfl ⟨rfl, q12.trans p1⟩)
  · have hv := of_decide_eq_true hv
    refine go T_ok 200 rfl ?_
    refine ldA T_ok rfl rfl rfl rfl rfl (B2.no p1).all ?_
    refine go T_ok 200 rfl ?_
    refine call rfl rfl rfl (ok _ (by decide) rfl) (ray_any r _) ?_
    rintro x w2 ⟨rfl, p2⟩
    have B1 := (B1.no p1).no p2
    have B2 := (B2.no p1).no p2
    have B3 := (B3.no p1).no p2
    have q12 := (q12.trans p1).trans p2
    refine go T_ok 200 rfl ?_
    refine guardN rfl rfl rfl (fun hr => ?_) (fun hr => ?_)
    · have hr := of_decide_eq_false hr
      refine go T_ok 200 rfl ?_
      repeat (first | (refine guardA (b := true) rfl rfl rfl rfl (fun _ => ?_) (fun e => by cases e); refine go T_ok 200 rfl ?_) | (refine guardA (b := false) rfl rfl rfl rfl (fun e => by cases e) (fun _ => ?_); refine go T_ok 200 rfl ?_) | (refine condT rfl rfl ?_; refine go T_ok 200 rfl ?_) | (refine condF rfl rfl ?_; refine go T_ok 200 rfl ?_))
      have hR : opR v r g l = (0, 2) := by unfold opR; rw [if_neg (fun h => hr h.1.2.1)]
      rw [hR]
      exact ret (ret2 (v := .int .i64 0) (x := .int .i64 2) Try.results20 rfl rfl ⟨rfl, q12⟩)
    · have hr := of_decide_eq_true hr
      refine go T_ok 200 rfl ?_
      refine ldA T_ok rfl rfl rfl rfl rfl B1.all ?_
      refine go T_ok 200 rfl ?_
      refine call rfl rfl rfl (ok _ (by decide) rfl) (grounded_any v g A c B _ hv hL (hS.no q12)) ?_
      rintro x w3 ⟨rfl, p3⟩
      have B1 := B1.no p3
      have B2 := B2.no p3
      have B3 := B3.no p3
      have q12 := q12.trans p3
      refine go T_ok 200 rfl ?_
      refine guardN rfl rfl rfl (fun hg => ?_) (fun hg => ?_)
      · have hg := of_decide_eq_false hg
        refine go T_ok 200 rfl ?_
        repeat (first | (refine guardA (b := true) rfl rfl rfl rfl (fun _ => ?_) (fun e => by cases e); refine go T_ok 200 rfl ?_) | (refine guardA (b := false) rfl rfl rfl rfl (fun e => by cases e) (fun _ => ?_); refine go T_ok 200 rfl ?_) | (refine condT rfl rfl ?_; refine go T_ok 200 rfl ?_) | (refine condF rfl rfl ?_; refine go T_ok 200 rfl ?_))
        have hR : opR v r g l = (0, 2) := by unfold opR; rw [if_neg (fun h => hg h.1.2.2)]
        rw [hR]
        exact ret (ret2 (v := .int .i64 0) (x := .int .i64 2) Try.results20 rfl rfl ⟨rfl, q12⟩)
      · have hg := of_decide_eq_true hg
        have m1 := vo_xy hv
        have m2 := vo_xyz hv
        have e1 : w64 (v.nx * v.ny) = v.nx * v.ny := w64_id (by omega) (by omega)
        have e2 : w64 (v.nx * v.ny * v.nz) = v.nx * v.ny * v.nz := w64_id (by omega) (by omega)
        refine go T_ok 200 rfl ?_
        repeat (first | (refine ld T_ok rfl rfl rfl rfl (Bk.get B1 rfl) ?_; refine go T_ok 200 rfl ?_) | (refine ld T_ok rfl rfl rfl rfl (Bk.get B3 rfl) ?_; refine go T_ok 200 rfl ?_) | (refine guardA (b := true) rfl rfl rfl rfl (fun _ => ?_) (fun e => by cases e); refine go T_ok 200 rfl ?_) | (refine guardA (b := false) rfl rfl rfl rfl (fun e => by cases e) (fun _ => ?_); refine go T_ok 200 rfl ?_) | (refine condT rfl rfl ?_; refine go T_ok 200 rfl ?_) | (refine condF rfl rfl ?_; refine go T_ok 200 rfl ?_))
        rw [e1, e2]
        refine cond rfl (fun hl => ?_) (fun hl => ?_)
        · have hl : (l.length : Int) ≠ v.nx * v.ny * v.nz := by simpa using hl
          refine go T_ok 200 rfl ?_
          repeat (first | (refine guardA (b := true) rfl rfl rfl rfl (fun _ => ?_) (fun e => by cases e); refine go T_ok 200 rfl ?_) | (refine guardA (b := false) rfl rfl rfl rfl (fun e => by cases e) (fun _ => ?_); refine go T_ok 200 rfl ?_) | (refine condT rfl rfl ?_; refine go T_ok 200 rfl ?_) | (refine condF rfl rfl ?_; refine go T_ok 200 rfl ?_))
          have hR : opR v r g l = (0, 2) := by unfold opR; rw [if_neg (fun h => hl h.2.2)]
          rw [hR]
          exact ret (ret2 (v := .int .i64 0) (x := .int .i64 2) Try.results20 rfl rfl ⟨rfl, q12⟩)
        · have hl : (l.length : Int) = v.nx * v.ny * v.nz := by simpa using hl
          refine go T_ok 200 rfl ?_
          repeat (first | (refine ld T_ok rfl rfl rfl rfl (Bk.get B3 rfl) ?_; refine go T_ok 200 rfl ?_) | (refine guardA (b := true) rfl rfl rfl rfl (fun _ => ?_) (fun e => by cases e); refine go T_ok 200 rfl ?_) | (refine guardA (b := false) rfl rfl rfl rfl (fun e => by cases e) (fun _ => ?_); refine go T_ok 200 rfl ?_) | (refine condT rfl rfl ?_; refine go T_ok 200 rfl ?_) | (refine condF rfl rfl ?_; refine go T_ok 200 rfl ?_))
          refine loop [1, 4, 6, 7, 39, 40, 41] (fun j : Nat => [.slice A g.length c, .pointer (some ⟨g1, 0, none⟩), .pointer (some ⟨g3, 0, none⟩), .pointer (some ⟨g2, 0, none⟩), .slice A2 l.length c2, .int .i64 (l.length : Int), .int .i64 (j : Int)])
            (fun j w' => j ≤ l.length ∧ Chg No w3 w' ∧ ∀ h ∈ l.take j, 0 ≤ h ∧ h ≤ 10000) (fun j => l.length - j) 0 (fun _ => rfl) rfl ⟨by omega, Chg.refl _ _, fun a h => by simp at h⟩ ?_
          rintro j τ w4 ⟨hj, p4, hI⟩
          have S4 := (hS2.no q12).no p4
          refine go T_ok 200 rfl ?_
          refine condD rfl (fun hlt => ?_) (fun hlt => ?_)
          · have hlt : j < l.length := by omega
            obtain ⟨a, ha⟩ : ∃ a, l[j]? = some a := ⟨_, List.getElem?_eq_getElem hlt⟩
            obtain ⟨b, o, rfl, hb, hc⟩ := S4.elI ha
            refine go T_ok 200 rfl ?_
            refine idx T_ok rfl rfl rfl rfl rfl j rfl hlt ?_
            refine go T_ok 200 rfl ?_
            refine ld T_ok rfl rfl rfl rfl (hc) ?_
            refine go T_ok 200 rfl ?_
            refine call rfl rfl rfl (ok _ (by decide) rfl) (in_any _ _ _ _) ?_
            rintro x w' ⟨rfl, rfl⟩
            refine go T_ok 200 rfl ?_
            refine cond rfl (fun h => ?_) (fun h => ?_)
            · have h5 := ndT h
              refine go T_ok 200 rfl ?_
              repeat (first | (refine guardA (b := true) rfl rfl rfl rfl (fun _ => ?_) (fun e => by cases e); refine go T_ok 200 rfl ?_) | (refine guardA (b := false) rfl rfl rfl rfl (fun e => by cases e) (fun _ => ?_); refine go T_ok 200 rfl ?_) | (refine condT rfl rfl ?_; refine go T_ok 200 rfl ?_) | (refine condF rfl rfl ?_; refine go T_ok 200 rfl ?_))
              have hR : opR v r g l = (0, 2) := by unfold opR; rw [if_neg (fun h => h5 (h.2.1 a (List.mem_of_getElem? ha)))]
              rw [hR]
              exact ret (ret2 (v := .int .i64 0) (x := .int .i64 2) Try.results20 rfl rfl ⟨rfl, q12.trans p4⟩)
            · have h := ndF h
              refine go T_ok 200 rfl ?_
              have e3 : w64 ((j : Int) + 1) = ((j + 1 : Nat) : Int) := w64_id (by omega) (by omega)
              rw [e3]
              refine round ⟨j + 1, rfl, ⟨by omega, p4, fun b hb => ?_⟩, by omega⟩
              rw [take_snoc ha, List.mem_append, List.mem_singleton] at hb
              rcases hb with hb | rfl
              · exact hI b hb
              · exact h
          · have hjl : j = l.length := by omega
            subst hjl
            rw [List.take_length] at hI
            refine go T_ok 200 rfl ?_
            refine ldA T_ok rfl rfl rfl rfl rfl (B1.no p4).all ?_
            refine go T_ok 200 rfl ?_
            refine ldA T_ok rfl rfl rfl rfl rfl (B2.no p4).all ?_
            refine go T_ok 200 rfl ?_
            refine call rfl rfl rfl (ok _ (by decide) rfl) (through_any v r _ hr) ?_
            rintro x w5 ⟨rfl, p5⟩
            refine go T_ok 200 rfl ?_
            have B5 := (B3.no p4).no p5
            have hd : ∀ c, 0 ≤ c → c < v.nx * v.ny * v.nz → 0 ≤ dnl l c ∧ dnl l c ≤ 10000 := fun c h0 h1 => hI _ (List.mem_of_getElem? (dnl_get h0 (by omega)))
            refine call rfl rfl rfl (ok _ (by decide) rfl) (opacity_any v r g (dnl l) _ A c B _ hv hr hg ((hS.no q12).no (p4.trans p5)) hd (dns_op B5 (S4.no p5) hl)) ?_
            rintro x w6 ⟨rfl, p6⟩
            refine go T_ok 200 rfl ?_
            have hR : opR v r g l = (opS v r g (dnl l), 0) := by unfold opR; rw [if_pos ⟨⟨hv, hr, hg⟩, hI, hl⟩]
            rw [hR]
            exact ret (ret2 (v := .int .i64 _) (x := .int .i64 0) Try.results20 rfl rfl ⟨rfl, ((q12.trans p4).trans p5).trans p6⟩)
/-! ### Horizon -/
def rz (r : Ra) (d : Int) : Ra := { r with dz := d }
theorem rz_ok {r : Ra} {d : Int} (hr : RaOk r) (h : r.dx ≠ 0 ∨ r.dy ≠ 0) (h1 : -60 ≤ d) (h2 : d ≤ 60) : RaOk (rz r d) := by
  unfold RaOk at hr ⊢
  exact ⟨hr.1, hr.2.1, hr.2.2.1, hr.2.2.2.1, hr.2.2.2.2.1, ⟨h1, h2⟩, by rcases h with h | h; exact .inl h; exact .inr (.inl h)⟩
def clr (v : Vo) (r : Ra) (g : List Int) (d : Int) : Bool := (cutS (und v (rz r d) g) (pcs v (rz r d))).isEmpty
def hzI (p : Int → Bool) : Nat → Int → Int
  | 0, out => out
  | n + 1, out => if p (out - 1) = true then hzI p n (out - 1) else out
def HzOk (v : Vo) (r : Ra) (g : List Int) : Prop := UnOk v r g ∧ (r.dx ≠ 0 ∨ r.dy ≠ 0)
instance (v : Vo) (r : Ra) (g : List Int) : Decidable (HzOk v r g) := by unfold HzOk; infer_instance
def hzn (v : Vo) (r : Ra) (g : List Int) : Int := hzI (clr v r g) 121 61
def hzR (v : Vo) (r : Ra) (g : List Int) : Int × Int := if HzOk v r g then (if 60 < hzn v r g then (0, 5) else (hzn v r g, 0)) else (0, 2)
set_option maxHeartbeats 4000000 in
theorem Horizon_any (v : Vo) (r : Ra) (g : List Int) (A : Option Addr) (c B : Nat) (w : World) (hL : g.length ≤ maxLen) (hS : Sl w B 1 A g.length (iL g)) :
    Ret Try.prog 36 [.agg (vL v).toArray, .slice A g.length c, .agg (rL r).toArray] w fun x w' => x = .tuple #[.int .i64 (hzR v r g).1, .int .i64 (hzR v r g).2] ∧ Chg No w w' := by
  refine enter Try.func36 rfl Try.ntmps36 rfl ?_
  refine go T_ok 200 rfl ?_
  refine bx rfl rfl rfl (cs := vL v) rfl ?_
  intro g1 u1 hg1 hs1 q1 B1
  refine go T_ok 200 rfl ?_
  refine bx rfl rfl rfl (cs := rL r) rfl ?_
  intro g2 u2 hg2 hs2 q2 B2
  have B1 := B1.no q2
  have q12 := q1.trans q2
  refine go T_ok 200 rfl ?_
  refine ldA T_ok rfl rfl rfl rfl rfl B1.all ?_
  refine go T_ok 200 rfl ?_
  refine call rfl rfl rfl (ok _ (by decide) rfl) (volume_any v _) ?_
  rintro x w1 ⟨rfl, p1⟩
  refine go T_ok 200 rfl ?_
  refine guardN rfl rfl rfl (fun hv => ?_) (fun hv => ?_)
  · have hv := of_decide_eq_false hv
    refine go T_ok 200 rfl ?_
    repeat (first | (refine guardA (b := true) rfl rfl rfl rfl (fun _ => ?_) (fun e => by cases e); refine go T_ok 200 rfl ?_) | (refine guardA (b := false) rfl rfl rfl rfl (fun e => by cases e) (fun _ => ?_); refine go T_ok 200 rfl ?_) | (refine condT rfl rfl ?_; refine go T_ok 200 rfl ?_) | (refine condF rfl rfl ?_; refine go T_ok 200 rfl ?_))
    have hR : hzR v r g = (0, 2) := by unfold hzR; rw [if_neg (fun h => hv h.1.1)]
    rw [hR]
    exact ret (ret2 (v := .int .i64 0) (x := .int .i64 2) Try.results36 rfl rfl ⟨rfl, q12.trans p1⟩)
  · have hv := of_decide_eq_true hv
    refine go T_ok 200 rfl ?_
    refine ldA T_ok rfl rfl rfl rfl rfl (B2.no p1).all ?_
    refine go T_ok 200 rfl ?_
    refine call rfl rfl rfl (ok _ (by decide) rfl) (ray_any r _) ?_
    rintro x w2 ⟨rfl, p2⟩
    have B1 := (B1.no p1).no p2
    have B2 := (B2.no p1).no p2
    have q12 := (q12.trans p1).trans p2
    refine go T_ok 200 rfl ?_
    refine guardN rfl rfl rfl (fun hr => ?_) (fun hr => ?_)
    · have hr := of_decide_eq_false hr
      refine go T_ok 200 rfl ?_
      repeat (first | (refine guardA (b := true) rfl rfl rfl rfl (fun _ => ?_) (fun e => by cases e); refine go T_ok 200 rfl ?_) | (refine guardA (b := false) rfl rfl rfl rfl (fun e => by cases e) (fun _ => ?_); refine go T_ok 200 rfl ?_) | (refine condT rfl rfl ?_; refine go T_ok 200 rfl ?_) | (refine condF rfl rfl ?_; refine go T_ok 200 rfl ?_))
      have hR : hzR v r g = (0, 2) := by unfold hzR; rw [if_neg (fun h => hr h.1.2.1)]
      rw [hR]
      exact ret (ret2 (v := .int .i64 0) (x := .int .i64 2) Try.results36 rfl rfl ⟨rfl, q12⟩)
    · have hr := of_decide_eq_true hr
      refine go T_ok 200 rfl ?_
      refine ldA T_ok rfl rfl rfl rfl rfl B1.all ?_
      refine go T_ok 200 rfl ?_
      refine call rfl rfl rfl (ok _ (by decide) rfl) (grounded_any v g A c B _ hv hL (hS.no q12)) ?_
      rintro x w3 ⟨rfl, p3⟩
      have B1 := B1.no p3
      have B2 := B2.no p3
      have q12 := q12.trans p3
      refine go T_ok 200 rfl ?_
      refine guardN rfl rfl rfl (fun hg => ?_) (fun hg => ?_)
      · have hg := of_decide_eq_false hg
        refine go T_ok 200 rfl ?_
        repeat (first | (refine guardA (b := true) rfl rfl rfl rfl (fun _ => ?_) (fun e => by cases e); refine go T_ok 200 rfl ?_) | (refine guardA (b := false) rfl rfl rfl rfl (fun e => by cases e) (fun _ => ?_); refine go T_ok 200 rfl ?_) | (refine condT rfl rfl ?_; refine go T_ok 200 rfl ?_) | (refine condF rfl rfl ?_; refine go T_ok 200 rfl ?_))
        have hR : hzR v r g = (0, 2) := by unfold hzR; rw [if_neg (fun h => hg h.1.2.2)]
        rw [hR]
        exact ret (ret2 (v := .int .i64 0) (x := .int .i64 2) Try.results36 rfl rfl ⟨rfl, q12⟩)
      · have hg := of_decide_eq_true hg
        refine go T_ok 200 rfl ?_
        repeat (first | (refine ld T_ok rfl rfl rfl rfl (Bk.get B2 rfl) ?_; refine go T_ok 200 rfl ?_) | (refine guardA (b := true) rfl rfl rfl rfl (fun _ => ?_) (fun e => by cases e); refine go T_ok 200 rfl ?_) | (refine guardA (b := false) rfl rfl rfl rfl (fun e => by cases e) (fun _ => ?_); refine go T_ok 200 rfl ?_) | (refine condT rfl rfl ?_; refine go T_ok 200 rfl ?_) | (refine condF rfl rfl ?_; refine go T_ok 200 rfl ?_))
        refine guard rfl rfl rfl (fun hx => ?_) (fun hx => ?_)
        · have hx : r.dx = 0 := by simpa using hx
          refine go T_ok 200 rfl ?_
          repeat (first | (refine ld T_ok rfl rfl rfl rfl (Bk.get B2 rfl) ?_; refine go T_ok 200 rfl ?_) | (refine guardA (b := true) rfl rfl rfl rfl (fun _ => ?_) (fun e => by cases e); refine go T_ok 200 rfl ?_) | (refine guardA (b := false) rfl rfl rfl rfl (fun e => by cases e) (fun _ => ?_); refine go T_ok 200 rfl ?_) | (refine condT rfl rfl ?_; refine go T_ok 200 rfl ?_) | (refine condF rfl rfl ?_; refine go T_ok 200 rfl ?_))
          refine cond rfl (fun hy => ?_) (fun hy => ?_)
          · have hy : r.dy = 0 := by simpa using hy
            refine go T_ok 200 rfl ?_
            repeat (first | (refine guardA (b := true) rfl rfl rfl rfl (fun _ => ?_) (fun e => by cases e); refine go T_ok 200 rfl ?_) | (refine guardA (b := false) rfl rfl rfl rfl (fun e => by cases e) (fun _ => ?_); refine go T_ok 200 rfl ?_) | (refine condT rfl rfl ?_; refine go T_ok 200 rfl ?_) | (refine condF rfl rfl ?_; refine go T_ok 200 rfl ?_))
            have hR : hzR v r g = (0, 2) := by unfold hzR; rw [if_neg (fun h => (by rcases h.2 with h | h <;> omega))]
            rw [hR]
            exact ret (ret2 (v := .int .i64 0) (x := .int .i64 2) Try.results36 rfl rfl ⟨rfl, q12⟩)
          · have hxy : r.dx ≠ 0 ∨ r.dy ≠ 0 := .inr (by simpa using hy)
            refine go T_ok 200 rfl ?_
            repeat (first | (refine guardA (b := true) rfl rfl rfl rfl (fun _ => ?_) (fun e => by cases e); refine go T_ok 200 rfl ?_) | (refine guardA (b := false) rfl rfl rfl rfl (fun e => by cases e) (fun _ => ?_); refine go T_ok 200 rfl ?_) | (refine condT rfl rfl ?_; refine go T_ok 200 rfl ?_) | (refine condF rfl rfl ?_; refine go T_ok 200 rfl ?_))
            refine loop [1, 3, 5, 8] (fun n : Nat => [.slice A g.length c, .pointer (some ⟨g1, 0, none⟩), .pointer (some ⟨g2, 0, none⟩), .int .i64 ((n : Int) - 60)])
              (fun n w' => n ≤ 121 ∧ Chg No w w' ∧ Bk w' g1 23 (vL v) ∧ (∃ d, Bk w' g2 26 (rL (rz r d))) ∧ hzn v r g = hzI (clr v r g) n ((n : Int) - 60)) (fun n => n) 121 (fun _ => rfl) rfl ⟨by omega, q12, B1, ⟨r.dz, B2⟩, rfl⟩ ?_
            rintro n τ w4 ⟨hn, q4, B1, ⟨d0, B2⟩, hz⟩
            refine go T_ok 200 rfl ?_
            refine condD rfl (fun hlt => ?_) (fun hlt => ?_)
            · obtain ⟨m, rfl⟩ : ∃ m, n = m + 1 := ⟨n - 1, by omega⟩
              obtain ⟨d, hd⟩ : ∃ d : Int, ((m + 1 : Nat) : Int) - 60 - 1 = d := ⟨_, rfl⟩
              have e1 : w64 (((m + 1 : Nat) : Int) - 60 - 1) = d := by rw [hd]; exact w64_id (by omega) (by omega)
              have hdr := rz_ok (d := d) hr hxy (by omega) (by omega)
              have hne : g1 ≠ g2 := by have := q1.size; omega
              refine go T_ok 200 rfl ?_
              rw [e1]
              refine st T_ok rfl rfl rfl rfl (v := .int .i64 d) rfl rfl B2 rfl ?_
              intro w5 p5 B5 hs5
              have B5 : Bk w5 g2 26 (rL (rz r d)) := B5
              have B1 := B1.keep p5 hne
              have q5 : Chg No w w5 := q4.step p5 (fun k hk e => by have := q1.size; omega)
              refine go T_ok 200 rfl ?_
              refine ldA T_ok rfl rfl rfl rfl rfl B1.all ?_
              refine go T_ok 200 rfl ?_
              refine ldA T_ok rfl rfl rfl rfl rfl B5.all ?_
              refine go T_ok 200 rfl ?_
              refine call rfl rfl rfl (ok _ (by decide) rfl) (through_any v (rz r d) _ hdr) ?_
              rintro x w6 ⟨rfl, p6⟩
              refine go T_ok 200 rfl ?_
              refine nw rfl rfl (z := .agg #[I 0, I 0, I 0, I 0, I 0, I 0, I 0, I 0, I 0, I 0, I 0, I 0, I 0, I 0]) (by kernel_rfl) (cs := [I 0, I 0, I 0, I 0, I 0, I 0, I 0, I 0, I 0, I 0, I 0, I 0, I 0, I 0]) rfl ?_
              intro g7 w7 hg7 hs7 p7 B7
              refine go T_ok 200 rfl ?_
              refine stA T_ok rfl rfl rfl rfl (vs := wL v (rz r d)) rfl rfl rfl B7 rfl ?_
              intro w8 p8 B8 hs8
              have B8 : Bk w8 g7 103 (wL v (rz r d)) := B8
              have q58 : Chg No w5 w8 := (p6.trans p7).step p8 (fun k hk e => by have := p6.size; omega)
              refine go T_ok 200 rfl ?_
              refine draw mixed (fun w' => Chg No w8 w') ([0,1,2].map (fun i => (i, true)) ++ [(3, false)] ++ [(4, false)] ++ [(5, false)] ++ [6,7].map (fun i => (i, true))) rfl (by kernel_rfl) (Chg.drew _) ?_
              refine goH T_ok 200 rfl ?_
              refine quietH rfl (fun w' hS => r_loadA T_ok rfl rfl rfl rfl (B8.no hS).all) ?_
              refine goH T_ok 200 rfl ?_
              refine quietH rfl (fun w' hS => r_loadA T_ok rfl rfl rfl rfl (B8.no hS).all) ?_
              refine goH T_ok 200 rfl ?_
              refine callE rfl rfl rfl (ok _ (by decide) rfl) (under_any v (rz r d) A g.length c _) ?_
              rintro x w9 ⟨gG, gW, rfl, p9, G9, W9⟩
              have q89 : Chg No w8 w9 := (Chg.drew _).trans p9
              refine ⟨q89, ?_⟩
              refine goH T_ok 200 rfl ?_
              refine rowE T_ok rfl rfl rfl rfl rfl rfl (cs := [.func (.func 89) #[] #[.pointer (some ⟨gG, 0, none⟩), .pointer (some ⟨gW, 0, none⟩)]]) rfl ?_
              intro gr w10 hgr hs10 p10 R10
              refine ⟨q89.trans p10, ?_⟩
              refine goH T_ok 200 rfl ?_
              have S10 := hS.no ((q5.trans q58).trans (q89.trans p10))
              refine callE rfl rfl rfl (ok _ (by decide) rfl) (parts_any v (rz r d) (und v (rz r d) g) _ 1 1 _ hv hdr (cuts_und hv hdr hg R10 (G9.no p10) (W9.no p10) S10)) ?_
              rintro x w11 ⟨A11, c11, rfl, o11, p11⟩
              have q811 : Chg No w8 w11 := (q89.trans p10).trans p11
              refine ⟨q811, ?_⟩
              refine goH T_ok 200 rfl ?_
              refine endH ?_
              have q11 := (q5.trans q58).trans q811
              have q511 := q58.trans q811
              have hstep : hzn v r g = if clr v r g d = true then hzI (clr v r g) m d else d + 1 := by
                rw [hz]
                show (if clr v r g (((m + 1 : Nat) : Int) - 60 - 1) = true then hzI (clr v r g) m (((m + 1 : Nat) : Int) - 60 - 1) else ((m + 1 : Nat) : Int) - 60) = _
                rw [hd]
                congr 1
                omega
              have hclr : clr v r g d = decide ((cutS (und v (rz r d) g) (pcs v (rz r d))).length = 0) := by
                unfold clr
                generalize cutS (und v (rz r d) g) (pcs v (rz r d)) = L
                cases L <;> simp
              generalize cutS (und v (rz r d) g) (pcs v (rz r d)) = L at hclr ⊢
              refine go T_ok 200 rfl ?_
              refine condD rfl (fun h0 => ?_) (fun h0 => ?_)
              · have hc : clr v r g d = false := by rw [hclr]; exact decide_eq_false (by omega)
                rw [hc, if_neg (by simp)] at hstep
                refine go T_ok 200 rfl ?_
                have hzz : hzn v r g = (((m + 1 : Nat) : Int) - 60) := (by rw [hstep]; omega)
                refine condD rfl (fun h9 => ?_) (fun h9 => ?_)
                · have hR : hzR v r g = (0, 5) := by unfold hzR; rw [if_pos ⟨⟨hv, hr, hg⟩, hxy⟩, if_pos (by omega)]
                  rw [hR]
                  refine go T_ok 200 rfl ?_
                  exact ret (ret2 (v := .int .i64 0) (x := .int .i64 5) Try.results36 rfl rfl ⟨rfl, q11⟩)
                · have hR : hzR v r g = ((((m + 1 : Nat) : Int) - 60), 0) := by unfold hzR; rw [if_pos ⟨⟨hv, hr, hg⟩, hxy⟩, if_neg (by omega), hzz]
                  rw [hR]
                  refine go T_ok 200 rfl ?_
                  exact ret (ret2 (v := .int .i64 _) (x := .int .i64 0) Try.results36 rfl rfl ⟨rfl, q11⟩)
              · have hc : clr v r g d = true := by rw [hclr]; exact decide_eq_true (by omega)
                rw [if_pos hc] at hstep
                refine go T_ok 200 rfl ?_
                rw [e1]
                have hd' : d = (m : Int) - 60 := by omega
                rw [hd'] at hstep B5 ⊢
                exact round ⟨m, rfl, ⟨by omega, q11, B1.no q511, ⟨_, B5.no q511⟩, hstep⟩, by omega⟩
            · have hn0 : n = 0 := by omega
              subst hn0
              have hz : hzn v r g = ((0 : Nat) : Int) - 60 := hz
              refine go T_ok 200 rfl ?_
              have hzz : hzn v r g = (((0 : Nat) : Int) - 60) := hz
              refine condD rfl (fun h9 => ?_) (fun h9 => ?_)
              · have hR : hzR v r g = (0, 5) := by unfold hzR; rw [if_pos ⟨⟨hv, hr, hg⟩, hxy⟩, if_pos (by omega)]
                rw [hR]
                refine go T_ok 200 rfl ?_
                exact ret (ret2 (v := .int .i64 0) (x := .int .i64 5) Try.results36 rfl rfl ⟨rfl, q4⟩)
              · have hR : hzR v r g = ((((0 : Nat) : Int) - 60), 0) := by unfold hzR; rw [if_pos ⟨⟨hv, hr, hg⟩, hxy⟩, if_neg (by omega), hzz]
                rw [hR]
                refine go T_ok 200 rfl ?_
                exact ret (ret2 (v := .int .i64 _) (x := .int .i64 0) Try.results36 rfl rfl ⟨rfl, q4⟩)
        · have hxy : r.dx ≠ 0 ∨ r.dy ≠ 0 := .inl (by simpa using hx)
          refine go T_ok 200 rfl ?_
          repeat (first | (refine guardA (b := true) rfl rfl rfl rfl (fun _ => ?_) (fun e => by cases e); refine go T_ok 200 rfl ?_) | (refine guardA (b := false) rfl rfl rfl rfl (fun e => by cases e) (fun _ => ?_); refine go T_ok 200 rfl ?_) | (refine condT rfl rfl ?_; refine go T_ok 200 rfl ?_) | (refine condF rfl rfl ?_; refine go T_ok 200 rfl ?_))
          refine loop [1, 3, 5, 8] (fun n : Nat => [.slice A g.length c, .pointer (some ⟨g1, 0, none⟩), .pointer (some ⟨g2, 0, none⟩), .int .i64 ((n : Int) - 60)])
            (fun n w' => n ≤ 121 ∧ Chg No w w' ∧ Bk w' g1 23 (vL v) ∧ (∃ d, Bk w' g2 26 (rL (rz r d))) ∧ hzn v r g = hzI (clr v r g) n ((n : Int) - 60)) (fun n => n) 121 (fun _ => rfl) rfl ⟨by omega, q12, B1, ⟨r.dz, B2⟩, rfl⟩ ?_
          rintro n τ w4 ⟨hn, q4, B1, ⟨d0, B2⟩, hz⟩
          refine go T_ok 200 rfl ?_
          refine condD rfl (fun hlt => ?_) (fun hlt => ?_)
          · obtain ⟨m, rfl⟩ : ∃ m, n = m + 1 := ⟨n - 1, by omega⟩
            obtain ⟨d, hd⟩ : ∃ d : Int, ((m + 1 : Nat) : Int) - 60 - 1 = d := ⟨_, rfl⟩
            have e1 : w64 (((m + 1 : Nat) : Int) - 60 - 1) = d := by rw [hd]; exact w64_id (by omega) (by omega)
            have hdr := rz_ok (d := d) hr hxy (by omega) (by omega)
            have hne : g1 ≠ g2 := by have := q1.size; omega
            refine go T_ok 200 rfl ?_
            rw [e1]
            refine st T_ok rfl rfl rfl rfl (v := .int .i64 d) rfl rfl B2 rfl ?_
            intro w5 p5 B5 hs5
            have B5 : Bk w5 g2 26 (rL (rz r d)) := B5
            have B1 := B1.keep p5 hne
            have q5 : Chg No w w5 := q4.step p5 (fun k hk e => by have := q1.size; omega)
            refine go T_ok 200 rfl ?_
            refine ldA T_ok rfl rfl rfl rfl rfl B1.all ?_
            refine go T_ok 200 rfl ?_
            refine ldA T_ok rfl rfl rfl rfl rfl B5.all ?_
            refine go T_ok 200 rfl ?_
            refine call rfl rfl rfl (ok _ (by decide) rfl) (through_any v (rz r d) _ hdr) ?_
            rintro x w6 ⟨rfl, p6⟩
            refine go T_ok 200 rfl ?_
            refine nw rfl rfl (z := .agg #[I 0, I 0, I 0, I 0, I 0, I 0, I 0, I 0, I 0, I 0, I 0, I 0, I 0, I 0]) (by kernel_rfl) (cs := [I 0, I 0, I 0, I 0, I 0, I 0, I 0, I 0, I 0, I 0, I 0, I 0, I 0, I 0]) rfl ?_
            intro g7 w7 hg7 hs7 p7 B7
            refine go T_ok 200 rfl ?_
            refine stA T_ok rfl rfl rfl rfl (vs := wL v (rz r d)) rfl rfl rfl B7 rfl ?_
            intro w8 p8 B8 hs8
            have B8 : Bk w8 g7 103 (wL v (rz r d)) := B8
            have q58 : Chg No w5 w8 := (p6.trans p7).step p8 (fun k hk e => by have := p6.size; omega)
            refine go T_ok 200 rfl ?_
            refine draw mixed (fun w' => Chg No w8 w') ([0,1,2].map (fun i => (i, true)) ++ [(3, false)] ++ [(4, false)] ++ [(5, false)] ++ [6,7].map (fun i => (i, true))) rfl (by kernel_rfl) (Chg.drew _) ?_
            refine goH T_ok 200 rfl ?_
            refine quietH rfl (fun w' hS => r_loadA T_ok rfl rfl rfl rfl (B8.no hS).all) ?_
            refine goH T_ok 200 rfl ?_
            refine quietH rfl (fun w' hS => r_loadA T_ok rfl rfl rfl rfl (B8.no hS).all) ?_
            refine goH T_ok 200 rfl ?_
            refine callE rfl rfl rfl (ok _ (by decide) rfl) (under_any v (rz r d) A g.length c _) ?_
            rintro x w9 ⟨gG, gW, rfl, p9, G9, W9⟩
            have q89 : Chg No w8 w9 := (Chg.drew _).trans p9
            refine ⟨q89, ?_⟩
            refine goH T_ok 200 rfl ?_
            refine rowE T_ok rfl rfl rfl rfl rfl rfl (cs := [.func (.func 89) #[] #[.pointer (some ⟨gG, 0, none⟩), .pointer (some ⟨gW, 0, none⟩)]]) rfl ?_
            intro gr w10 hgr hs10 p10 R10
            refine ⟨q89.trans p10, ?_⟩
            refine goH T_ok 200 rfl ?_
            have S10 := hS.no ((q5.trans q58).trans (q89.trans p10))
            refine callE rfl rfl rfl (ok _ (by decide) rfl) (parts_any v (rz r d) (und v (rz r d) g) _ 1 1 _ hv hdr (cuts_und hv hdr hg R10 (G9.no p10) (W9.no p10) S10)) ?_
            rintro x w11 ⟨A11, c11, rfl, o11, p11⟩
            have q811 : Chg No w8 w11 := (q89.trans p10).trans p11
            refine ⟨q811, ?_⟩
            refine goH T_ok 200 rfl ?_
            refine endH ?_
            have q11 := (q5.trans q58).trans q811
            have q511 := q58.trans q811
            have hstep : hzn v r g = if clr v r g d = true then hzI (clr v r g) m d else d + 1 := by
              rw [hz]
              show (if clr v r g (((m + 1 : Nat) : Int) - 60 - 1) = true then hzI (clr v r g) m (((m + 1 : Nat) : Int) - 60 - 1) else ((m + 1 : Nat) : Int) - 60) = _
              rw [hd]
              congr 1
              omega
            have hclr : clr v r g d = decide ((cutS (und v (rz r d) g) (pcs v (rz r d))).length = 0) := by
              unfold clr
              generalize cutS (und v (rz r d) g) (pcs v (rz r d)) = L
              cases L <;> simp
            generalize cutS (und v (rz r d) g) (pcs v (rz r d)) = L at hclr ⊢
            refine go T_ok 200 rfl ?_
            refine condD rfl (fun h0 => ?_) (fun h0 => ?_)
            · have hc : clr v r g d = false := by rw [hclr]; exact decide_eq_false (by omega)
              rw [hc, if_neg (by simp)] at hstep
              refine go T_ok 200 rfl ?_
              have hzz : hzn v r g = (((m + 1 : Nat) : Int) - 60) := (by rw [hstep]; omega)
              refine condD rfl (fun h9 => ?_) (fun h9 => ?_)
              · have hR : hzR v r g = (0, 5) := by unfold hzR; rw [if_pos ⟨⟨hv, hr, hg⟩, hxy⟩, if_pos (by omega)]
                rw [hR]
                refine go T_ok 200 rfl ?_
                exact ret (ret2 (v := .int .i64 0) (x := .int .i64 5) Try.results36 rfl rfl ⟨rfl, q11⟩)
              · have hR : hzR v r g = ((((m + 1 : Nat) : Int) - 60), 0) := by unfold hzR; rw [if_pos ⟨⟨hv, hr, hg⟩, hxy⟩, if_neg (by omega), hzz]
                rw [hR]
                refine go T_ok 200 rfl ?_
                exact ret (ret2 (v := .int .i64 _) (x := .int .i64 0) Try.results36 rfl rfl ⟨rfl, q11⟩)
            · have hc : clr v r g d = true := by rw [hclr]; exact decide_eq_true (by omega)
              rw [if_pos hc] at hstep
              refine go T_ok 200 rfl ?_
              rw [e1]
              have hd' : d = (m : Int) - 60 := by omega
              rw [hd'] at hstep B5 ⊢
              exact round ⟨m, rfl, ⟨by omega, q11, B1.no q511, ⟨_, B5.no q511⟩, hstep⟩, by omega⟩
          · have hn0 : n = 0 := by omega
            subst hn0
            have hz : hzn v r g = ((0 : Nat) : Int) - 60 := hz
            refine go T_ok 200 rfl ?_
            have hzz : hzn v r g = (((0 : Nat) : Int) - 60) := hz
            refine condD rfl (fun h9 => ?_) (fun h9 => ?_)
            · have hR : hzR v r g = (0, 5) := by unfold hzR; rw [if_pos ⟨⟨hv, hr, hg⟩, hxy⟩, if_pos (by omega)]
              rw [hR]
              refine go T_ok 200 rfl ?_
              exact ret (ret2 (v := .int .i64 0) (x := .int .i64 5) Try.results36 rfl rfl ⟨rfl, q4⟩)
            · have hR : hzR v r g = ((((0 : Nat) : Int) - 60), 0) := by unfold hzR; rw [if_pos ⟨⟨hv, hr, hg⟩, hxy⟩, if_neg (by omega), hzz]
              rw [hR]
              refine go T_ok 200 rfl ?_
              exact ret (ret2 (v := .int .i64 _) (x := .int .i64 0) Try.results36 rfl rfl ⟨rfl, q4⟩)
end Go.Proofs.Ytkkjfjeniaiaiaa
