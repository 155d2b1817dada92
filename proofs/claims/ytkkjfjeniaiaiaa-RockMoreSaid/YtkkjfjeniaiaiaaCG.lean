/- The contract of Fits. -/
import Derived.Test.YtkkjfjeniaiaiaaCE
import Derived.Test.YtkkjfjeniaiaiaaE5
namespace Go.Proofs.Ytkkjfjeniaiaiaa
open Go.Ev Go.Proofs Go.Rock
attribute [local irreducible] At AtH
def gI (g : List Int) (i : Nat) : Int := g.getD i 0
theorem gI_get {g : List Int} {i : Nat} (h : i < g.length) : g[i]? = some (gI g i) := by
  unfold gI
  rw [List.getD_eq_getElem?_getD, List.getElem?_eq_getElem h]
  rfl
/-- the neighbour, east or north -/
def nbr (v : Vo) (i n : Nat) : Nat := if n = 0 then i + 1 else i + v.nx.toNat
/-- there is one, and the step is not too high, or there is none -/
def stOk (v : Vo) (st : Int) (g : List Int) (i n : Nat) : Prop := (n = 0 ∧ nbr v i n % v.nx.toNat = 0) ∨ g.length ≤ nbr v i n ∨ absI (gI g i - gI g (nbr v i n)) ≤ st
def suOk (g : List Int) (s : Su) : Prop := s.lo ≤ gI g s.col.toNat ∧ gI g s.col.toNat ≤ s.hi
def FtOk (v : Vo) (st : Int) (l : List Su) (g : List Int) : Prop := (∀ s ∈ l, suOk g s) ∧ ∀ i n, i < g.length → n < 2 → stOk v st g i n
open Classical in
noncomputable def ftR (v : Vo) (st : Int) (l : List Su) (g : List Int) : Bool × Int := if wrE v st l ≠ 0 then (false, wrE v st l) else if ¬ GrOk v g then (false, 2) else (decide (FtOk v st l g), 0)
theorem ftR_no {v : Vo} {st : Int} {l : List Su} {g : List Int} (h1 : wrE v st l = 0) (h2 : GrOk v g) (h : ¬ FtOk v st l g) : ftR v st l g = (false, 0) := by
  unfold ftR
  rw [if_neg (by omega), if_neg (by simpa using h2)]
  simp [h]
theorem ftR_yes {v : Vo} {st : Int} {l : List Su} {g : List Int} (h1 : wrE v st l = 0) (h2 : GrOk v g) (h : FtOk v st l g) : ftR v st l g = (true, 0) := by
  unfold ftR
  rw [if_neg (by omega), if_neg (by simpa using h2)]
  simp [h]
set_option maxRecDepth 20000 in
set_option maxHeartbeats 8000000 in
theorem Fits_any (v : Vo) (st : Int) (l : List Su) (g : List Int) (A A2 : Option Addr) (c c2 B Bn : Nat) (w0 : World) (hL : l.length ≤ maxLen) (hS : Sl w0 B 3 A l.length (l.flatMap sL)) (hL2 : g.length ≤ maxLen) (hS2 : Sl w0 Bn 1 A2 g.length (iL g)) :
    Ret Try.prog 53 [.agg (vL v).toArray, .int .i64 st, .slice A l.length c, .slice A2 g.length c2] w0 fun x w' => x = .tuple #[.bool (ftR v st l g).1, .int .i64 (ftR v st l g).2] ∧ Chg No w0 w' := by
  refine enter Try.func53 rfl Try.ntmps53 rfl ?_
  refine go T_ok 200 rfl ?_
  refine bx rfl rfl rfl (cs := vL v) rfl ?_
  intro g1 u1 hg1 hs1 q1 B1
  refine go T_ok 200 rfl ?_
  refine ldA T_ok rfl rfl rfl rfl rfl B1.all ?_
  refine go T_ok 200 rfl ?_
  refine nw rfl rfl (z := .agg #[I 0, I 0, I 0, I 0, I 0, .slice none 0 0]) (by kernel_rfl) (cs := [I 0, I 0, I 0, I 0, I 0, .slice none 0 0]) rfl ?_
  intro g2 u2 hg2 hs2 q2 B2
  refine go T_ok 200 rfl ?_
  refine stA T_ok rfl rfl rfl rfl (vs := ldL v st A l.length c) rfl rfl rfl B2 rfl ?_
  intro u3 q3 B3 hs3
  have B3 : Bk u3 g2 115 (ldL v st A l.length c) := B3
  have B1 := (B1.no q2).keep q3 (by omega)
  have q : Chg No w0 u3 := (q1.trans q2).step q3 (fun k hk e => by have := q1.size; omega)
  have S1 := hS.no q
  have S2 := hS2.no q
  refine go T_ok 200 rfl ?_
  refine ldA T_ok rfl rfl rfl rfl rfl B3.all ?_
  refine go T_ok 200 rfl ?_
  refine call rfl rfl rfl (ok _ (by decide) rfl) (wrong_any v st l A c B _ hL S1) ?_
  rintro x w ⟨rfl, qk⟩
  have B1 := B1.no qk
  have B3 := B3.no qk
  have S1 := S1.no qk
  have S2 := S2.no qk
  have q := q.trans qk
  refine go T_ok 200 rfl ?_
  refine cond rfl (fun he => ?_) (fun he => ?_)
  · have he : wrE v st l ≠ 0 := by simpa using he
    have hR : ftR v st l g = (false, wrE v st l) := by unfold ftR; rw [if_pos he]
    rw [hR]
    refine go T_ok 200 rfl ?_
    exact ret (ret2 (v := .bool false) (x := .int .i64 _) Try.results53 rfl rfl ⟨rfl, q⟩)
  have he : wrE v st l = 0 := by simpa using he
  obtain ⟨h50, hv, hl⟩ := wrE_ok he
  refine go T_ok 200 rfl ?_
  repeat (first | (refine ldA T_ok rfl rfl rfl rfl rfl (Bk.all B1) ?_; refine go T_ok 200 rfl ?_) | (refine ldA T_ok rfl rfl rfl rfl rfl (Bk.all B3) ?_; refine go T_ok 200 rfl ?_) | (refine ld T_ok rfl rfl rfl rfl (Bk.get B1 rfl) ?_; refine go T_ok 200 rfl ?_) | (refine ld T_ok rfl rfl rfl rfl (Bk.get B3 rfl) ?_; refine go T_ok 200 rfl ?_) | (refine guardA (b := true) rfl rfl rfl rfl (fun _ => ?_) (fun e => by cases e); refine go T_ok 200 rfl ?_) | (refine guardA (b := false) rfl rfl rfl rfl (fun e => by cases e) (fun _ => ?_); refine go T_ok 200 rfl ?_) | (refine condT rfl rfl ?_; refine go T_ok 200 rfl ?_) | (refine condF rfl rfl ?_; refine go T_ok 200 rfl ?_))
  refine call rfl rfl rfl (ok _ (by decide) rfl) (grounded_any v g A2 c2 _ _ hv hL2 S2) ?_
  rintro x w ⟨rfl, qk⟩
  have B1 := B1.no qk
  have B3 := B3.no qk
  have S1 := S1.no qk
  have S2 := S2.no qk
  have q := q.trans qk
  by_cases hgr : GrOk v g
  case neg =>
    rw [decide_eq_false hgr]
    have hR : ftR v st l g = (false, 2) := by unfold ftR; rw [if_neg (by omega), if_pos hgr]
    rw [hR]
    refine go T_ok 200 rfl ?_
    repeat (first | (refine guardA (b := true) rfl rfl rfl rfl (fun _ => ?_) (fun e => by cases e); refine go T_ok 200 rfl ?_) | (refine guardA (b := false) rfl rfl rfl rfl (fun e => by cases e) (fun _ => ?_); refine go T_ok 200 rfl ?_) | (refine condT rfl rfl ?_; refine go T_ok 200 rfl ?_) | (refine condF rfl rfl ?_; refine go T_ok 200 rfl ?_))
    exact ret (ret2 (v := .bool false) (x := .int .i64 2) Try.results53 rfl rfl ⟨rfl, q⟩)
  rw [decide_eq_true hgr]
  have hNo := ftR_no (st := st) (l := l) he hgr
  have hYes := ftR_yes (st := st) (l := l) he hgr
  have hgl := hgr.2
  have hxy := vo_xy hv
  have hzs := vo_zs hv
  have hvo := hv
  unfold VoOk at hvo
  have hg0 : ∀ i, i < g.length → 0 ≤ gI g i ∧ gI g i ≤ 12000 := fun i hi => by
    have := hgr.1 _ (List.mem_of_getElem? (gI_get hi)); omega
  refine go T_ok 200 rfl ?_
  repeat (first | (refine guardA (b := true) rfl rfl rfl rfl (fun _ => ?_) (fun e => by cases e); refine go T_ok 200 rfl ?_) | (refine guardA (b := false) rfl rfl rfl rfl (fun e => by cases e) (fun _ => ?_); refine go T_ok 200 rfl ?_) | (refine condT rfl rfl ?_; refine go T_ok 200 rfl ?_) | (refine condF rfl rfl ?_; refine go T_ok 200 rfl ?_))
  refine loop [1, 3, 4, 31, 32, 33] (fun j : Nat => [.int .i64 st, .slice A2 g.length c2, .pointer (some ⟨g1, 0, none⟩), .slice A l.length c, .int .i64 (l.length : Int), .int .i64 (j : Int)])
    (fun j w' => j ≤ l.length ∧ Chg No w w' ∧ ∀ s ∈ l.take j, suOk g s) (fun j => l.length - j) 0 (fun _ => rfl) rfl ⟨by omega, Chg.refl _ _, fun a h => by simp at h⟩ ?_
  rintro j τ w ⟨hj, qk, hI⟩
  have p := qk
  have B1 := B1.no qk
  have S1 := S1.no qk
  have S2 := S2.no qk
  have q := q.trans qk
  refine go T_ok 200 rfl ?_
  refine condD rfl (fun hlt => ?_) (fun hlt => ?_)
  · have hlt : j < l.length := by omega
    obtain ⟨s, hs⟩ : ∃ s, l[j]? = some s := ⟨_, List.getElem?_eq_getElem hlt⟩
    have hsm := List.mem_of_getElem? hs
    have hso := hl.1 s hsm
    unfold SuOk at hso
    obtain ⟨b, o, hA1, hb, hc⟩ := S1.el sL_len hs
    have hcl : s.col.toNat < g.length := by omega
    obtain ⟨b2, o2, hA2, hb2, hc2⟩ := S2.elI (gI_get hcl)
    have hlb2 : b2 < w.heap.size := Nat.lt_of_lt_of_le hb2 S2.2.1
    have e3 : w64 ((j : Int) + 1) = ((j + 1 : Nat) : Int) := w64_id (by omega) (by omega)
    rw [hA1, hA2]
    refine go T_ok 200 rfl ?_
    refine idx T_ok rfl rfl rfl rfl rfl j rfl hlt ?_
    refine go T_ok 200 rfl ?_
    refine ldA T_ok rfl rfl rfl rfl rfl hc ?_
    refine go T_ok 200 rfl ?_
    have yB1 := B1.lt
    have yS1 := S1.2.1
    have yS2 := S2.2.1
    have yp := Chg.size p
    have yq := q.size
    refine nw rfl rfl (z := .agg #[I 0, I 0, I 0]) (by kernel_rfl) (cs := [I 0, I 0, I 0]) rfl ?_
    intro g13 w hg13 hs13 qk B13
    have B1 := B1.no qk
    have S1 := S1.no qk
    have S2 := S2.no qk
    have p := p.no qk
    have q := q.trans qk
    refine go T_ok 200 rfl ?_
    refine stA T_ok rfl rfl rfl rfl (vs := sL s) rfl rfl rfl B13 rfl ?_
    intro w qk B13 hz13
    have B13 : Bk w g13 89 (sL s) := B13
    have B1 := Bk.keep B1 qk (by omega)
    have S1 := Sl.keep S1 qk (fun k hk e => by omega)
    have S2 := Sl.keep S2 qk (fun k hk e => by omega)
    have p := Chg.step p qk (fun k hk e => by omega)
    have q := q.step qk (fun k hk e => by omega)
    have kc : ∀ w', Chg No w w' → w'.cell? ⟨b2, o2 + s.col.toNat * 1, none⟩ = some (I (gI g s.col.toNat)) := by
      obtain ⟨b3, o3, hA3, hb3, hc3⟩ := S2.elI (gI_get hcl)
      rw [hA2] at hA3
      simp only [Option.some.injEq, Addr.mk.injEq, and_true] at hA3
      obtain ⟨rfl, rfl⟩ := hA3
      exact fun w' hS => (hS.cell (a := ⟨b2, o2 + s.col.toNat * 1, none⟩) (Nat.lt_of_lt_of_le hb3 S2.2.1) (fun h => h)).trans hc3
    refine go T_ok 200 rfl ?_
    refine draw mixed (fun w' => Chg No w w') ([0,1,2,3,4,5,6,7,8,9,10].map (fun i => (i, true)) ++ [(11, false)] ++ [12].map (fun i => (i, true))) rfl (by kernel_rfl) (Chg.drew _) ?_
    refine goH T_ok 200 rfl ?_
    repeat (first | (refine quietH rfl (fun w' hS => r_load T_ok rfl rfl rfl (Bk.get (B13.no hS) rfl)) ?_; refine goH T_ok 200 rfl ?_))
    refine quietH rfl (fun w' hS => r_idx T_ok rfl rfl rfl rfl s.col.toNat (by omega) hcl) ?_
    refine goH T_ok 200 rfl ?_
    refine quietH rfl (fun w' hS => r_load T_ok rfl rfl rfl (kc w' hS)) ?_
    refine goH T_ok 200 rfl ?_
    refine goH T_ok 200 rfl ?_
    repeat (first | (refine quietH rfl (fun w' hS => r_load T_ok rfl rfl rfl (Bk.get (B13.no hS) rfl)) ?_; refine goH T_ok 200 rfl ?_))
    refine callE rfl rfl rfl (ok _ (by decide) rfl) (in_any _ _ _ _) ?_
    rintro x w' ⟨rfl, rfl⟩
    refine ⟨Chg.drew _, ?_⟩
    refine goH T_ok 200 rfl ?_
    refine endH ?_
    have qk := Chg.drew w
    have B1 := B1.no qk
    have S1 := S1.no qk
    have S2 := S2.no qk
    have p := p.no qk
    have B13 := B13.no qk
    have q := q.trans qk
    refine go T_ok 200 rfl ?_
    refine cond rfl (fun h => ?_) (fun h => ?_)
    · have h := ndT h
      rw [hNo (fun hF => h (hF.1 s hsm))]
      refine go T_ok 200 rfl ?_
      exact ret (ret2 (v := .bool false) (x := .int .i64 0) Try.results53 rfl rfl ⟨rfl, q⟩)
    · have h := ndF h
      refine go T_ok 200 rfl ?_
      rw [e3]
      refine round ⟨j + 1, rfl, ⟨by omega, p, fun z hz => ?_⟩, by omega⟩
      rw [take_snoc hs, List.mem_append, List.mem_singleton] at hz
      rcases hz with hz | rfl
      · exact hI z hz
      · exact h
  have hjl : j = l.length := by omega
  rw [hjl, List.take_length] at hI
  clear p
  refine go T_ok 200 rfl ?_
  repeat (first | (refine ldA T_ok rfl rfl rfl rfl rfl (Bk.all B1) ?_; refine go T_ok 200 rfl ?_) | (refine ld T_ok rfl rfl rfl rfl (Bk.get B1 rfl) ?_; refine go T_ok 200 rfl ?_) | (refine guardA (b := true) rfl rfl rfl rfl (fun _ => ?_) (fun e => by cases e); refine go T_ok 200 rfl ?_) | (refine guardA (b := false) rfl rfl rfl rfl (fun e => by cases e) (fun _ => ?_); refine go T_ok 200 rfl ?_) | (refine condT rfl rfl ?_; refine go T_ok 200 rfl ?_) | (refine condF rfl rfl ?_; refine go T_ok 200 rfl ?_))
  refine loop [1, 3, 4, 52, 53] (fun i : Nat => [.int .i64 st, .slice A2 g.length c2, .pointer (some ⟨g1, 0, none⟩), .int .i64 (g.length : Int), .int .i64 (i : Int)])
    (fun i w' => i ≤ g.length ∧ Chg No w w' ∧ ∀ i' n, i' < i → n < 2 → stOk v st g i' n) (fun j => g.length - j) 0 (fun _ => rfl) rfl ⟨by omega, Chg.refl _ _, fun i' n h => by omega⟩ ?_
  rintro i τ w ⟨hi, qk, hM⟩
  have p := qk
  have B1 := B1.no qk
  have S2 := S2.no qk
  have q := q.trans qk
  refine go T_ok 200 rfl ?_
  refine condD rfl (fun hlt => ?_) (fun hlt => ?_)
  · have hlt : i < g.length := by omega
    have f1 : w64 ((i : Int) + 1) = ((i + 1 : Nat) : Int) := w64_id (by omega) (by omega)
    have f2 : w64 ((i : Int) + v.nx) = ((i + v.nx.toNat : Nat) : Int) := by rw [w64_id (by omega) (by omega)]; omega
    refine go T_ok 200 rfl ?_
    repeat (first | (refine ldA T_ok rfl rfl rfl rfl rfl (Bk.all B1) ?_; refine go T_ok 200 rfl ?_) | (refine ld T_ok rfl rfl rfl rfl (Bk.get B1 rfl) ?_; refine go T_ok 200 rfl ?_) | (refine guardA (b := true) rfl rfl rfl rfl (fun _ => ?_) (fun e => by cases e); refine go T_ok 200 rfl ?_) | (refine guardA (b := false) rfl rfl rfl rfl (fun e => by cases e) (fun _ => ?_); refine go T_ok 200 rfl ?_) | (refine condT rfl rfl ?_; refine go T_ok 200 rfl ?_) | (refine condF rfl rfl ?_; refine go T_ok 200 rfl ?_))
    rw [f1, f2]
    refine bldA T_ok rfl rfl rfl (z := .agg #[I 0, I 0]) (by kernel_rfl) (bldR (zs := [I 0, I 0]) rfl rfl (cs := [I ((i + 1 : Nat) : Int), I ((i + v.nx.toNat : Nat) : Int)]) rfl) ?_
    refine go T_ok 200 rfl ?_
    refine loop [1, 3, 4, 14, 52, 53, 62, 63] (fun n : Nat => [.int .i64 st, .slice A2 g.length c2, .pointer (some ⟨g1, 0, none⟩), .int .i64 (i : Int), .int .i64 (g.length : Int), .int .i64 (i : Int), .agg ([I ((i + 1 : Nat) : Int), I ((i + v.nx.toNat : Nat) : Int)] : List Value).toArray, .int .i64 (n : Int)])
      (fun n w' => n ≤ 2 ∧ Chg No w w' ∧ ∀ n', n' < n → stOk v st g i n') (fun n => 2 - n) 0 (fun _ => rfl) rfl ⟨by omega, Chg.refl _ _, fun n' h => by omega⟩ ?_
    rintro n τ w ⟨hn, qk, hN⟩
    have p2 := qk
    have B1 := B1.no qk
    have S2 := S2.no qk
    have p := p.no qk
    have q := q.trans qk
    refine go T_ok 200 rfl ?_
    refine condD rfl (fun hlt2 => ?_) (fun hlt2 => ?_)
    · have hn2 : n = 0 ∨ n = 1 := by omega
      have hix : ([I ((i + 1 : Nat) : Int), I ((i + v.nx.toNat : Nat) : Int)] : List Value)[n * 1]? = some (I ((nbr v i n : Nat) : Int)) := by
        rcases hn2 with rfl | rfl <;> rfl
      have hnb : nbr v i n ≤ i + 12 := by unfold nbr; split <;> omega
      have e8 : w64 ((n : Int) + 1) = ((n + 1 : Nat) : Int) := w64_id (by omega) (by omega)
      refine go T_ok 200 rfl ?_
      refine ix1 T_ok rfl rfl rfl rfl rfl n rfl (by omega) hix ?_
      refine go T_ok 200 rfl ?_
      rcases hn2 with rfl | rfl
      · have hrm : ∀ k : Nat, ((k : Int) % v.nx = 0) ↔ k % v.nx.toNat = 0 := fun k => by
          have : ((k % v.nx.toNat : Nat) : Int) = (k : Int) % v.nx := by
            rw [Int.natCast_emod, Int.toNat_of_nonneg (by omega)]
          omega
        refine go T_ok 200 rfl ?_
        repeat (first | (refine ldA T_ok rfl rfl rfl rfl rfl (Bk.all B1) ?_; refine go T_ok 200 rfl ?_) | (refine ld T_ok rfl rfl rfl rfl (Bk.get B1 rfl) ?_; refine go T_ok 200 rfl ?_) | (refine guardA (b := true) rfl rfl rfl rfl (fun _ => ?_) (fun e => by cases e); refine go T_ok 200 rfl ?_) | (refine guardA (b := false) rfl rfl rfl rfl (fun e => by cases e) (fun _ => ?_); refine go T_ok 200 rfl ?_) | (refine condT rfl rfl ?_; refine go T_ok 200 rfl ?_) | (refine condF rfl rfl ?_; refine go T_ok 200 rfl ?_))
        refine remN rfl rfl rfl rfl (by omega) (by omega) ?_
        refine go T_ok 200 rfl ?_
        refine guard rfl rfl rfl (fun hm => ?_) (fun hm => ?_)
        · have hm : ((nbr v i 0 : Nat) : Int) % v.nx = 0 := by simpa using hm
          refine go T_ok 200 rfl ?_
          repeat (first | (refine guardA (b := true) rfl rfl rfl rfl (fun _ => ?_) (fun e => by cases e); refine go T_ok 200 rfl ?_) | (refine guardA (b := false) rfl rfl rfl rfl (fun e => by cases e) (fun _ => ?_); refine go T_ok 200 rfl ?_) | (refine condT rfl rfl ?_; refine go T_ok 200 rfl ?_) | (refine condF rfl rfl ?_; refine go T_ok 200 rfl ?_))
          rw [e8]
          refine round ⟨0 + 1, rfl, ⟨by omega, p2, fun n' hn' => ?_⟩, by omega⟩
          by_cases e : n' = 0
          · subst e; exact .inl ⟨rfl, (hrm _).1 hm⟩
          · exact hN n' (by omega)
        · have hm : ¬ ((nbr v i 0 : Nat) : Int) % v.nx = 0 := by simpa using hm
          refine go T_ok 200 rfl ?_
          refine condD rfl (fun hge => ?_) (fun hge => ?_)
          · refine go T_ok 200 rfl ?_
            rw [e8]
            refine round ⟨0 + 1, rfl, ⟨by omega, p2, fun n' hn' => ?_⟩, by omega⟩
            by_cases e : n' = 0
            · subst e; exact .inr (.inl (by omega))
            · exact hN n' (by omega)
          have hk : nbr v i 0 < g.length := by omega
          obtain ⟨b2, o2, hA2, hb2, hc2⟩ := S2.elI (gI_get hlt)
          obtain ⟨b3, o3, hA3, hb3, hc3⟩ := S2.elI (gI_get hk)
          rw [hA2] at hA3
          simp only [Option.some.injEq, Addr.mk.injEq, and_true] at hA3
          obtain ⟨rfl, rfl⟩ := hA3
          have hlb2 : b2 < w.heap.size := Nat.lt_of_lt_of_le hb2 S2.2.1
          have g0 := hg0 i hlt
          have g1' := hg0 _ hk
          have f5 : w64 (gI g i - gI g (nbr v i 0)) = gI g i - gI g (nbr v i 0) := w64_id (by omega) (by omega)
          have f6 : w64 (0 - (gI g i - gI g (nbr v i 0))) = 0 - (gI g i - gI g (nbr v i 0)) := w64_id (by omega) (by omega)
          rw [hA2]
          refine go T_ok 200 rfl ?_
          refine draw mixed (fun w' => Chg No w w') ([0,1,2,3,4,5,6,7,8,9].map (fun i => (i, true))) rfl (by kernel_rfl) (Chg.drew _) ?_
          refine goH T_ok 200 rfl ?_
          refine quietH rfl (fun w' hS => r_idx T_ok rfl rfl rfl rfl i rfl hlt) ?_
          refine goH T_ok 200 rfl ?_
          refine quietH rfl (fun w' hS => r_load T_ok rfl rfl rfl ((hS.cell (a := ⟨b2, o2 + i * 1, none⟩) hlb2 (fun h => h)).trans hc2)) ?_
          refine goH T_ok 200 rfl ?_
          refine quietH rfl (fun w' hS => r_idx T_ok rfl rfl rfl rfl (nbr v i 0) rfl hk) ?_
          refine goH T_ok 200 rfl ?_
          refine quietH rfl (fun w' hS => r_load T_ok rfl rfl rfl ((hS.cell (a := ⟨b2, o2 + nbr v i 0 * 1, none⟩) hlb2 (fun h => h)).trans hc3)) ?_
          refine goH T_ok 200 rfl ?_
          rw [f5]
          refine endH ?_
          have qk := Chg.drew w
          have B1 := B1.no qk
          have S2 := S2.no qk
          have p := p.no qk
          have p2 := p2.no qk
          have q := q.trans qk
          refine go T_ok 200 rfl ?_
          rw [f6, max_abs]
          refine condD rfl (fun hst => ?_) (fun hst => ?_)
          · have hbad : ¬ stOk v st g i 0 := by
              unfold stOk
              rintro (h | h | h)
              · exact hm ((hrm _).2 h.2)
              · omega
              · omega
            rw [hNo (fun hF => hbad (hF.2 i 0 hlt (by omega)))]
            refine go T_ok 200 rfl ?_
            exact ret (ret2 (v := .bool false) (x := .int .i64 0) Try.results53 rfl rfl ⟨rfl, q⟩)
          · refine go T_ok 200 rfl ?_
            rw [e8]
            refine round ⟨0 + 1, rfl, ⟨by omega, p2, fun n' hn' => ?_⟩, by omega⟩
            by_cases e : n' = 0
            · subst e; exact .inr (.inr (by omega))
            · exact hN n' (by omega)
      · refine go T_ok 200 rfl ?_
        repeat (first | (refine guardA (b := true) rfl rfl rfl rfl (fun _ => ?_) (fun e => by cases e); refine go T_ok 200 rfl ?_) | (refine guardA (b := false) rfl rfl rfl rfl (fun e => by cases e) (fun _ => ?_); refine go T_ok 200 rfl ?_) | (refine condT rfl rfl ?_; refine go T_ok 200 rfl ?_) | (refine condF rfl rfl ?_; refine go T_ok 200 rfl ?_))
        refine condD rfl (fun hge => ?_) (fun hge => ?_)
        · refine go T_ok 200 rfl ?_
          rw [e8]
          refine round ⟨1 + 1, rfl, ⟨by omega, p2, fun n' hn' => ?_⟩, by omega⟩
          by_cases e : n' = 1
          · subst e; exact .inr (.inl (by omega))
          · exact hN n' (by omega)
        have hk : nbr v i 1 < g.length := by omega
        obtain ⟨b2, o2, hA2, hb2, hc2⟩ := S2.elI (gI_get hlt)
        obtain ⟨b3, o3, hA3, hb3, hc3⟩ := S2.elI (gI_get hk)
        rw [hA2] at hA3
        simp only [Option.some.injEq, Addr.mk.injEq, and_true] at hA3
        obtain ⟨rfl, rfl⟩ := hA3
        have hlb2 : b2 < w.heap.size := Nat.lt_of_lt_of_le hb2 S2.2.1
        have g0 := hg0 i hlt
        have g1' := hg0 _ hk
        have f5 : w64 (gI g i - gI g (nbr v i 1)) = gI g i - gI g (nbr v i 1) := w64_id (by omega) (by omega)
        have f6 : w64 (0 - (gI g i - gI g (nbr v i 1))) = 0 - (gI g i - gI g (nbr v i 1)) := w64_id (by omega) (by omega)
        rw [hA2]
        refine go T_ok 200 rfl ?_
        refine draw mixed (fun w' => Chg No w w') ([0,1,2,3,4,5,6,7,8,9].map (fun i => (i, true))) rfl (by kernel_rfl) (Chg.drew _) ?_
        refine goH T_ok 200 rfl ?_
        refine quietH rfl (fun w' hS => r_idx T_ok rfl rfl rfl rfl i rfl hlt) ?_
        refine goH T_ok 200 rfl ?_
        refine quietH rfl (fun w' hS => r_load T_ok rfl rfl rfl ((hS.cell (a := ⟨b2, o2 + i * 1, none⟩) hlb2 (fun h => h)).trans hc2)) ?_
        refine goH T_ok 200 rfl ?_
        refine quietH rfl (fun w' hS => r_idx T_ok rfl rfl rfl rfl (nbr v i 1) rfl hk) ?_
        refine goH T_ok 200 rfl ?_
        refine quietH rfl (fun w' hS => r_load T_ok rfl rfl rfl ((hS.cell (a := ⟨b2, o2 + nbr v i 1 * 1, none⟩) hlb2 (fun h => h)).trans hc3)) ?_
        refine goH T_ok 200 rfl ?_
        rw [f5]
        refine endH ?_
        have qk := Chg.drew w
        have B1 := B1.no qk
        have S2 := S2.no qk
        have p := p.no qk
        have p2 := p2.no qk
        have q := q.trans qk
        refine go T_ok 200 rfl ?_
        rw [f6, max_abs]
        refine condD rfl (fun hst => ?_) (fun hst => ?_)
        · have hbad : ¬ stOk v st g i 1 := by
            unfold stOk
            rintro (h | h | h)
            · exact absurd h.1 (by decide)
            · omega
            · omega
          rw [hNo (fun hF => hbad (hF.2 i 1 hlt (by omega)))]
          refine go T_ok 200 rfl ?_
          exact ret (ret2 (v := .bool false) (x := .int .i64 0) Try.results53 rfl rfl ⟨rfl, q⟩)
        · refine go T_ok 200 rfl ?_
          rw [e8]
          refine round ⟨1 + 1, rfl, ⟨by omega, p2, fun n' hn' => ?_⟩, by omega⟩
          by_cases e : n' = 1
          · subst e; exact .inr (.inr (by omega))
          · exact hN n' (by omega)
    · have hn2 : n = 2 := by omega
      subst hn2
      have e8 : w64 ((i : Int) + 1) = ((i + 1 : Nat) : Int) := w64_id (by omega) (by omega)
      refine go T_ok 200 rfl ?_
      rw [e8]
      refine round ⟨i + 1, rfl, ⟨by omega, p, fun i' n' h1 h2 => ?_⟩, by omega⟩
      by_cases e : i' = i
      · subst e; exact hN n' h2
      · exact hM i' n' (by omega) h2
  · have hil : i = g.length := by omega
    subst hil
    rw [hYes ⟨hI, hM⟩]
    refine go T_ok 200 rfl ?_
    exact ret (ret2 (v := .bool true) (x := .int .i64 0) Try.results53 rfl rfl ⟨rfl, q⟩)
end Go.Proofs.Ytkkjfjeniaiaiaa
