/- The walk of RockTrue. -/
import Derived.Test.YtkkjfjeniaiaiaaL3
import Derived.Test.YtkkjfjeniaiaiaaS4
import Derived.Test.YtkkjfjeniaiaiaaR6
namespace Go.Proofs.Ytkkjfjeniaiaiaa
open Go.Ev Go.Proofs Go.Rock
attribute [local irreducible] At AtH
/-- a part of the way, for each span -/
def way (s : Int × Int) (c : Int) : Int := s.1 + (s.2 - s.1) * c / 100
def mix (l : List (Int × Int)) (h : List Int) : List Int := List.zipWith way l h
theorem mix_get {l : List (Int × Int)} {h : List Int} {j : Nat} {s : Int × Int} {c : Int} (hs : l[j]? = some s) (hc : h[j]? = some c) : (mix l h)[j]? = some (way s c) := by
  unfold mix
  rw [List.getElem?_zipWith, hs, hc]
theorem way_bd {s : Int × Int} {c : Int} (hs : s.1 ≤ s.2) (h0 : 0 ≤ c) (h1 : c ≤ 100) : s.1 ≤ way s c ∧ way s c ≤ s.2 ∧ 0 ≤ (s.2 - s.1) * c ∧ (s.2 - s.1) * c ≤ (s.2 - s.1) * 100 := by
  have m1 := Int.mul_nonneg (by omega : 0 ≤ s.2 - s.1) h0
  have m2 := Int.mul_le_mul_of_nonneg_left h1 (by omega : 0 ≤ s.2 - s.1)
  unfold way
  omega
theorem part_any (lo hi c : Int) (w : World) (h0 : 0 ≤ lo) (h1 : lo ≤ hi) (h2 : hi ≤ 12000) (h3 : 0 ≤ c) (h4 : c ≤ 100) : Ret Try.prog 49 [.int .i64 lo, .int .i64 hi, .int .i64 c] w fun x w' => x = .int .i64 (way (lo, hi) c) ∧ w = w' := by
  have hb := way_bd (s := (lo, hi)) h1 h3 h4
  simp only at hb
  have hw : way (lo, hi) c = lo + (hi - lo) * c / 100 := rfl
  have e1 : w64 (hi - lo) = hi - lo := w64_id (by omega) (by omega)
  have e2 : w64 ((hi - lo) * c) = (hi - lo) * c := w64_id (by omega) (by omega)
  have e3 : w64 (lo + (hi - lo) * c / 100) = way (lo, hi) c := by rw [hw]; exact w64_id (by omega) (by omega)
  refine enter Try.func49 rfl Try.ntmps49 rfl ?_
  refine go T_ok 200 rfl ?_
  rw [e1, e2]
  refine quoN rfl rfl rfl rfl hb.2.2.1 (by omega) (by omega) ?_
  refine go T_ok 200 rfl ?_
  rw [e3]
  exact ret (ret1 (v := .int .i64 _) Try.results49 rfl ⟨rfl, rfl⟩)
theorem zip_get {a b : List Int} {j : Nat} {x y : Int} (ha : a[j]? = some x) (hb : b[j]? = some y) : (a.zip b)[j]? = some (x, y) := by
  rw [List.zip, List.getElem?_zipWith, ha, hb]
def NeO (a b : Value) : Prop := ∀ k, a.ownBlock = some k → b.ownBlock ≠ some k
theorem NeO.symm {a b : Value} (h : NeO a b) : NeO b a := fun k e e2 => h k e2 e
theorem NeO.app {a b a' : Value} {n : Nat} (h : NeO a b) (hown : a'.ownBlock = a.ownBlock ∨ a'.ownBlock = some n) (hb : ∀ k, b.ownBlock = some k → k < n) : NeO a' b := by
  intro k e e2
  rcases hown with h1 | h1
  · rw [h1] at e; exact h k e e2
  · rw [h1] at e; cases e; have := hb _ e2; omega
theorem neO_nil (b : Value) : NeO (.slice none 0 0) b := fun k e => by cases e
/-- whichever ground and densities lie between -/
theorem true_law {v : Vo} {r : Ra} {a b h m : List Int} {d : List (Int × Int)} (hv : VoOk v) (hgg : GG v a b) (hs : SpOk v d) (hl : h.length = a.length) (hh : ∀ c ∈ h, 0 ≤ c ∧ c ≤ 100) (hl2 : m.length = d.length) (hm : ∀ c ∈ m, 0 ≤ c ∧ c ≤ 100) :
    GrOk v (mix (a.zip b) h) ∧ DlOk v (mix d m) ∧ DlOk v (d.map (·.1)) ∧ DlOk v (d.map (·.2)) ∧
      opS v r a (dnl (d.map (·.1))) ≤ opS v r (mix (a.zip b) h) (dnl (mix d m)) ∧ opS v r (mix (a.zip b) h) (dnl (mix d m)) ≤ opS v r b (dnl (d.map (·.2))) := by
  have hla := hgg.1.2
  have hlb := hgg.2.1.2
  have hdl := hs.2
  have lg : (mix (a.zip b) h).length = a.length := by unfold mix; rw [List.length_zipWith, List.length_zip]; omega
  have ld : (mix d m).length = d.length := by unfold mix; rw [List.length_zipWith]; omega
  have gG : ∀ i (hi : i < a.length), ∃ x y, a[i]? = some x ∧ b[i]? = some y ∧ ∃ z, (mix (a.zip b) h)[i]? = some z ∧ x ≤ z ∧ z ≤ y ∧ 0 ≤ x ∧ y ≤ v.nz * v.sz := by
    intro i hi
    have e1 := List.getElem?_eq_getElem hi
    have e2 := List.getElem?_eq_getElem (by omega : i < b.length)
    have e3 := List.getElem?_eq_getElem (by omega : i < h.length)
    have hx := hgg.1.1 _ (List.getElem_mem hi)
    have hy := hgg.2.1.1 _ (List.getElem_mem (by omega : i < b.length))
    have hc := hh _ (List.getElem_mem (by omega : i < h.length))
    have hle := hgg.2.2 i _ _ e1 e2
    have hw := way_bd (s := (a[i], b[i])) hle hc.1 hc.2
    exact ⟨_, _, e1, e2, _, mix_get (zip_get e1 e2) e3, hw.1, hw.2.1, hx.1, hy.2⟩
  have gD : ∀ i (hi : i < d.length), ∃ s z, d[i]? = some s ∧ (mix d m)[i]? = some z ∧ s.1 ≤ z ∧ z ≤ s.2 ∧ 0 ≤ s.1 ∧ s.2 ≤ 10000 := by
    intro i hi
    have e1 := List.getElem?_eq_getElem hi
    have e3 := List.getElem?_eq_getElem (by omega : i < m.length)
    have hx := hs.1 _ (List.getElem_mem hi)
    have hc := hm _ (List.getElem_mem (by omega : i < m.length))
    have hw := way_bd (s := d[i]) hx.2.1 hc.1 hc.2
    exact ⟨_, _, e1, mix_get e1 e3, hw.1, hw.2.1, hx.1, hx.2.2⟩
  have g1 : GLe a (mix (a.zip b) h) := by
    intro i
    rw [List.getD_eq_getElem?_getD, List.getD_eq_getElem?_getD]
    by_cases hi : i < a.length
    · obtain ⟨x, y, e1, _, z, e3, h1, _⟩ := gG i hi
      rw [e1, e3]; exact h1
    · rw [List.getElem?_eq_none (by omega), List.getElem?_eq_none (by omega)]; exact Int.le_refl _
  have g2 : GLe (mix (a.zip b) h) b := by
    intro i
    rw [List.getD_eq_getElem?_getD, List.getD_eq_getElem?_getD]
    by_cases hi : i < a.length
    · obtain ⟨x, y, _, e2, z, e3, _, h2, _⟩ := gG i hi
      rw [e2, e3]; exact h2
    · rw [List.getElem?_eq_none (by omega), List.getElem?_eq_none (by omega)]; exact Int.le_refl _
  have dd : ∀ c, 0 ≤ c → c < v.nx * v.ny * v.nz → (0 ≤ dnl (d.map (·.1)) c ∧ dnl (d.map (·.1)) c ≤ dnl (mix d m) c) ∧ (0 ≤ dnl (mix d m) c ∧ dnl (mix d m) c ≤ dnl (d.map (·.2)) c) := by
    intro c h0 h1
    obtain ⟨s, z, e1, e2, k1, k2, k3, k4⟩ := gD c.toNat (by omega)
    obtain ⟨s', e1', f1, f2⟩ := dn_get (d := d) h0 (by omega)
    rw [e1] at e1'
    cases e1'
    have f3 : dnl (mix d m) c = z := by unfold dnl; rw [List.getD_eq_getElem?_getD, e2]; rfl
    rw [f1, f2, f3]
    omega
  refine ⟨⟨fun z hz => ?_, by omega⟩, ⟨fun z hz => ?_, by omega⟩, ⟨fun z hz => ?_, by rw [List.length_map]; exact hdl⟩, ⟨fun z hz => ?_, by rw [List.length_map]; exact hdl⟩, opS_mono hv g1 fun c h0 h1 => (dd c h0 h1).1, opS_mono hv g2 fun c h0 h1 => (dd c h0 h1).2⟩
  · obtain ⟨i, hi, rfl⟩ := List.getElem_of_mem hz
    obtain ⟨x, y, _, _, z, e3, h1, h2, h3, h4⟩ := gG i (by omega)
    rw [List.getElem?_eq_getElem hi] at e3
    cases e3
    omega
  · obtain ⟨i, hi, rfl⟩ := List.getElem_of_mem hz
    obtain ⟨s, z, _, e3, h1, h2, h3, h4⟩ := gD i (by omega)
    rw [List.getElem?_eq_getElem hi] at e3
    cases e3
    omega
  · obtain ⟨s, hs', rfl⟩ := List.mem_map.1 hz
    have := hs.1 s hs'; omega
  · obtain ⟨s, hs', rfl⟩ := List.mem_map.1 hz
    have := hs.1 s hs'; omega
set_option maxRecDepth 20000 in
set_option maxHeartbeats 8000000 in
theorem walk_RockTrue (v : Vo) (a b : Sli Int) (d : Sli (Int × Int)) (r : Ra) (h m : Sli Int) (w0 : World) (_hv : VoI v) (ha : InI w0 a) (hb : InI w0 b) (hd : InD w0 d) (_hr : RaI r) (hh : InI w0 h) (hm : InI w0 m) :
    Ret Try.prog 12 [.agg (vL v).toArray, .slice a.A a.l.length a.c, .slice b.A b.l.length b.c, .slice d.A d.l.length d.c, .agg (rL r).toArray, .slice h.A h.l.length h.c, .slice m.A m.l.length m.c] w0 fun x w' => x = .bool true ∧ Chg No w0 w' := by
  refine enter Try.func12 rfl Try.ntmps12 rfl ?_
  refine go T_ok 200 rfl ?_
  refine bx rfl rfl rfl (cs := vL v) rfl ?_
  intro g1 u1 hg1 hs1 q1 B1
  refine go T_ok 200 rfl ?_
  refine bx rfl rfl rfl (cs := rL r) rfl ?_
  intro g2 u2 hg2 hs2 q2 B2
  have hg12 : g1 < g2 := by have := B1.lt; omega
  have hg0 : w0.heap.size ≤ g1 := by omega
  have B1 := B1.no q2
  have q := q1.trans q2
  have Sa := ha.sl.no q
  have Sb := hb.sl.no q
  have Sd := hd.2.2.1.no q
  refine go T_ok 200 rfl ?_
  repeat (first | (refine ldA T_ok rfl rfl rfl rfl rfl (Bk.all B1) ?_; refine go T_ok 200 rfl ?_) | (refine ldA T_ok rfl rfl rfl rfl rfl (Bk.all B2) ?_; refine go T_ok 200 rfl ?_) | (refine ld T_ok rfl rfl rfl rfl (Bk.get B1 rfl) ?_; refine go T_ok 200 rfl ?_) | (refine ld T_ok rfl rfl rfl rfl (Bk.get B2 rfl) ?_; refine go T_ok 200 rfl ?_) | (refine guardA (b := true) rfl rfl rfl rfl (fun _ => ?_) (fun e => by cases e); refine go T_ok 200 rfl ?_) | (refine guardA (b := false) rfl rfl rfl rfl (fun e => by cases e) (fun _ => ?_); refine go T_ok 200 rfl ?_) | (refine condT rfl rfl ?_; refine go T_ok 200 rfl ?_) | (refine condF rfl rfl ?_; refine go T_ok 200 rfl ?_))
  refine call rfl rfl rfl (ok _ (by decide) rfl) (rVolume_any v _) ?_
  rintro x w ⟨rfl, qk⟩
  have B1 := B1.no qk
  have B2 := B2.no qk
  have Sa := Sa.no qk
  have Sb := Sb.no qk
  have Sd := Sd.no qk
  have q := q.trans qk
  by_cases hv : VoOk v
  case neg =>
    rw [decide_eq_false hv]
    refine go T_ok 200 rfl ?_
    repeat (first | (refine guardA (b := true) rfl rfl rfl rfl (fun _ => ?_) (fun e => by cases e); refine go T_ok 200 rfl ?_) | (refine guardA (b := false) rfl rfl rfl rfl (fun e => by cases e) (fun _ => ?_); refine go T_ok 200 rfl ?_) | (refine condT rfl rfl ?_; refine go T_ok 200 rfl ?_) | (refine condF rfl rfl ?_; refine go T_ok 200 rfl ?_))
    refine call rfl rfl rfl (ok _ (by decide) rfl) (known_any _) ?_
    rintro v wk ⟨rfl, qk⟩
    refine go T_ok 200 rfl ?_
    exact ret (ret1 (v := .bool true) Try.results12 rfl ⟨rfl, q.trans qk⟩)
  rw [decide_eq_true hv]
  refine go T_ok 200 rfl ?_
  repeat (first | (refine ldA T_ok rfl rfl rfl rfl rfl (Bk.all B1) ?_; refine go T_ok 200 rfl ?_) | (refine ldA T_ok rfl rfl rfl rfl rfl (Bk.all B2) ?_; refine go T_ok 200 rfl ?_) | (refine ld T_ok rfl rfl rfl rfl (Bk.get B1 rfl) ?_; refine go T_ok 200 rfl ?_) | (refine ld T_ok rfl rfl rfl rfl (Bk.get B2 rfl) ?_; refine go T_ok 200 rfl ?_) | (refine guardA (b := true) rfl rfl rfl rfl (fun _ => ?_) (fun e => by cases e); refine go T_ok 200 rfl ?_) | (refine guardA (b := false) rfl rfl rfl rfl (fun e => by cases e) (fun _ => ?_); refine go T_ok 200 rfl ?_) | (refine condT rfl rfl ?_; refine go T_ok 200 rfl ?_) | (refine condF rfl rfl ?_; refine go T_ok 200 rfl ?_))
  refine call rfl rfl rfl (ok _ (by decide) rfl) (rRay_any r _) ?_
  rintro x w ⟨rfl, qk⟩
  have B1 := B1.no qk
  have B2 := B2.no qk
  have Sa := Sa.no qk
  have Sb := Sb.no qk
  have Sd := Sd.no qk
  have q := q.trans qk
  by_cases hr : RaOk r
  case neg =>
    rw [decide_eq_false hr]
    refine go T_ok 200 rfl ?_
    repeat (first | (refine guardA (b := true) rfl rfl rfl rfl (fun _ => ?_) (fun e => by cases e); refine go T_ok 200 rfl ?_) | (refine guardA (b := false) rfl rfl rfl rfl (fun e => by cases e) (fun _ => ?_); refine go T_ok 200 rfl ?_) | (refine condT rfl rfl ?_; refine go T_ok 200 rfl ?_) | (refine condF rfl rfl ?_; refine go T_ok 200 rfl ?_))
    refine call rfl rfl rfl (ok _ (by decide) rfl) (known_any _) ?_
    rintro v wk ⟨rfl, qk⟩
    refine go T_ok 200 rfl ?_
    exact ret (ret1 (v := .bool true) Try.results12 rfl ⟨rfl, q.trans qk⟩)
  rw [decide_eq_true hr]
  refine go T_ok 200 rfl ?_
  repeat (first | (refine ldA T_ok rfl rfl rfl rfl rfl (Bk.all B1) ?_; refine go T_ok 200 rfl ?_) | (refine ldA T_ok rfl rfl rfl rfl rfl (Bk.all B2) ?_; refine go T_ok 200 rfl ?_) | (refine ld T_ok rfl rfl rfl rfl (Bk.get B1 rfl) ?_; refine go T_ok 200 rfl ?_) | (refine ld T_ok rfl rfl rfl rfl (Bk.get B2 rfl) ?_; refine go T_ok 200 rfl ?_) | (refine guardA (b := true) rfl rfl rfl rfl (fun _ => ?_) (fun e => by cases e); refine go T_ok 200 rfl ?_) | (refine guardA (b := false) rfl rfl rfl rfl (fun e => by cases e) (fun _ => ?_); refine go T_ok 200 rfl ?_) | (refine condT rfl rfl ?_; refine go T_ok 200 rfl ?_) | (refine condF rfl rfl ?_; refine go T_ok 200 rfl ?_))
  refine call rfl rfl rfl (ok _ (by decide) rfl) (lgr_any v a.l b.l a.A b.A a.c b.c _ _ _ hv ha.ml hb.ml Sa Sb) ?_
  rintro x w ⟨t, rfl, ht, qk⟩
  have B1 := B1.no qk
  have B2 := B2.no qk
  have Sa := Sa.no qk
  have Sb := Sb.no qk
  have Sd := Sd.no qk
  have q := q.trans qk
  cases t with
  | false =>
    skip
    refine go T_ok 200 rfl ?_
    repeat (first | (refine guardA (b := true) rfl rfl rfl rfl (fun _ => ?_) (fun e => by cases e); refine go T_ok 200 rfl ?_) | (refine guardA (b := false) rfl rfl rfl rfl (fun e => by cases e) (fun _ => ?_); refine go T_ok 200 rfl ?_) | (refine condT rfl rfl ?_; refine go T_ok 200 rfl ?_) | (refine condF rfl rfl ?_; refine go T_ok 200 rfl ?_))
    refine call rfl rfl rfl (ok _ (by decide) rfl) (known_any _) ?_
    rintro v wk ⟨rfl, qk⟩
    refine go T_ok 200 rfl ?_
    exact ret (ret1 (v := .bool true) Try.results12 rfl ⟨rfl, q.trans qk⟩)
  | true =>
  have hgg := ht.1 rfl
  refine go T_ok 200 rfl ?_
  repeat (first | (refine ldA T_ok rfl rfl rfl rfl rfl (Bk.all B1) ?_; refine go T_ok 200 rfl ?_) | (refine ldA T_ok rfl rfl rfl rfl rfl (Bk.all B2) ?_; refine go T_ok 200 rfl ?_) | (refine ld T_ok rfl rfl rfl rfl (Bk.get B1 rfl) ?_; refine go T_ok 200 rfl ?_) | (refine ld T_ok rfl rfl rfl rfl (Bk.get B2 rfl) ?_; refine go T_ok 200 rfl ?_) | (refine guardA (b := true) rfl rfl rfl rfl (fun _ => ?_) (fun e => by cases e); refine go T_ok 200 rfl ?_) | (refine guardA (b := false) rfl rfl rfl rfl (fun e => by cases e) (fun _ => ?_); refine go T_ok 200 rfl ?_) | (refine condT rfl rfl ?_; refine go T_ok 200 rfl ?_) | (refine condF rfl rfl ?_; refine go T_ok 200 rfl ?_))
  refine call rfl rfl rfl (ok _ (by decide) rfl) (Spans_any v d.l d.A d.c _ _ hv hd.ml Sd) ?_
  rintro x w ⟨rfl, qk⟩
  have B1 := B1.no qk
  have B2 := B2.no qk
  have Sa := Sa.no qk
  have Sb := Sb.no qk
  have Sd := Sd.no qk
  have q := q.trans qk
  by_cases hs : SpOk v d.l
  case neg =>
    rw [decide_eq_false hs]
    refine go T_ok 200 rfl ?_
    repeat (first | (refine guardA (b := true) rfl rfl rfl rfl (fun _ => ?_) (fun e => by cases e); refine go T_ok 200 rfl ?_) | (refine guardA (b := false) rfl rfl rfl rfl (fun e => by cases e) (fun _ => ?_); refine go T_ok 200 rfl ?_) | (refine condT rfl rfl ?_; refine go T_ok 200 rfl ?_) | (refine condF rfl rfl ?_; refine go T_ok 200 rfl ?_))
    refine call rfl rfl rfl (ok _ (by decide) rfl) (known_any _) ?_
    rintro v wk ⟨rfl, qk⟩
    refine go T_ok 200 rfl ?_
    exact ret (ret1 (v := .bool true) Try.results12 rfl ⟨rfl, q.trans qk⟩)
  rw [decide_eq_true hs]
  have hxy := vo_xy hv
  have hxyz := vo_xyz hv
  have hzs := vo_zs hv
  have hla := hgg.1.2
  have hlb := hgg.2.1.2
  have hdl := hs.2
  refine go T_ok 200 rfl ?_
  repeat (first | (refine ldA T_ok rfl rfl rfl rfl rfl (Bk.all B1) ?_; refine go T_ok 200 rfl ?_) | (refine ldA T_ok rfl rfl rfl rfl rfl (Bk.all B2) ?_; refine go T_ok 200 rfl ?_) | (refine ld T_ok rfl rfl rfl rfl (Bk.get B1 rfl) ?_; refine go T_ok 200 rfl ?_) | (refine ld T_ok rfl rfl rfl rfl (Bk.get B2 rfl) ?_; refine go T_ok 200 rfl ?_) | (refine guardA (b := true) rfl rfl rfl rfl (fun _ => ?_) (fun e => by cases e); refine go T_ok 200 rfl ?_) | (refine guardA (b := false) rfl rfl rfl rfl (fun e => by cases e) (fun _ => ?_); refine go T_ok 200 rfl ?_) | (refine condT rfl rfl ?_; refine go T_ok 200 rfl ?_) | (refine condF rfl rfl ?_; refine go T_ok 200 rfl ?_))
  by_cases hl : h.l.length = a.l.length
  case neg =>
    refine guardA (b := true) rfl rfl rfl (congrArg Value.bool (by simpa using (by omega : ¬ (h.l.length : Int) = (a.l.length : Int)))) (fun _ => ?_) (fun e => by cases e)
    refine go T_ok 200 rfl ?_
    repeat (first | (refine guardA (b := true) rfl rfl rfl rfl (fun _ => ?_) (fun e => by cases e); refine go T_ok 200 rfl ?_) | (refine guardA (b := false) rfl rfl rfl rfl (fun e => by cases e) (fun _ => ?_); refine go T_ok 200 rfl ?_) | (refine condT rfl rfl ?_; refine go T_ok 200 rfl ?_) | (refine condF rfl rfl ?_; refine go T_ok 200 rfl ?_))
    refine call rfl rfl rfl (ok _ (by decide) rfl) (known_any _) ?_
    rintro v wk ⟨rfl, qk⟩
    refine go T_ok 200 rfl ?_
    exact ret (ret1 (v := .bool true) Try.results12 rfl ⟨rfl, q.trans qk⟩)
  refine guardA (b := false) rfl rfl rfl (congrArg Value.bool (by simp [hl])) (fun e => by cases e) (fun _ => ?_)
  refine go T_ok 200 rfl ?_
  by_cases hl2 : m.l.length = d.l.length
  case neg =>
    refine condT rfl (by simpa using (by omega : ¬ (m.l.length : Int) = (d.l.length : Int))) ?_
    refine go T_ok 200 rfl ?_
    refine call rfl rfl rfl (ok _ (by decide) rfl) (known_any _) ?_
    rintro v wk ⟨rfl, qk⟩
    refine go T_ok 200 rfl ?_
    exact ret (ret1 (v := .bool true) Try.results12 rfl ⟨rfl, q.trans qk⟩)
  refine condF rfl (by simp [hl2]) ?_
  refine go T_ok 200 rfl ?_
  refine loop [1, 2, 3, 5, 6, 7, 11, 15, 16, 17, 18, 19] (fun p : Nat × Value => [.slice a.A a.l.length a.c, .slice b.A b.l.length b.c, .slice d.A d.l.length d.c, .slice h.A h.l.length h.c, .slice m.A m.l.length m.c, .pointer (some ⟨g1, 0, none⟩), .pointer (some ⟨g2, 0, none⟩), p.2, .slice none 0 0, .slice none 0 0, .slice none 0 0, .int .i64 (p.1 : Int)])
    (fun p w' => p.1 ≤ a.l.length ∧ Chg No w0 w' ∧ Bk w' g1 23 (vL v) ∧ Bk w' g2 26 (rL r) ∧ w'.ownsRow (g2 + 1) 3 1 p.2 p.1 (iL ((mix (a.l.zip b.l) h.l).take p.1)) ∧ ∀ c ∈ h.l.take p.1, 0 ≤ c ∧ c ≤ 100) (fun p => a.l.length - p.1) (0, .slice none 0 0) (fun _ => rfl) rfl ⟨by show 0 ≤ _; omega, q, B1, B2, own_nil, fun a h => by simp at h⟩ ?_
  rintro ⟨j, out⟩ τ w ⟨hj, q, B1, B2, o1, hI⟩
  simp only at hj o1 hI
  obtain ⟨X1, k1, rfl⟩ := own_form o1
  refine go T_ok 200 rfl ?_
  refine condD rfl (fun hlt => ?_) (fun hlt => ?_)
  · have hlt : j < a.l.length := by omega
    obtain ⟨x, hx⟩ : ∃ x, a.l[j]? = some x := ⟨_, List.getElem?_eq_getElem hlt⟩
    obtain ⟨y, hy⟩ : ∃ x, b.l[j]? = some x := ⟨_, List.getElem?_eq_getElem (by omega)⟩
    obtain ⟨c, hc⟩ : ∃ x, h.l[j]? = some x := ⟨_, List.getElem?_eq_getElem (by omega)⟩
    obtain ⟨bx_, ox, hAx, hbx, hcx⟩ := ha.sl.elI hx
    obtain ⟨by_, oy, hAy, hby, hcy⟩ := hb.sl.elI hy
    obtain ⟨bc_, oc, hAc, hbc, hcc⟩ := hh.sl.elI hc
    have kx : ∀ w', Chg No w0 w' → w'.cell? ⟨bx_, ox + j * 1, none⟩ = some (I x) := fun w' hS => (hS.cell (a := ⟨bx_, ox + j * 1, none⟩) hbx (fun h => h)).trans hcx
    have ky : ∀ w', Chg No w0 w' → w'.cell? ⟨by_, oy + j * 1, none⟩ = some (I y) := fun w' hS => (hS.cell (a := ⟨by_, oy + j * 1, none⟩) hby (fun h => h)).trans hcy
    have kc : ∀ w', Chg No w0 w' → w'.cell? ⟨bc_, oc + j * 1, none⟩ = some (I c) := fun w' hS => (hS.cell (a := ⟨bc_, oc + j * 1, none⟩) hbc (fun h => h)).trans hcc
    have hx0 := hgg.1.1 x (List.mem_of_getElem? hx)
    have hy0 := hgg.2.1.1 y (List.mem_of_getElem? hy)
    have hxy0 := hgg.2.2 j x y hx hy
    have e3 : w64 ((j : Int) + 1) = ((j + 1 : Nat) : Int) := w64_id (by omega) (by omega)
    have hget := mix_get (zip_get hx hy) hc
    rw [hAx, hAy, hAc]
    refine go T_ok 200 rfl ?_
    refine idx T_ok rfl rfl rfl rfl rfl j rfl (by omega) ?_
    refine go T_ok 200 rfl ?_
    refine ld T_ok rfl rfl rfl rfl (kc w q) ?_
    refine go T_ok 200 rfl ?_
    refine guardD rfl rfl rfl (fun h4 => ?_) (fun h4 => ?_)
    · skip
      refine go T_ok 200 rfl ?_
      repeat (first | (refine guardA (b := true) rfl rfl rfl rfl (fun _ => ?_) (fun e => by cases e); refine go T_ok 200 rfl ?_) | (refine guardA (b := false) rfl rfl rfl rfl (fun e => by cases e) (fun _ => ?_); refine go T_ok 200 rfl ?_) | (refine condT rfl rfl ?_; refine go T_ok 200 rfl ?_) | (refine condF rfl rfl ?_; refine go T_ok 200 rfl ?_))
      refine call rfl rfl rfl (ok _ (by decide) rfl) (known_any _) ?_
      rintro v wk ⟨rfl, qk⟩
      refine go T_ok 200 rfl ?_
      exact ret (ret1 (v := .bool true) Try.results12 rfl ⟨rfl, q.trans qk⟩)
    refine go T_ok 200 rfl ?_
    refine idx T_ok rfl rfl rfl rfl rfl j rfl (by omega) ?_
    refine go T_ok 200 rfl ?_
    refine ld T_ok rfl rfl rfl rfl (kc w q) ?_
    refine go T_ok 200 rfl ?_
    refine condD rfl (fun h5 => ?_) (fun h5 => ?_)
    · refine go T_ok 200 rfl ?_
      refine call rfl rfl rfl (ok _ (by decide) rfl) (known_any _) ?_
      rintro v wk ⟨rfl, qk⟩
      refine go T_ok 200 rfl ?_
      exact ret (ret1 (v := .bool true) Try.results12 rfl ⟨rfl, q.trans qk⟩)
    have hc0 : 0 ≤ c ∧ c ≤ 100 := by omega
    refine go T_ok 200 rfl ?_
    refine draw mixed (fun w' => Chg No w0 w') ([0,1,2,3,4,5,6,7,8,9,10,11,12].map (fun i => (i, true)) ++ [(13, false)] ++ [(14, false)] ++ [(15, false)] ++ [16].map (fun i => (i, true))) rfl (by kernel_rfl) (q.trans (Chg.drew _)) ?_
    have qd := q.trans (Chg.drew w)
    have B1 := B1.no (Chg.drew w)
    have B2 := B2.no (Chg.drew w)
    have o1 := own_no o1 (Chg.drew w)
    generalize w.drew = w at *
    refine goH T_ok 200 rfl ?_
    refine quietH rfl (fun w' hS => r_idx T_ok rfl rfl rfl rfl j rfl hlt) ?_
    refine goH T_ok 200 rfl ?_
    refine quietH rfl (fun w' hS => r_load T_ok rfl rfl rfl (kx w' hS)) ?_
    refine goH T_ok 200 rfl ?_
    refine quietH rfl (fun w' hS => r_idx T_ok rfl rfl rfl rfl j rfl (by omega)) ?_
    refine goH T_ok 200 rfl ?_
    refine quietH rfl (fun w' hS => r_load T_ok rfl rfl rfl (ky w' hS)) ?_
    refine goH T_ok 200 rfl ?_
    refine quietH rfl (fun w' hS => r_idx T_ok rfl rfl rfl rfl j rfl (by omega)) ?_
    refine goH T_ok 200 rfl ?_
    refine quietH rfl (fun w' hS => r_load T_ok rfl rfl rfl (kc w' hS)) ?_
    refine goH T_ok 200 rfl ?_
    refine callE rfl rfl rfl (ok _ (by decide) rfl) (part_any x y c _ hx0.1 hxy0 (by omega) hc0.1 hc0.2) ?_
    rintro z w' ⟨rfl, rfl⟩
    refine ⟨qd, ?_⟩
    refine goH T_ok 200 rfl ?_
    have l1 := fun k (e : _ = some k) => lt_own o1 (k := k) e
    refine rowE T_ok rfl rfl rfl rfl rfl rfl (cs := [I (way (x, y) c)]) rfl ?_
    intro gg1 w hh1 hs1 pp BB1
    have qd := qd.trans pp
    refine ⟨qd, ?_⟩
    have B1 := B1.no pp
    have B2 := B2.no pp
    have o1 := own_no o1 pp
    try have o2 := own_no o2 pp
    try have o3 := own_no o3 pp
    try have BB2 := BB2.no pp
    refine goH T_ok 200 rfl ?_
    have z1 := B1.lt
    have z2 := B2.lt
    have zq := qd.size
    refine appSE T_ok rfl rfl rfl rfl rfl o1 (BB1.sl (sz := 1) (m := 1) rfl) rfl (by have := ha.ml; unfold maxLen at *; omega) (by omega) (by omega) ?_
    intro XX XC w oo pp hown
    have qd := qd.step pp (fun k hk e => by have := own_ge o1 e; omega)
    refine ⟨qd, ?_⟩
    have B1 := B1.keep pp (fun e => by have := own_ge o1 e; omega)
    have B2 := B2.keep pp (fun e => by have := own_ge o1 e; omega)
    refine goH T_ok 200 rfl ?_
    refine endH ?_
    refine go T_ok 200 rfl ?_
    rw [e3]
    have hfl : iL ((mix (a.l.zip b.l) h.l).take j) ++ [I (way (x, y) c)] = iL ((mix (a.l.zip b.l) h.l).take (j + 1)) := by rw [take_snoc hget]; simp [iL]
    rw [hfl] at oo
    refine round ⟨(j + 1, _), rfl, ⟨by show j + 1 ≤ _; omega, qd, B1, B2, oo, fun z hz => ?_⟩, by show _ - (j + 1) < _ - j; omega⟩
    rw [take_snoc hc, List.mem_append, List.mem_singleton] at hz
    rcases hz with hz | rfl
    · exact hI z hz
    · exact hc0
  have lg : (mix (a.l.zip b.l) h.l).length = a.l.length := by unfold mix; rw [List.length_zipWith, List.length_zip]; omega
  have ldm : (mix d.l m.l).length = d.l.length := by unfold mix; rw [List.length_zipWith]; omega
  obtain rfl : j = (mix (a.l.zip b.l) h.l).length := by omega
  rw [List.take_length] at o1
  rw [List.take_of_length_le (by omega)] at hI
  have SG := own_slN o1
  have hwg := Chg.size q
  clear o1
  obtain ⟨wb, hwb⟩ : ∃ n, w.heap.size = n := ⟨_, rfl⟩
  rw [hwb] at SG
  have z1 := B1.lt
  have z2 := B2.lt
  refine go T_ok 200 rfl ?_
  refine loop [1, 2, 3, 6, 7, 11, 15, 16, 17, 18, 20] (fun p : Nat × Value × Value × Value => [.slice a.A a.l.length a.c, .slice b.A b.l.length b.c, .slice d.A d.l.length d.c, .slice m.A m.l.length m.c, .pointer (some ⟨g1, 0, none⟩), .pointer (some ⟨g2, 0, none⟩), .slice X1 (mix (a.l.zip b.l) h.l).length k1, p.2.1, p.2.2.1, p.2.2.2, .int .i64 (p.1 : Int)])
    (fun p w' => p.1 ≤ d.l.length ∧ Chg No w0 w' ∧ wb ≤ w'.heap.size ∧ Bk w' g1 23 (vL v) ∧ Bk w' g2 26 (rL r) ∧ Sl w' wb 1 X1 (mix (a.l.zip b.l) h.l).length (iL (mix (a.l.zip b.l) h.l)) ∧ w'.ownsRow wb 3 1 p.2.1 p.1 (iL ((mix d.l m.l).take p.1)) ∧ w'.ownsRow wb 3 1 p.2.2.1 p.1 (iL ((d.l.map (·.1)).take p.1)) ∧ w'.ownsRow wb 3 1 p.2.2.2 p.1 (iL ((d.l.map (·.2)).take p.1)) ∧
      NeO p.2.1 p.2.2.1 ∧ NeO p.2.1 p.2.2.2 ∧ NeO p.2.2.1 p.2.2.2 ∧ ∀ c ∈ m.l.take p.1, 0 ≤ c ∧ c ≤ 100) (fun p => d.l.length - p.1) (0, .slice none 0 0, .slice none 0 0, .slice none 0 0) (fun _ => rfl) rfl ⟨by show 0 ≤ _; omega, q, by omega, B1, B2, SG, own_nil, own_nil, own_nil, neO_nil _, neO_nil _, neO_nil _, fun a h => by simp at h⟩ ?_
  rintro ⟨i, x1, x2, x3⟩ τ w ⟨hi, q, hwb2, B1, B2, SG, o1, o2, o3, n12, n13, n23, hM⟩
  simp only at hi o1 o2 o3 n12 n13 n23 hM
  obtain ⟨X2, k2, rfl⟩ := own_form o1
  obtain ⟨X3, k3, rfl⟩ := own_form o2
  obtain ⟨X4, k4, rfl⟩ := own_form o3
  have n21 := n12.symm
  have n31 := n13.symm
  have n32 := n23.symm
  refine go T_ok 200 rfl ?_
  refine condD rfl (fun hlt => ?_) (fun hlt => ?_)
  · have hlt : i < d.l.length := by omega
    obtain ⟨s, hs'⟩ : ∃ x, d.l[i]? = some x := ⟨_, List.getElem?_eq_getElem hlt⟩
    obtain ⟨c, hc⟩ : ∃ x, m.l[i]? = some x := ⟨_, List.getElem?_eq_getElem (by omega)⟩
    obtain ⟨bx_, ox, hAx, hbx, hcx⟩ := hd.2.2.1.el cL_len hs'
    obtain ⟨bc_, oc, hAc, hbc, hcc⟩ := hm.sl.elI hc
    have kx : ∀ (n : Nat) (z : Value), nth? (cL s) n = some z → ∀ w', Chg No w0 w' → w'.cell? ⟨bx_, ox + i * 2 + n, none⟩ = some z := fun n z hz w' hS => (hS.cell (a := ⟨bx_, ox + i * 2 + n, none⟩) hbx (fun h => h)).trans (hcx.get hz)
    have kc : ∀ w', Chg No w0 w' → w'.cell? ⟨bc_, oc + i * 1, none⟩ = some (I c) := fun w' hS => (hS.cell (a := ⟨bc_, oc + i * 1, none⟩) hbc (fun h => h)).trans hcc
    have hs0 := hs.1 s (List.mem_of_getElem? hs')
    have e3 : w64 ((i : Int) + 1) = ((i + 1 : Nat) : Int) := w64_id (by omega) (by omega)
    have hget := mix_get hs' hc
    have hg1' : (d.l.map (·.1))[i]? = some s.1 := by rw [List.getElem?_map, hs']; rfl
    have hg2' : (d.l.map (·.2))[i]? = some s.2 := by rw [List.getElem?_map, hs']; rfl
    have hf1 : iL ((mix d.l m.l).take i) ++ [I (way (s.1, s.2) c)] = iL ((mix d.l m.l).take (i + 1)) := by rw [take_snoc hget]; simp [iL]
    have hf2 : iL ((d.l.map (·.1)).take i) ++ [I s.1] = iL ((d.l.map (·.1)).take (i + 1)) := by rw [take_snoc hg1']; simp [iL]
    have hf3 : iL ((d.l.map (·.2)).take i) ++ [I s.2] = iL ((d.l.map (·.2)).take (i + 1)) := by rw [take_snoc hg2']; simp [iL]
    rw [hAx, hAc]
    refine go T_ok 200 rfl ?_
    refine idx T_ok rfl rfl rfl rfl rfl i rfl (by omega) ?_
    refine go T_ok 200 rfl ?_
    refine ld T_ok rfl rfl rfl rfl (kc w q) ?_
    refine go T_ok 200 rfl ?_
    refine guardD rfl rfl rfl (fun h4 => ?_) (fun h4 => ?_)
    · skip
      refine go T_ok 200 rfl ?_
      repeat (first | (refine guardA (b := true) rfl rfl rfl rfl (fun _ => ?_) (fun e => by cases e); refine go T_ok 200 rfl ?_) | (refine guardA (b := false) rfl rfl rfl rfl (fun e => by cases e) (fun _ => ?_); refine go T_ok 200 rfl ?_) | (refine condT rfl rfl ?_; refine go T_ok 200 rfl ?_) | (refine condF rfl rfl ?_; refine go T_ok 200 rfl ?_))
      refine call rfl rfl rfl (ok _ (by decide) rfl) (known_any _) ?_
      rintro v wk ⟨rfl, qk⟩
      refine go T_ok 200 rfl ?_
      exact ret (ret1 (v := .bool true) Try.results12 rfl ⟨rfl, q.trans qk⟩)
    refine go T_ok 200 rfl ?_
    refine idx T_ok rfl rfl rfl rfl rfl i rfl (by omega) ?_
    refine go T_ok 200 rfl ?_
    refine ld T_ok rfl rfl rfl rfl (kc w q) ?_
    refine go T_ok 200 rfl ?_
    refine condD rfl (fun h5 => ?_) (fun h5 => ?_)
    · refine go T_ok 200 rfl ?_
      refine call rfl rfl rfl (ok _ (by decide) rfl) (known_any _) ?_
      rintro v wk ⟨rfl, qk⟩
      refine go T_ok 200 rfl ?_
      exact ret (ret1 (v := .bool true) Try.results12 rfl ⟨rfl, q.trans qk⟩)
    have hc0 : 0 ≤ c ∧ c ≤ 100 := by omega
    have hM2 : ∀ c ∈ m.l.take (i + 1), 0 ≤ c ∧ c ≤ 100 := fun z hz => by
      rw [take_snoc hc, List.mem_append, List.mem_singleton] at hz
      rcases hz with hz | rfl
      · exact hM z hz
      · exact hc0
    refine go T_ok 200 rfl ?_
    refine draw mixed (fun w' => Chg No w0 w') ([0,1,2,3,4,5,6,7,8,9,10,11,12,13,14].map (fun i => (i, true)) ++ [(15, false)] ++ [(16, false)] ++ [(17, false)] ++ [18].map (fun i => (i, true))) rfl (by kernel_rfl) (q.trans (Chg.drew _)) ?_
    have qd := q.trans (Chg.drew w)
    have hwc := Nat.le_trans hwb2 (Chg.drew w).size
    have B1 := B1.no (Chg.drew w)
    have B2 := B2.no (Chg.drew w)
    have SG := SG.no (Chg.drew w)
    have o1 := own_no o1 (Chg.drew w)
    have o2 := own_no o2 (Chg.drew w)
    have o3 := own_no o3 (Chg.drew w)
    generalize w.drew = w at *
    refine goH T_ok 200 rfl ?_
    refine quietH rfl (fun w' hS => r_idx T_ok rfl rfl rfl rfl i rfl hlt) ?_
    refine goH T_ok 200 rfl ?_
    refine quietH rfl (fun w' hS => r_load T_ok rfl rfl rfl (kx 0 _ rfl w' hS)) ?_
    refine goH T_ok 200 rfl ?_
    refine quietH rfl (fun w' hS => r_idx T_ok rfl rfl rfl rfl i rfl hlt) ?_
    refine goH T_ok 200 rfl ?_
    refine quietH rfl (fun w' hS => r_load T_ok rfl rfl rfl (kx 1 _ rfl w' hS)) ?_
    refine goH T_ok 200 rfl ?_
    refine quietH rfl (fun w' hS => r_idx T_ok rfl rfl rfl rfl i rfl (by omega)) ?_
    refine goH T_ok 200 rfl ?_
    refine quietH rfl (fun w' hS => r_load T_ok rfl rfl rfl (kc w' hS)) ?_
    refine goH T_ok 200 rfl ?_
    refine callE rfl rfl rfl (ok _ (by decide) rfl) (part_any s.1 s.2 c _ hs0.1 hs0.2.1 (by omega) hc0.1 hc0.2) ?_
    rintro z w' ⟨rfl, rfl⟩
    refine ⟨qd, ?_⟩
    refine goH T_ok 200 rfl ?_
    have m12 := fun k (e : _ = some k) => lt_own o2 (k := k) e
    have m13 := fun k (e : _ = some k) => lt_own o3 (k := k) e
    refine rowE T_ok rfl rfl rfl rfl rfl rfl (cs := [I (way (s.1, s.2) c)]) rfl ?_
    intro gg1 w hh1 hs1 pp BB1
    have qd := qd.trans pp
    refine ⟨qd, ?_⟩
    have hwc := Nat.le_trans hwc pp.size
    have B1 := B1.no pp
    have B2 := B2.no pp
    have SG := SG.no pp
    have o1 := own_no o1 pp
    have o2 := own_no o2 pp
    have o3 := own_no o3 pp
    try have BB2 := BB2.no pp
    try have BB3 := BB3.no pp
    refine goH T_ok 200 rfl ?_
    have lo2 := fun k (e : _ = some k) => lt_own o2 (k := k) e
    have lo3 := fun k (e : _ = some k) => lt_own o3 (k := k) e
    refine appSE T_ok rfl rfl rfl rfl rfl o1 (BB1.sl (sz := 1) (m := 1) rfl) rfl (by have := hd.ml; unfold maxLen at *; omega) (by omega) hwc ?_
    intro XX XC w oo pp hown
    have qd := qd.step pp (fun k hk e => by have := own_ge o1 e; omega)
    refine ⟨qd, ?_⟩
    have hwc := Nat.le_trans hwc pp.size
    have B1 := B1.keep pp (fun e => by have := own_ge o1 e; omega)
    have B2 := B2.keep pp (fun e => by have := own_ge o1 e; omega)
    have SG := SG.keep pp (fun k hk e => by have := own_ge o1 e; omega)
    try have BB2 := BB2.keep pp (fun e => by have := m21 _ e; omega)
    try have BB3 := BB3.keep pp (fun e => by have := m31 _ e; omega)
    have o2 := own_keep o2 pp (fun k e e2 => n12 k e2 e)
    have o3 := own_keep o3 pp (fun k e e2 => n13 k e2 e)
    have n12 := n12.app hown lo2
    have n13 := n13.app hown lo3
    have n21 := n12.symm
    have n31 := n13.symm
    have o1 := oo
    refine goH T_ok 200 rfl ?_
    refine endH ?_
    have q := qd
    have hwb2 := hwc
    clear qd
    rw [hf1] at o1
    refine go T_ok 200 rfl ?_
    refine drawT mixed (fun w' => Chg No w0 w') ap2 (by kernel_rfl) (q.trans (Chg.drew _)) ?_
    have qd := q.trans (Chg.drew w)
    have hwc := Nat.le_trans hwb2 (Chg.drew w).size
    have B1 := B1.no (Chg.drew w)
    have B2 := B2.no (Chg.drew w)
    have SG := SG.no (Chg.drew w)
    have o1 := own_no o1 (Chg.drew w)
    have o2 := own_no o2 (Chg.drew w)
    have o3 := own_no o3 (Chg.drew w)
    generalize w.drew = w at *
    refine segK rfl ?_
    refine goH T_ok 200 rfl ?_
    refine quietH rfl (fun w' hS => r_idx T_ok rfl rfl rfl rfl i rfl hlt) ?_
    refine goH T_ok 200 rfl ?_
    refine quietH rfl (fun w' hS => r_load T_ok rfl rfl rfl (kx 0 _ rfl w' hS)) ?_
    refine goH T_ok 200 rfl ?_
    refine quietH rfl (fun w' hS => r_idx T_ok rfl rfl rfl rfl i rfl hlt) ?_
    refine goH T_ok 200 rfl ?_
    refine quietH rfl (fun w' hS => r_load T_ok rfl rfl rfl (kx 1 _ rfl w' hS)) ?_
    refine goH T_ok 200 rfl ?_
    refine forkK qd ?_ ?_
    · refine segK rfl ?_
      have m21 := fun k (e : _ = some k) => lt_own o1 (k := k) e
      have m23 := fun k (e : _ = some k) => lt_own o3 (k := k) e
      refine rowE T_ok rfl rfl rfl rfl rfl rfl (cs := [I (s.1)]) rfl ?_
      intro gg2 w hh2 hs2 pp BB2
      have qd := qd.trans pp
      refine ⟨qd, ?_⟩
      have hwc := Nat.le_trans hwc pp.size
      have B1 := B1.no pp
      have B2 := B2.no pp
      have SG := SG.no pp
      have o1 := own_no o1 pp
      have o2 := own_no o2 pp
      have o3 := own_no o3 pp
      try have BB1 := BB1.no pp
      try have BB3 := BB3.no pp
      refine goH T_ok 200 rfl ?_
      refine forkK qd ?_ ?_
      · refine segF rfl ?_
        have lo1 := fun k (e : _ = some k) => lt_own o1 (k := k) e
        have lo3 := fun k (e : _ = some k) => lt_own o3 (k := k) e
        refine appSE T_ok rfl rfl rfl rfl rfl o2 (BB2.sl (sz := 1) (m := 1) rfl) rfl (by have := hd.ml; unfold maxLen at *; omega) (by omega) hwc ?_
        intro XX XC w oo pp hown
        have qd := qd.step pp (fun k hk e => by have := own_ge o2 e; omega)
        refine ⟨qd, ?_⟩
        have hwc := Nat.le_trans hwc pp.size
        have B1 := B1.keep pp (fun e => by have := own_ge o2 e; omega)
        have B2 := B2.keep pp (fun e => by have := own_ge o2 e; omega)
        have SG := SG.keep pp (fun k hk e => by have := own_ge o2 e; omega)
        try have BB1 := BB1.keep pp (fun e => by have := m12 _ e; omega)
        try have BB3 := BB3.keep pp (fun e => by have := m32 _ e; omega)
        have o1 := own_keep o1 pp (fun k e e2 => n21 k e2 e)
        have o3 := own_keep o3 pp (fun k e e2 => n23 k e2 e)
        have n21 := n21.app hown lo1
        have n23 := n23.app hown lo3
        have n12 := n21.symm
        have n32 := n23.symm
        have o2 := oo
        refine goH T_ok 200 rfl ?_
        have m31 := fun k (e : _ = some k) => lt_own o1 (k := k) e
        have m32 := fun k (e : _ = some k) => lt_own o2 (k := k) e
        refine rowE T_ok rfl rfl rfl rfl rfl rfl (cs := [I (s.2)]) rfl ?_
        intro gg3 w hh3 hs3 pp BB3
        have qd := qd.trans pp
        refine ⟨qd, ?_⟩
        have hwc := Nat.le_trans hwc pp.size
        have B1 := B1.no pp
        have B2 := B2.no pp
        have SG := SG.no pp
        have o1 := own_no o1 pp
        have o2 := own_no o2 pp
        have o3 := own_no o3 pp
        try have BB1 := BB1.no pp
        try have BB2 := BB2.no pp
        refine goH T_ok 200 rfl ?_
        have lo1 := fun k (e : _ = some k) => lt_own o1 (k := k) e
        have lo2 := fun k (e : _ = some k) => lt_own o2 (k := k) e
        refine appSE T_ok rfl rfl rfl rfl rfl o3 (BB3.sl (sz := 1) (m := 1) rfl) rfl (by have := hd.ml; unfold maxLen at *; omega) (by omega) hwc ?_
        intro XX XC w oo pp hown
        have qd := qd.step pp (fun k hk e => by have := own_ge o3 e; omega)
        refine ⟨qd, ?_⟩
        have hwc := Nat.le_trans hwc pp.size
        have B1 := B1.keep pp (fun e => by have := own_ge o3 e; omega)
        have B2 := B2.keep pp (fun e => by have := own_ge o3 e; omega)
        have SG := SG.keep pp (fun k hk e => by have := own_ge o3 e; omega)
        try have BB1 := BB1.keep pp (fun e => by have := m13 _ e; omega)
        try have BB2 := BB2.keep pp (fun e => by have := m23 _ e; omega)
        have o1 := own_keep o1 pp (fun k e e2 => n31 k e2 e)
        have o2 := own_keep o2 pp (fun k e e2 => n32 k e2 e)
        have n31 := n31.app hown lo1
        have n32 := n32.app hown lo2
        have n13 := n31.symm
        have n23 := n32.symm
        have o3 := oo
        refine goH T_ok 200 rfl ?_
        refine endH ?_
        refine go T_ok 200 rfl ?_
        rw [e3]
        rw [hf2] at o2
        rw [hf3] at o3
        exact round ⟨(i + 1, _, _, _), rfl, ⟨by show i + 1 ≤ _; omega, qd, hwc, B1, B2, SG, o1, o2, o3, n12, n13, n23, hM2⟩, by show _ - (i + 1) < _ - i; omega⟩
      · refine segF rfl ?_
        have m31 := fun k (e : _ = some k) => lt_own o1 (k := k) e
        have m32 := fun k (e : _ = some k) => lt_own o2 (k := k) e
        refine rowE T_ok rfl rfl rfl rfl rfl rfl (cs := [I (s.2)]) rfl ?_
        intro gg3 w hh3 hs3 pp BB3
        have qd := qd.trans pp
        refine ⟨qd, ?_⟩
        have hwc := Nat.le_trans hwc pp.size
        have B1 := B1.no pp
        have B2 := B2.no pp
        have SG := SG.no pp
        have o1 := own_no o1 pp
        have o2 := own_no o2 pp
        have o3 := own_no o3 pp
        try have BB1 := BB1.no pp
        try have BB2 := BB2.no pp
        refine goH T_ok 200 rfl ?_
        have lo1 := fun k (e : _ = some k) => lt_own o1 (k := k) e
        have lo3 := fun k (e : _ = some k) => lt_own o3 (k := k) e
        refine appSE T_ok rfl rfl rfl rfl rfl o2 (BB2.sl (sz := 1) (m := 1) rfl) rfl (by have := hd.ml; unfold maxLen at *; omega) (by omega) hwc ?_
        intro XX XC w oo pp hown
        have qd := qd.step pp (fun k hk e => by have := own_ge o2 e; omega)
        refine ⟨qd, ?_⟩
        have hwc := Nat.le_trans hwc pp.size
        have B1 := B1.keep pp (fun e => by have := own_ge o2 e; omega)
        have B2 := B2.keep pp (fun e => by have := own_ge o2 e; omega)
        have SG := SG.keep pp (fun k hk e => by have := own_ge o2 e; omega)
        try have BB1 := BB1.keep pp (fun e => by have := m12 _ e; omega)
        try have BB3 := BB3.keep pp (fun e => by have := m32 _ e; omega)
        have o1 := own_keep o1 pp (fun k e e2 => n21 k e2 e)
        have o3 := own_keep o3 pp (fun k e e2 => n23 k e2 e)
        have n21 := n21.app hown lo1
        have n23 := n23.app hown lo3
        have n12 := n21.symm
        have n32 := n23.symm
        have o2 := oo
        refine goH T_ok 200 rfl ?_
        have lo1 := fun k (e : _ = some k) => lt_own o1 (k := k) e
        have lo2 := fun k (e : _ = some k) => lt_own o2 (k := k) e
        refine appSE T_ok rfl rfl rfl rfl rfl o3 (BB3.sl (sz := 1) (m := 1) rfl) rfl (by have := hd.ml; unfold maxLen at *; omega) (by omega) hwc ?_
        intro XX XC w oo pp hown
        have qd := qd.step pp (fun k hk e => by have := own_ge o3 e; omega)
        refine ⟨qd, ?_⟩
        have hwc := Nat.le_trans hwc pp.size
        have B1 := B1.keep pp (fun e => by have := own_ge o3 e; omega)
        have B2 := B2.keep pp (fun e => by have := own_ge o3 e; omega)
        have SG := SG.keep pp (fun k hk e => by have := own_ge o3 e; omega)
        try have BB1 := BB1.keep pp (fun e => by have := m13 _ e; omega)
        try have BB2 := BB2.keep pp (fun e => by have := m23 _ e; omega)
        have o1 := own_keep o1 pp (fun k e e2 => n31 k e2 e)
        have o2 := own_keep o2 pp (fun k e e2 => n32 k e2 e)
        have n31 := n31.app hown lo1
        have n32 := n32.app hown lo2
        have n13 := n31.symm
        have n23 := n32.symm
        have o3 := oo
        refine goH T_ok 200 rfl ?_
        refine endH ?_
        refine go T_ok 200 rfl ?_
        rw [e3]
        rw [hf2] at o2
        rw [hf3] at o3
        exact round ⟨(i + 1, _, _, _), rfl, ⟨by show i + 1 ≤ _; omega, qd, hwc, B1, B2, SG, o1, o2, o3, n12, n13, n23, hM2⟩, by show _ - (i + 1) < _ - i; omega⟩
    · refine segF rfl ?_
      have m31 := fun k (e : _ = some k) => lt_own o1 (k := k) e
      have m32 := fun k (e : _ = some k) => lt_own o2 (k := k) e
      refine rowE T_ok rfl rfl rfl rfl rfl rfl (cs := [I (s.2)]) rfl ?_
      intro gg3 w hh3 hs3 pp BB3
      have qd := qd.trans pp
      refine ⟨qd, ?_⟩
      have hwc := Nat.le_trans hwc pp.size
      have B1 := B1.no pp
      have B2 := B2.no pp
      have SG := SG.no pp
      have o1 := own_no o1 pp
      have o2 := own_no o2 pp
      have o3 := own_no o3 pp
      try have BB1 := BB1.no pp
      try have BB2 := BB2.no pp
      refine goH T_ok 200 rfl ?_
      have m21 := fun k (e : _ = some k) => lt_own o1 (k := k) e
      have m23 := fun k (e : _ = some k) => lt_own o3 (k := k) e
      refine rowE T_ok rfl rfl rfl rfl rfl rfl (cs := [I (s.1)]) rfl ?_
      intro gg2 w hh2 hs2 pp BB2
      have qd := qd.trans pp
      refine ⟨qd, ?_⟩
      have hwc := Nat.le_trans hwc pp.size
      have B1 := B1.no pp
      have B2 := B2.no pp
      have SG := SG.no pp
      have o1 := own_no o1 pp
      have o2 := own_no o2 pp
      have o3 := own_no o3 pp
      try have BB1 := BB1.no pp
      try have BB3 := BB3.no pp
      refine goH T_ok 200 rfl ?_
      have lo1 := fun k (e : _ = some k) => lt_own o1 (k := k) e
      have lo3 := fun k (e : _ = some k) => lt_own o3 (k := k) e
      refine appSE T_ok rfl rfl rfl rfl rfl o2 (BB2.sl (sz := 1) (m := 1) rfl) rfl (by have := hd.ml; unfold maxLen at *; omega) (by omega) hwc ?_
      intro XX XC w oo pp hown
      have qd := qd.step pp (fun k hk e => by have := own_ge o2 e; omega)
      refine ⟨qd, ?_⟩
      have hwc := Nat.le_trans hwc pp.size
      have B1 := B1.keep pp (fun e => by have := own_ge o2 e; omega)
      have B2 := B2.keep pp (fun e => by have := own_ge o2 e; omega)
      have SG := SG.keep pp (fun k hk e => by have := own_ge o2 e; omega)
      try have BB1 := BB1.keep pp (fun e => by have := m12 _ e; omega)
      try have BB3 := BB3.keep pp (fun e => by have := m32 _ e; omega)
      have o1 := own_keep o1 pp (fun k e e2 => n21 k e2 e)
      have o3 := own_keep o3 pp (fun k e e2 => n23 k e2 e)
      have n21 := n21.app hown lo1
      have n23 := n23.app hown lo3
      have n12 := n21.symm
      have n32 := n23.symm
      have o2 := oo
      refine goH T_ok 200 rfl ?_
      have lo1 := fun k (e : _ = some k) => lt_own o1 (k := k) e
      have lo2 := fun k (e : _ = some k) => lt_own o2 (k := k) e
      refine appSE T_ok rfl rfl rfl rfl rfl o3 (BB3.sl (sz := 1) (m := 1) rfl) rfl (by have := hd.ml; unfold maxLen at *; omega) (by omega) hwc ?_
      intro XX XC w oo pp hown
      have qd := qd.step pp (fun k hk e => by have := own_ge o3 e; omega)
      refine ⟨qd, ?_⟩
      have hwc := Nat.le_trans hwc pp.size
      have B1 := B1.keep pp (fun e => by have := own_ge o3 e; omega)
      have B2 := B2.keep pp (fun e => by have := own_ge o3 e; omega)
      have SG := SG.keep pp (fun k hk e => by have := own_ge o3 e; omega)
      try have BB1 := BB1.keep pp (fun e => by have := m13 _ e; omega)
      try have BB2 := BB2.keep pp (fun e => by have := m23 _ e; omega)
      have o1 := own_keep o1 pp (fun k e e2 => n31 k e2 e)
      have o2 := own_keep o2 pp (fun k e e2 => n32 k e2 e)
      have n31 := n31.app hown lo1
      have n32 := n32.app hown lo2
      have n13 := n31.symm
      have n23 := n32.symm
      have o3 := oo
      refine goH T_ok 200 rfl ?_
      refine endH ?_
      refine go T_ok 200 rfl ?_
      rw [e3]
      rw [hf2] at o2
      rw [hf3] at o3
      exact round ⟨(i + 1, _, _, _), rfl, ⟨by show i + 1 ≤ _; omega, qd, hwc, B1, B2, SG, o1, o2, o3, n12, n13, n23, hM2⟩, by show _ - (i + 1) < _ - i; omega⟩
  · have hll1 : (d.l.map (·.1)).length = d.l.length := List.length_map ..
    have hll2 : (d.l.map (·.2)).length = d.l.length := List.length_map ..
    have hjl : i = d.l.length := by omega
    rw [hjl, List.take_of_length_le (by omega)] at o1 o2 o3 hM
    rw [hjl]
    have St1 := own_slN o1
    have St2 := own_slN o2
    have St3 := own_slN o3
    obtain ⟨t1, t2, t3, t4, t5, t6⟩ := true_law (r := r) hv hgg hs hl hI hl2 hM
    have Sa := ha.sl.no q
    have Sb := hb.sl.no q
    have Sd := hd.2.2.1.no q
    have hR : bnR v r a.l b.l d.l = ((opS v r a.l (dnl (d.l.map (·.1))), opS v r b.l (dnl (d.l.map (·.2)))), 0) := by unfold bnR; rw [if_pos ⟨⟨hv, hr, hgg.1⟩, hgg.2.1, hgg.2.2, hs⟩]
    have hO1 : opR v r (mix (a.l.zip b.l) h.l) (mix d.l m.l) = (opS v r (mix (a.l.zip b.l) h.l) (dnl (mix d.l m.l)), 0) := by unfold opR; rw [if_pos ⟨⟨hv, hr, t1⟩, t2⟩]
    have hO2 : opR v r a.l (d.l.map (·.1)) = (opS v r a.l (dnl (d.l.map (·.1))), 0) := by unfold opR; rw [if_pos ⟨⟨hv, hr, hgg.1⟩, t3⟩]
    have hO3 : opR v r b.l (d.l.map (·.2)) = (opS v r b.l (dnl (d.l.map (·.2))), 0) := by unfold opR; rw [if_pos ⟨⟨hv, hr, hgg.2.1⟩, t4⟩]
    generalize opS v r a.l (dnl (d.l.map (·.1))) = P1 at *
    generalize opS v r b.l (dnl (d.l.map (·.2))) = P2 at *
    generalize opS v r (mix (a.l.zip b.l) h.l) (dnl (mix d.l m.l)) = P3 at *
    have hmd := hd.ml
    have hma := ha.ml
    have hK1 := fun (n1 n2 : Nat) w St1 SG => Opacity_any v r (mix (a.l.zip b.l) h.l) (mix d.l m.l) X1 X2 k1 k2 n1 n2 w (by omega) SG (by omega) St1
    have hK2 := fun (n1 n2 : Nat) w St2 Sa => Opacity_any v r a.l (d.l.map (·.1)) a.A X3 a.c k3 n1 n2 w hma Sa (by omega) St2
    have hK3 := fun (n1 n2 : Nat) w St3 Sb => Opacity_any v r b.l (d.l.map (·.2)) b.A X4 b.c k4 n1 n2 w hb.ml Sb (by omega) St3
    rw [hO1] at hK1
    rw [hO2] at hK2
    rw [hO3] at hK3
    rw [ldm] at hK1
    rw [hll1] at hK2
    rw [hll2] at hK3
    refine go T_ok 200 rfl ?_
    repeat (first | (refine ldA T_ok rfl rfl rfl rfl rfl (Bk.all B1) ?_; refine go T_ok 200 rfl ?_) | (refine ldA T_ok rfl rfl rfl rfl rfl (Bk.all B2) ?_; refine go T_ok 200 rfl ?_) | (refine ld T_ok rfl rfl rfl rfl (Bk.get B1 rfl) ?_; refine go T_ok 200 rfl ?_) | (refine ld T_ok rfl rfl rfl rfl (Bk.get B2 rfl) ?_; refine go T_ok 200 rfl ?_) | (refine guardA (b := true) rfl rfl rfl rfl (fun _ => ?_) (fun e => by cases e); refine go T_ok 200 rfl ?_) | (refine guardA (b := false) rfl rfl rfl rfl (fun e => by cases e) (fun _ => ?_); refine go T_ok 200 rfl ?_) | (refine condT rfl rfl ?_; refine go T_ok 200 rfl ?_) | (refine condF rfl rfl ?_; refine go T_ok 200 rfl ?_))
    refine call rfl rfl rfl (ok _ (by decide) rfl) (Bounds_any v r a.l b.l d.l a.A b.A d.A a.c b.c d.c _ _ _ _ ha.ml hb.ml hd.ml Sa Sb Sd) ?_
    rintro x w ⟨rfl, qk⟩
    have B1 := B1.no qk
    have B2 := B2.no qk
    have Sa := Sa.no qk
    have Sb := Sb.no qk
    have Sd := Sd.no qk
    have SG := SG.no qk
    have St1 := St1.no qk
    have St2 := St2.no qk
    have St3 := St3.no qk
    have q := q.trans qk
    rw [hR]
    refine go T_ok 200 rfl ?_
    have yB1 := B1.lt
    have yB2 := B2.lt
    have ySa := Sa.2.1
    have ySb := Sb.2.1
    have ySd := Sd.2.1
    have ySG := SG.2.1
    have ySt1 := St1.2.1
    have ySt2 := St2.2.1
    have ySt3 := St3.2.1
    have yq := q.size
    refine nw rfl rfl (z := .agg #[I 0, I 0]) (by kernel_rfl) (cs := [I 0, I 0]) rfl ?_
    intro g3 w hg3 hs3 qk B3
    have B1 := B1.no qk
    have B2 := B2.no qk
    have Sa := Sa.no qk
    have Sb := Sb.no qk
    have Sd := Sd.no qk
    have SG := SG.no qk
    have St1 := St1.no qk
    have St2 := St2.no qk
    have St3 := St3.no qk
    have q := q.trans qk
    refine go T_ok 200 rfl ?_
    refine stA T_ok rfl rfl rfl rfl (vs := cL (P1, P2)) rfl rfl rfl B3 rfl ?_
    intro w qk B3 hz3
    have B3 : Bk w g3 72 (cL (P1, P2)) := B3
    have B1 := Bk.keep B1 qk (by omega)
    have B2 := Bk.keep B2 qk (by omega)
    have Sa := Sl.keep Sa qk (fun k hk e => by omega)
    have Sb := Sl.keep Sb qk (fun k hk e => by omega)
    have Sd := Sl.keep Sd qk (fun k hk e => by omega)
    have SG := Sl.keep SG qk (fun k hk e => by omega)
    have St1 := Sl.keep St1 qk (fun k hk e => by omega)
    have St2 := Sl.keep St2 qk (fun k hk e => by omega)
    have St3 := Sl.keep St3 qk (fun k hk e => by omega)
    have q := q.step qk (fun k hk e => by omega)
    refine go T_ok 200 rfl ?_
    repeat (first | (refine ldA T_ok rfl rfl rfl rfl rfl (Bk.all B1) ?_; refine go T_ok 200 rfl ?_) | (refine ldA T_ok rfl rfl rfl rfl rfl (Bk.all B2) ?_; refine go T_ok 200 rfl ?_) | (refine ldA T_ok rfl rfl rfl rfl rfl (Bk.all B3) ?_; refine go T_ok 200 rfl ?_) | (refine ld T_ok rfl rfl rfl rfl (Bk.get B1 rfl) ?_; refine go T_ok 200 rfl ?_) | (refine ld T_ok rfl rfl rfl rfl (Bk.get B2 rfl) ?_; refine go T_ok 200 rfl ?_) | (refine ld T_ok rfl rfl rfl rfl (Bk.get B3 rfl) ?_; refine go T_ok 200 rfl ?_) | (refine guardA (b := true) rfl rfl rfl rfl (fun _ => ?_) (fun e => by cases e); refine go T_ok 200 rfl ?_) | (refine guardA (b := false) rfl rfl rfl rfl (fun e => by cases e) (fun _ => ?_); refine go T_ok 200 rfl ?_) | (refine condT rfl rfl ?_; refine go T_ok 200 rfl ?_) | (refine condF rfl rfl ?_; refine go T_ok 200 rfl ?_))
    refine call rfl rfl rfl (ok _ (by decide) rfl) (hK1 _ _ _ St1 SG) ?_
    rintro x w ⟨rfl, qk⟩
    have B1 := B1.no qk
    have B2 := B2.no qk
    have Sa := Sa.no qk
    have Sb := Sb.no qk
    have Sd := Sd.no qk
    have SG := SG.no qk
    have St1 := St1.no qk
    have St2 := St2.no qk
    have St3 := St3.no qk
    have B3 := B3.no qk
    have q := q.trans qk
    refine go T_ok 200 rfl ?_
    repeat (first | (refine ldA T_ok rfl rfl rfl rfl rfl (Bk.all B1) ?_; refine go T_ok 200 rfl ?_) | (refine ldA T_ok rfl rfl rfl rfl rfl (Bk.all B2) ?_; refine go T_ok 200 rfl ?_) | (refine ldA T_ok rfl rfl rfl rfl rfl (Bk.all B3) ?_; refine go T_ok 200 rfl ?_) | (refine ld T_ok rfl rfl rfl rfl (Bk.get B1 rfl) ?_; refine go T_ok 200 rfl ?_) | (refine ld T_ok rfl rfl rfl rfl (Bk.get B2 rfl) ?_; refine go T_ok 200 rfl ?_) | (refine ld T_ok rfl rfl rfl rfl (Bk.get B3 rfl) ?_; refine go T_ok 200 rfl ?_) | (refine guardA (b := true) rfl rfl rfl rfl (fun _ => ?_) (fun e => by cases e); refine go T_ok 200 rfl ?_) | (refine guardA (b := false) rfl rfl rfl rfl (fun e => by cases e) (fun _ => ?_); refine go T_ok 200 rfl ?_) | (refine condT rfl rfl ?_; refine go T_ok 200 rfl ?_) | (refine condF rfl rfl ?_; refine go T_ok 200 rfl ?_))
    refine call rfl rfl rfl (ok _ (by decide) rfl) (hK2 _ _ _ St2 Sa) ?_
    rintro x w ⟨rfl, qk⟩
    have B1 := B1.no qk
    have B2 := B2.no qk
    have Sa := Sa.no qk
    have Sb := Sb.no qk
    have Sd := Sd.no qk
    have SG := SG.no qk
    have St1 := St1.no qk
    have St2 := St2.no qk
    have St3 := St3.no qk
    have B3 := B3.no qk
    have q := q.trans qk
    refine go T_ok 200 rfl ?_
    repeat (first | (refine ldA T_ok rfl rfl rfl rfl rfl (Bk.all B1) ?_; refine go T_ok 200 rfl ?_) | (refine ldA T_ok rfl rfl rfl rfl rfl (Bk.all B2) ?_; refine go T_ok 200 rfl ?_) | (refine ldA T_ok rfl rfl rfl rfl rfl (Bk.all B3) ?_; refine go T_ok 200 rfl ?_) | (refine ld T_ok rfl rfl rfl rfl (Bk.get B1 rfl) ?_; refine go T_ok 200 rfl ?_) | (refine ld T_ok rfl rfl rfl rfl (Bk.get B2 rfl) ?_; refine go T_ok 200 rfl ?_) | (refine ld T_ok rfl rfl rfl rfl (Bk.get B3 rfl) ?_; refine go T_ok 200 rfl ?_) | (refine guardA (b := true) rfl rfl rfl rfl (fun _ => ?_) (fun e => by cases e); refine go T_ok 200 rfl ?_) | (refine guardA (b := false) rfl rfl rfl rfl (fun e => by cases e) (fun _ => ?_); refine go T_ok 200 rfl ?_) | (refine condT rfl rfl ?_; refine go T_ok 200 rfl ?_) | (refine condF rfl rfl ?_; refine go T_ok 200 rfl ?_))
    refine call rfl rfl rfl (ok _ (by decide) rfl) (hK3 _ _ _ St3 Sb) ?_
    rintro x w ⟨rfl, qk⟩
    have B1 := B1.no qk
    have B2 := B2.no qk
    have Sa := Sa.no qk
    have Sb := Sb.no qk
    have Sd := Sd.no qk
    have SG := SG.no qk
    have St1 := St1.no qk
    have St2 := St2.no qk
    have St3 := St3.no qk
    have B3 := B3.no qk
    have q := q.trans qk
    refine go T_ok 200 rfl ?_
    repeat (first | (refine ldA T_ok rfl rfl rfl rfl rfl (Bk.all B1) ?_; refine go T_ok 200 rfl ?_) | (refine ldA T_ok rfl rfl rfl rfl rfl (Bk.all B2) ?_; refine go T_ok 200 rfl ?_) | (refine ldA T_ok rfl rfl rfl rfl rfl (Bk.all B3) ?_; refine go T_ok 200 rfl ?_) | (refine ld T_ok rfl rfl rfl rfl (Bk.get B1 rfl) ?_; refine go T_ok 200 rfl ?_) | (refine ld T_ok rfl rfl rfl rfl (Bk.get B2 rfl) ?_; refine go T_ok 200 rfl ?_) | (refine ld T_ok rfl rfl rfl rfl (Bk.get B3 rfl) ?_; refine go T_ok 200 rfl ?_) | (refine guardA (b := true) rfl rfl rfl rfl (fun _ => ?_) (fun e => by cases e); refine go T_ok 200 rfl ?_) | (refine guardA (b := false) rfl rfl rfl rfl (fun e => by cases e) (fun _ => ?_); refine go T_ok 200 rfl ?_) | (refine condT rfl rfl ?_; refine go T_ok 200 rfl ?_) | (refine condF rfl rfl ?_; refine go T_ok 200 rfl ?_))
    refine guardA (b := true) rfl rfl rfl (congrArg Value.bool (by simp)) (fun _ => ?_) (fun e => by cases e)
    refine go T_ok 200 rfl ?_
    repeat (first | (refine ldA T_ok rfl rfl rfl rfl rfl (Bk.all B1) ?_; refine go T_ok 200 rfl ?_) | (refine ldA T_ok rfl rfl rfl rfl rfl (Bk.all B2) ?_; refine go T_ok 200 rfl ?_) | (refine ldA T_ok rfl rfl rfl rfl rfl (Bk.all B3) ?_; refine go T_ok 200 rfl ?_) | (refine ld T_ok rfl rfl rfl rfl (Bk.get B1 rfl) ?_; refine go T_ok 200 rfl ?_) | (refine ld T_ok rfl rfl rfl rfl (Bk.get B2 rfl) ?_; refine go T_ok 200 rfl ?_) | (refine ld T_ok rfl rfl rfl rfl (Bk.get B3 rfl) ?_; refine go T_ok 200 rfl ?_) | (refine guardA (b := true) rfl rfl rfl rfl (fun _ => ?_) (fun e => by cases e); refine go T_ok 200 rfl ?_) | (refine guardA (b := false) rfl rfl rfl rfl (fun e => by cases e) (fun _ => ?_); refine go T_ok 200 rfl ?_) | (refine condT rfl rfl ?_; refine go T_ok 200 rfl ?_) | (refine condF rfl rfl ?_; refine go T_ok 200 rfl ?_))
    refine guardA (b := true) rfl rfl rfl (congrArg Value.bool (by simp)) (fun _ => ?_) (fun e => by cases e)
    refine go T_ok 200 rfl ?_
    repeat (first | (refine ldA T_ok rfl rfl rfl rfl rfl (Bk.all B1) ?_; refine go T_ok 200 rfl ?_) | (refine ldA T_ok rfl rfl rfl rfl rfl (Bk.all B2) ?_; refine go T_ok 200 rfl ?_) | (refine ldA T_ok rfl rfl rfl rfl rfl (Bk.all B3) ?_; refine go T_ok 200 rfl ?_) | (refine ld T_ok rfl rfl rfl rfl (Bk.get B1 rfl) ?_; refine go T_ok 200 rfl ?_) | (refine ld T_ok rfl rfl rfl rfl (Bk.get B2 rfl) ?_; refine go T_ok 200 rfl ?_) | (refine ld T_ok rfl rfl rfl rfl (Bk.get B3 rfl) ?_; refine go T_ok 200 rfl ?_) | (refine guardA (b := true) rfl rfl rfl rfl (fun _ => ?_) (fun e => by cases e); refine go T_ok 200 rfl ?_) | (refine guardA (b := false) rfl rfl rfl rfl (fun e => by cases e) (fun _ => ?_); refine go T_ok 200 rfl ?_) | (refine condT rfl rfl ?_; refine go T_ok 200 rfl ?_) | (refine condF rfl rfl ?_; refine go T_ok 200 rfl ?_))
    refine guardA (b := true) rfl rfl rfl (congrArg Value.bool (decide_eq_true t5)) (fun _ => ?_) (fun e => by cases e)
    refine go T_ok 200 rfl ?_
    repeat (first | (refine ldA T_ok rfl rfl rfl rfl rfl (Bk.all B1) ?_; refine go T_ok 200 rfl ?_) | (refine ldA T_ok rfl rfl rfl rfl rfl (Bk.all B2) ?_; refine go T_ok 200 rfl ?_) | (refine ldA T_ok rfl rfl rfl rfl rfl (Bk.all B3) ?_; refine go T_ok 200 rfl ?_) | (refine ld T_ok rfl rfl rfl rfl (Bk.get B1 rfl) ?_; refine go T_ok 200 rfl ?_) | (refine ld T_ok rfl rfl rfl rfl (Bk.get B2 rfl) ?_; refine go T_ok 200 rfl ?_) | (refine ld T_ok rfl rfl rfl rfl (Bk.get B3 rfl) ?_; refine go T_ok 200 rfl ?_) | (refine guardA (b := true) rfl rfl rfl rfl (fun _ => ?_) (fun e => by cases e); refine go T_ok 200 rfl ?_) | (refine guardA (b := false) rfl rfl rfl rfl (fun e => by cases e) (fun _ => ?_); refine go T_ok 200 rfl ?_) | (refine condT rfl rfl ?_; refine go T_ok 200 rfl ?_) | (refine condF rfl rfl ?_; refine go T_ok 200 rfl ?_))
    refine guardA (b := true) rfl rfl rfl (congrArg Value.bool (decide_eq_true t6)) (fun _ => ?_) (fun e => by cases e)
    refine go T_ok 200 rfl ?_
    refine call rfl rfl rfl (ok _ (by decide) rfl) (known_any _) ?_
    rintro v wk ⟨rfl, qk⟩
    refine go T_ok 200 rfl ?_
    exact ret (ret1 (v := .bool true) Try.results12 rfl ⟨rfl, q.trans qk⟩)
end Go.Proofs.Ytkkjfjeniaiaiaa
