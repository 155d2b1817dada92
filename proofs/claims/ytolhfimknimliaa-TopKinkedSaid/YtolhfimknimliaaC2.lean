/- The contracts of the searches of layer 5: the first row, thresholds, rates above thresholds. -/
import Derived.Test.YtolhfimknimliaaC1
namespace Go.Proofs.Ytolhfimknimliaa
open Go.Ev Go.Proofs Go.Top
attribute [local irreducible] At AtH
/-- a closure that tells of a row whether something is true -/
def Prd (p : Rw → Bool) (fv : Value) (w0 : World) : Prop := ∃ k cap, fv = .func (.func k) #[] cap ∧ callable Try.prog k = true ∧
  ∀ r w', Chg No w0 w' → Ret Try.prog k (.agg (rwL r).toArray :: cap.toList) w' fun x w'' => x = .bool (p r) ∧ Chg No w' w''
theorem fst_eq {p : Rw → Bool} {l : List Rw} {j : Nat} {r : Rw} (h : j ≤ fst p l) (hr : l[j]? = some r) (hp : p r = true) : fst p l = j := by
  rcases Nat.lt_or_ge j (fst p l) with h1 | h1
  · rw [fst_no h1 hr] at hp; cases hp
  · omega
theorem fst_up {p : Rw → Bool} {l : List Rw} {j : Nat} {r : Rw} (h : j ≤ fst p l) (hr : l[j]? = some r) (hp : p r = false) : j + 1 ≤ fst p l := by
  rcases Nat.lt_or_ge j (fst p l) with h1 | h1
  · omega
  · obtain rfl : j = fst p l := by omega
    rw [fst_yes hr] at hp; cases hp
set_option maxRecDepth 20000 in
set_option maxHeartbeats 4000000 in
theorem idxR_any (p : Rw → Bool) (l : List Rw) (A : Option Addr) (c B : Nat) (fv : Value) (w : World) (hS : Sl w B 3 A l.length (l.flatMap rwL)) (hl : l.length ≤ 4000) (hp : Prd p fv w) :
    Ret Try.prog 120 [.slice A l.length c, fv] w fun x w' => x = I (if fst p l < l.length then (fst p l : Int) else -1) ∧ Chg No w w' := by
  obtain ⟨kf, cap, rfl, hkf, hp⟩ := hp
  refine enter Try.func120 rfl Try.ntmps120 rfl ?_
  refine go T_ok 200 rfl ?_
  refine loop [0, 1, 6, 7, 8] (fun j : Nat => [.slice A l.length c, .func (.func kf) #[] cap, .slice A l.length c, .int .i64 (l.length : Int), .int .i64 (j : Int)])
    (fun j w' => j ≤ fst p l ∧ Chg No w w') (fun j => l.length - j) 0 (fun _ => rfl) rfl ⟨Nat.zero_le _, Chg.refl _ _⟩ ?_
  rintro j τ w1 ⟨hj, q⟩
  have hfl := fst_le p l
  have S1 := hS.no q
  refine go T_ok 200 rfl ?_
  refine condD rfl (fun hlt => ?_) (fun hlt => ?_)
  · have hlt : j < l.length := by omega
    obtain ⟨r, hr⟩ := get_of hlt
    obtain ⟨b1, o1, rfl, hb1, hc1⟩ := S1.el rwL_len hr
    have e3 : w64 ((j : Int) + 1) = ((j + 1 : Nat) : Int) := w64_id (by omega) (by omega)
    refine go T_ok 200 rfl ?_
    refine idx T_ok rfl rfl rfl rfl rfl j rfl hlt ?_
    refine go T_ok 200 rfl ?_
    refine ldA T_ok rfl rfl rfl rfl rfl hc1 ?_
    refine go T_ok 200 rfl ?_
    refine call rfl rfl rfl hkf (hp r _ q) ?_
    rintro x w2 ⟨rfl, q2⟩
    have q := q.trans q2
    refine go T_ok 200 rfl ?_
    cases hpr : p r with
    | true =>
      refine condT rfl rfl ?_
      refine go T_ok 200 rfl ?_
      have e := fst_eq hj hr hpr
      exact ret (ret1 (v := .int .i64 _) Try.results120 rfl ⟨by rw [e, if_pos hlt], q⟩)
    | false =>
      refine condF rfl rfl ?_
      refine go T_ok 200 rfl ?_
      rw [e3]
      exact round ⟨j + 1, rfl, ⟨fst_up hj hr hpr, q⟩, by omega⟩
  · refine go T_ok 200 rfl ?_
    exact ret (ret1 (v := .int .i64 _) Try.results120 rfl ⟨by rw [if_neg (by omega)], q⟩)
set_option maxRecDepth 20000 in
theorem fstR_any (p : Rw → Bool) (l : List Rw) (A : Option Addr) (c B : Nat) (fv : Value) (w : World) (hS : Sl w B 3 A l.length (l.flatMap rwL)) (hl : l.length ≤ 4000) (hp : Prd p fv w) :
    Ret Try.prog 110 [.slice A l.length c, fv] w fun x w' => x = I (fst p l : Int) ∧ Chg No w w' := by
  obtain ⟨kf, cap, rfl, hkf, hp⟩ := hp
  have hfl := fst_le p l
  refine enter Try.func110 rfl Try.ntmps110 rfl ?_
  refine go T_ok 200 rfl ?_
  refine call rfl rfl rfl (ok _ (by decide) rfl) (idxR_any p l A c B _ _ hS hl ⟨kf, cap, rfl, hkf, hp⟩) ?_
  rintro x w1 ⟨rfl, q⟩
  refine go T_ok 200 rfl ?_
  refine condD rfl (fun h => ?_) (fun h => ?_)
  · refine go T_ok 200 rfl ?_
    have hlt : fst p l < l.length := by
      rcases Nat.lt_or_ge (fst p l) l.length with h1 | h1
      · exact h1
      · rw [if_neg (by omega)] at h; omega
    exact ret (ret1 (v := .int .i64 _) Try.results110 rfl ⟨by rw [if_pos hlt], q⟩)
  · refine go T_ok 200 rfl ?_
    have hge : fst p l = l.length := by
      rcases Nat.lt_or_ge (fst p l) l.length with h1 | h1
      · rw [if_pos h1] at h; omega
      · omega
    exact ret (ret1 (v := .int .i64 _) Try.results110 rfl ⟨by rw [hge], q⟩)
set_option maxRecDepth 20000 in
set_option maxHeartbeats 4000000 in
theorem idxF_any (p : Rw → Bool) (l : List Rw) (A : Option Addr) (c B : Nat) (fv : Value) (w : World) (hS : Sl w B 3 A l.length (l.flatMap rwL)) (hl : l.length ≤ 4000) (hp : Prd p fv w) :
    Ret Try.prog 119 [.slice A l.length c, fv] w fun x w' => x = I (if fst p l < l.length then (fst p l : Int) else -1) ∧ Chg No w w' := by
  obtain ⟨kf, cap, rfl, hkf, hp⟩ := hp
  refine enter Try.func119 rfl Try.ntmps119 rfl ?_
  refine go T_ok 200 rfl ?_
  refine loop [0, 1, 6, 7, 8] (fun j : Nat => [.slice A l.length c, .func (.func kf) #[] cap, .slice A l.length c, .int .i64 (l.length : Int), .int .i64 (j : Int)])
    (fun j w' => j ≤ fst p l ∧ Chg No w w') (fun j => l.length - j) 0 (fun _ => rfl) rfl ⟨Nat.zero_le _, Chg.refl _ _⟩ ?_
  rintro j τ w1 ⟨hj, q⟩
  have hfl := fst_le p l
  have S1 := hS.no q
  refine go T_ok 200 rfl ?_
  refine condD rfl (fun hlt => ?_) (fun hlt => ?_)
  · have hlt : j < l.length := by omega
    obtain ⟨r, hr⟩ := get_of hlt
    obtain ⟨b1, o1, rfl, hb1, hc1⟩ := S1.el rwL_len hr
    have e3 : w64 ((j : Int) + 1) = ((j + 1 : Nat) : Int) := w64_id (by omega) (by omega)
    refine go T_ok 200 rfl ?_
    refine idx T_ok rfl rfl rfl rfl rfl j rfl hlt ?_
    refine go T_ok 200 rfl ?_
    refine ldA T_ok rfl rfl rfl rfl rfl hc1 ?_
    refine go T_ok 200 rfl ?_
    refine call rfl rfl rfl hkf (hp r _ q) ?_
    rintro x w2 ⟨rfl, q2⟩
    have q := q.trans q2
    refine go T_ok 200 rfl ?_
    cases hpr : p r with
    | true =>
      refine condT rfl rfl ?_
      refine go T_ok 200 rfl ?_
      have e := fst_eq hj hr hpr
      exact ret (ret1 (v := .int .i64 _) Try.results119 rfl ⟨by rw [e, if_pos hlt], q⟩)
    | false =>
      refine condF rfl rfl ?_
      refine go T_ok 200 rfl ?_
      rw [e3]
      exact round ⟨j + 1, rfl, ⟨fst_up hj hr hpr, q⟩, by omega⟩
  · refine go T_ok 200 rfl ?_
    exact ret (ret1 (v := .int .i64 _) Try.results119 rfl ⟨by rw [if_neg (by omega)], q⟩)
set_option maxRecDepth 20000 in
theorem fstF_any (p : Rw → Bool) (l : List Rw) (A : Option Addr) (c B : Nat) (fv : Value) (w : World) (hS : Sl w B 3 A l.length (l.flatMap rwL)) (hl : l.length ≤ 4000) (hp : Prd p fv w) :
    Ret Try.prog 107 [.slice A l.length c, fv] w fun x w' => x = I (fst p l : Int) ∧ Chg No w w' := by
  obtain ⟨kf, cap, rfl, hkf, hp⟩ := hp
  have hfl := fst_le p l
  refine enter Try.func107 rfl Try.ntmps107 rfl ?_
  refine go T_ok 200 rfl ?_
  refine call rfl rfl rfl (ok _ (by decide) rfl) (idxF_any p l A c B _ _ hS hl ⟨kf, cap, rfl, hkf, hp⟩) ?_
  rintro x w1 ⟨rfl, q⟩
  refine go T_ok 200 rfl ?_
  refine condD rfl (fun h => ?_) (fun h => ?_)
  · refine go T_ok 200 rfl ?_
    have hlt : fst p l < l.length := by
      rcases Nat.lt_or_ge (fst p l) l.length with h1 | h1
      · exact h1
      · rw [if_neg (by omega)] at h; omega
    exact ret (ret1 (v := .int .i64 _) Try.results107 rfl ⟨by rw [if_pos hlt], q⟩)
  · refine go T_ok 200 rfl ?_
    have hge : fst p l = l.length := by
      rcases Nat.lt_or_ge (fst p l) l.length with h1 | h1
      · rw [if_pos h1] at h; omega
      · omega
    exact ret (ret1 (v := .int .i64 _) Try.results107 rfl ⟨by rw [hge], q⟩)
set_option maxRecDepth 20000 in
set_option maxHeartbeats 4000000 in
theorem idxK_any (p : Rw → Bool) (l : List Rw) (A : Option Addr) (c B : Nat) (fv : Value) (w : World) (hS : Sl w B 3 A l.length (l.flatMap rwL)) (hl : l.length ≤ 4000) (hp : Prd p fv w) :
    Ret Try.prog 89 [.slice A l.length c, fv] w fun x w' => x = I (if fst p l < l.length then (fst p l : Int) else -1) ∧ Chg No w w' := by
  obtain ⟨kf, cap, rfl, hkf, hp⟩ := hp
  refine enter Try.func89 rfl Try.ntmps89 rfl ?_
  refine go T_ok 200 rfl ?_
  refine loop [0, 1, 6, 7, 8] (fun j : Nat => [.slice A l.length c, .func (.func kf) #[] cap, .slice A l.length c, .int .i64 (l.length : Int), .int .i64 (j : Int)])
    (fun j w' => j ≤ fst p l ∧ Chg No w w') (fun j => l.length - j) 0 (fun _ => rfl) rfl ⟨Nat.zero_le _, Chg.refl _ _⟩ ?_
  rintro j τ w1 ⟨hj, q⟩
  have hfl := fst_le p l
  have S1 := hS.no q
  refine go T_ok 200 rfl ?_
  refine condD rfl (fun hlt => ?_) (fun hlt => ?_)
  · have hlt : j < l.length := by omega
    obtain ⟨r, hr⟩ := get_of hlt
    obtain ⟨b1, o1, rfl, hb1, hc1⟩ := S1.el rwL_len hr
    have e3 : w64 ((j : Int) + 1) = ((j + 1 : Nat) : Int) := w64_id (by omega) (by omega)
    refine go T_ok 200 rfl ?_
    refine idx T_ok rfl rfl rfl rfl rfl j rfl hlt ?_
    refine go T_ok 200 rfl ?_
    refine ldA T_ok rfl rfl rfl rfl rfl hc1 ?_
    refine go T_ok 200 rfl ?_
    refine call rfl rfl rfl hkf (hp r _ q) ?_
    rintro x w2 ⟨rfl, q2⟩
    have q := q.trans q2
    refine go T_ok 200 rfl ?_
    cases hpr : p r with
    | true =>
      refine condT rfl rfl ?_
      refine go T_ok 200 rfl ?_
      have e := fst_eq hj hr hpr
      exact ret (ret1 (v := .int .i64 _) Try.results89 rfl ⟨by rw [e, if_pos hlt], q⟩)
    | false =>
      refine condF rfl rfl ?_
      refine go T_ok 200 rfl ?_
      rw [e3]
      exact round ⟨j + 1, rfl, ⟨fst_up hj hr hpr, q⟩, by omega⟩
  · refine go T_ok 200 rfl ?_
    exact ret (ret1 (v := .int .i64 _) Try.results89 rfl ⟨by rw [if_neg (by omega)], q⟩)
set_option maxRecDepth 20000 in
theorem fstK_any (p : Rw → Bool) (l : List Rw) (A : Option Addr) (c B : Nat) (fv : Value) (w : World) (hS : Sl w B 3 A l.length (l.flatMap rwL)) (hl : l.length ≤ 4000) (hp : Prd p fv w) :
    Ret Try.prog 56 [.slice A l.length c, fv] w fun x w' => x = I (fst p l : Int) ∧ Chg No w w' := by
  obtain ⟨kf, cap, rfl, hkf, hp⟩ := hp
  have hfl := fst_le p l
  refine enter Try.func56 rfl Try.ntmps56 rfl ?_
  refine go T_ok 200 rfl ?_
  refine call rfl rfl rfl (ok _ (by decide) rfl) (idxK_any p l A c B _ _ hS hl ⟨kf, cap, rfl, hkf, hp⟩) ?_
  rintro x w1 ⟨rfl, q⟩
  refine go T_ok 200 rfl ?_
  refine condD rfl (fun h => ?_) (fun h => ?_)
  · refine go T_ok 200 rfl ?_
    have hlt : fst p l < l.length := by
      rcases Nat.lt_or_ge (fst p l) l.length with h1 | h1
      · exact h1
      · rw [if_neg (by omega)] at h; omega
    exact ret (ret1 (v := .int .i64 _) Try.results56 rfl ⟨by rw [if_pos hlt], q⟩)
  · refine go T_ok 200 rfl ?_
    have hge : fst p l = l.length := by
      rcases Nat.lt_or_ge (fst p l) l.length with h1 | h1
      · rw [if_pos h1] at h; omega
      · omega
    exact ret (ret1 (v := .int .i64 _) Try.results56 rfl ⟨by rw [hge], q⟩)
theorem p111_any (r : Rw) (o : Int × Int) (g : Nat) (w : World) (H : Bk w g 3 [I o.1]) : Ret Try.prog 111 [.agg (rwL r).toArray, .pointer (some ⟨g, 0, none⟩)] w fun v w' => v = .bool (decide (o.1 ≤ r.hi)) ∧ Chg No w w' := by
  refine enter Try.func111 rfl Try.ntmps111 rfl ?_
  refine go T_ok 200 rfl ?_
  refine bx rfl rfl rfl (cs := rwL r) rfl ?_
  intro g1 u1 hg1 hs1 q1 B1
  have B2 := H.no q1
  have q := q1
  refine go T_ok 200 rfl ?_
  repeat (first | (refine ldA T_ok rfl rfl rfl rfl rfl (Bk.all B1) ?_; refine go T_ok 200 rfl ?_) | (refine ldA T_ok rfl rfl rfl rfl rfl (Bk.all B2) ?_; refine go T_ok 200 rfl ?_) | (refine ld T_ok rfl rfl rfl rfl (Bk.get B1 rfl) ?_; refine go T_ok 200 rfl ?_) | (refine ld T_ok rfl rfl rfl rfl (Bk.get B2 rfl) ?_; refine go T_ok 200 rfl ?_) | (refine guardA (b := true) rfl rfl rfl rfl (fun _ => ?_) (fun e => by cases e); refine go T_ok 200 rfl ?_) | (refine guardA (b := false) rfl rfl rfl rfl (fun e => by cases e) (fun _ => ?_); refine go T_ok 200 rfl ?_) | (refine condT rfl rfl ?_; refine go T_ok 200 rfl ?_) | (refine condF rfl rfl ?_; refine go T_ok 200 rfl ?_))
  exact ret (ret1 (v := .bool _) Try.results111 rfl ⟨rfl, q⟩)
theorem prd111 {o : Int × Int} {g : Nat} {w : World} (H : Bk w g 3 [I o.1]) : Prd (fun r => decide (o.1 ≤ r.hi)) (.func (.func 111) #[] #[.pointer (some ⟨g, 0, none⟩)]) w :=
  ⟨111, _, rfl, ok _ (by decide) rfl, fun r w' q => p111_any r o g w' (H.no q)⟩
theorem p112_any (r : Rw) (o : Int × Int) (g : Nat) (w : World) (H : Bk w g 3 [I o.1]) : Ret Try.prog 112 [.agg (rwL r).toArray, .pointer (some ⟨g, 0, none⟩)] w fun v w' => v = .bool (decide (o.1 ≤ r.lo)) ∧ Chg No w w' := by
  refine enter Try.func112 rfl Try.ntmps112 rfl ?_
  refine go T_ok 200 rfl ?_
  refine bx rfl rfl rfl (cs := rwL r) rfl ?_
  intro g1 u1 hg1 hs1 q1 B1
  have B2 := H.no q1
  have q := q1
  refine go T_ok 200 rfl ?_
  repeat (first | (refine ldA T_ok rfl rfl rfl rfl rfl (Bk.all B1) ?_; refine go T_ok 200 rfl ?_) | (refine ldA T_ok rfl rfl rfl rfl rfl (Bk.all B2) ?_; refine go T_ok 200 rfl ?_) | (refine ld T_ok rfl rfl rfl rfl (Bk.get B1 rfl) ?_; refine go T_ok 200 rfl ?_) | (refine ld T_ok rfl rfl rfl rfl (Bk.get B2 rfl) ?_; refine go T_ok 200 rfl ?_) | (refine guardA (b := true) rfl rfl rfl rfl (fun _ => ?_) (fun e => by cases e); refine go T_ok 200 rfl ?_) | (refine guardA (b := false) rfl rfl rfl rfl (fun e => by cases e) (fun _ => ?_); refine go T_ok 200 rfl ?_) | (refine condT rfl rfl ?_; refine go T_ok 200 rfl ?_) | (refine condF rfl rfl ?_; refine go T_ok 200 rfl ?_))
  exact ret (ret1 (v := .bool _) Try.results112 rfl ⟨rfl, q⟩)
theorem prd112 {o : Int × Int} {g : Nat} {w : World} (H : Bk w g 3 [I o.1]) : Prd (fun r => decide (o.1 ≤ r.lo)) (.func (.func 112) #[] #[.pointer (some ⟨g, 0, none⟩)]) w :=
  ⟨112, _, rfl, ok _ (by decide) rfl, fun r w' q => p112_any r o g w' (H.no q)⟩
theorem p108_any (r : Rw) (o : Int × Int) (g : Nat) (w : World) (H : Bk w g 24 (spL o)) : Ret Try.prog 108 [.agg (rwL r).toArray, .pointer (some ⟨g, 0, none⟩)] w fun v w' => v = .bool (decide (o.1 < r.k)) ∧ Chg No w w' := by
  refine enter Try.func108 rfl Try.ntmps108 rfl ?_
  refine go T_ok 200 rfl ?_
  refine bx rfl rfl rfl (cs := rwL r) rfl ?_
  intro g1 u1 hg1 hs1 q1 B1
  have B2 := H.no q1
  have q := q1
  refine go T_ok 200 rfl ?_
  repeat (first | (refine ldA T_ok rfl rfl rfl rfl rfl (Bk.all B1) ?_; refine go T_ok 200 rfl ?_) | (refine ldA T_ok rfl rfl rfl rfl rfl (Bk.all B2) ?_; refine go T_ok 200 rfl ?_) | (refine ld T_ok rfl rfl rfl rfl (Bk.get B1 rfl) ?_; refine go T_ok 200 rfl ?_) | (refine ld T_ok rfl rfl rfl rfl (Bk.get B2 rfl) ?_; refine go T_ok 200 rfl ?_) | (refine guardA (b := true) rfl rfl rfl rfl (fun _ => ?_) (fun e => by cases e); refine go T_ok 200 rfl ?_) | (refine guardA (b := false) rfl rfl rfl rfl (fun e => by cases e) (fun _ => ?_); refine go T_ok 200 rfl ?_) | (refine condT rfl rfl ?_; refine go T_ok 200 rfl ?_) | (refine condF rfl rfl ?_; refine go T_ok 200 rfl ?_))
  exact ret (ret1 (v := .bool _) Try.results108 rfl ⟨rfl, q⟩)
theorem prd108 {o : Int × Int} {g : Nat} {w : World} (H : Bk w g 24 (spL o)) : Prd (fun r => decide (o.1 < r.k)) (.func (.func 108) #[] #[.pointer (some ⟨g, 0, none⟩)]) w :=
  ⟨108, _, rfl, ok _ (by decide) rfl, fun r w' q => p108_any r o g w' (H.no q)⟩
theorem p109_any (r : Rw) (o : Int × Int) (g : Nat) (w : World) (H : Bk w g 24 (spL o)) : Ret Try.prog 109 [.agg (rwL r).toArray, .pointer (some ⟨g, 0, none⟩)] w fun v w' => v = .bool (decide (o.2 ≤ r.k)) ∧ Chg No w w' := by
  refine enter Try.func109 rfl Try.ntmps109 rfl ?_
  refine go T_ok 200 rfl ?_
  refine bx rfl rfl rfl (cs := rwL r) rfl ?_
  intro g1 u1 hg1 hs1 q1 B1
  have B2 := H.no q1
  have q := q1
  refine go T_ok 200 rfl ?_
  repeat (first | (refine ldA T_ok rfl rfl rfl rfl rfl (Bk.all B1) ?_; refine go T_ok 200 rfl ?_) | (refine ldA T_ok rfl rfl rfl rfl rfl (Bk.all B2) ?_; refine go T_ok 200 rfl ?_) | (refine ld T_ok rfl rfl rfl rfl (Bk.get B1 rfl) ?_; refine go T_ok 200 rfl ?_) | (refine ld T_ok rfl rfl rfl rfl (Bk.get B2 rfl) ?_; refine go T_ok 200 rfl ?_) | (refine guardA (b := true) rfl rfl rfl rfl (fun _ => ?_) (fun e => by cases e); refine go T_ok 200 rfl ?_) | (refine guardA (b := false) rfl rfl rfl rfl (fun e => by cases e) (fun _ => ?_); refine go T_ok 200 rfl ?_) | (refine condT rfl rfl ?_; refine go T_ok 200 rfl ?_) | (refine condF rfl rfl ?_; refine go T_ok 200 rfl ?_))
  exact ret (ret1 (v := .bool _) Try.results109 rfl ⟨rfl, q⟩)
theorem prd109 {o : Int × Int} {g : Nat} {w : World} (H : Bk w g 24 (spL o)) : Prd (fun r => decide (o.2 ≤ r.k)) (.func (.func 109) #[] #[.pointer (some ⟨g, 0, none⟩)]) w :=
  ⟨109, _, rfl, ok _ (by decide) rfl, fun r w' q => p109_any r o g w' (H.no q)⟩
end Go.Proofs.Ytolhfimknimliaa
