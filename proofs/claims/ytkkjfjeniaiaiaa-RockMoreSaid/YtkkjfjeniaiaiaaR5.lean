/- The contracts of the specification of layer 6: far, Surveys, Clash, Least, Most. -/
import Derived.Test.YtkkjfjeniaiaiaaCE
namespace Go.Proofs.Ytkkjfjeniaiaiaa
open Go.Ev Go.Proofs Go.Rock
attribute [local irreducible] At AtH

set_option maxHeartbeats 4000000 in
theorem rfar_any (v : Vo) (a b : Int) (w : World) (hv : VoOk v) (ha : 0 ≤ a) (ha' : a < v.nx * v.ny) (hb : 0 ≤ b) (hb' : b < v.nx * v.ny) :
    Ret Try.prog 77 [.agg (vL v).toArray, .int .i64 a, .int .i64 b] w fun x w' => x = .int .i64 (farI v.nx a b) ∧ Chg No w w' := by
  have hv' := hv
  unfold VoOk at hv'
  have hxy := vo_xy hv
  have f1 := Int.emod_nonneg a (by omega : v.nx ≠ 0)
  have f2 := Int.emod_lt_of_pos a (by omega : 0 < v.nx)
  have f3 := Int.emod_nonneg b (by omega : v.nx ≠ 0)
  have f4 := Int.emod_lt_of_pos b (by omega : 0 < v.nx)
  have f5 := Int.ediv_nonneg ha (by omega : 0 ≤ v.nx)
  have f6 := Int.ediv_nonneg hb (by omega : 0 ≤ v.nx)
  have f7 := Int.ediv_le_self v.nx ha
  have f8 := Int.ediv_le_self v.nx hb
  have ff := farI_le hv ha ha' hb hb'
  have fn := farI_nonneg v.nx a b
  have e1 : w64 (a % v.nx - b % v.nx) = a % v.nx - b % v.nx := w64_id (by omega) (by omega)
  have e2 : w64 (a / v.nx - b / v.nx) = a / v.nx - b / v.nx := w64_id (by omega) (by omega)
  have e3 : w64 (0 - (a % v.nx - b % v.nx)) = 0 - (a % v.nx - b % v.nx) := w64_id (by omega) (by omega)
  have e4 : w64 (0 - (a / v.nx - b / v.nx)) = 0 - (a / v.nx - b / v.nx) := w64_id (by omega) (by omega)
  have e5 : w64 (absI (a % v.nx - b % v.nx) + absI (a / v.nx - b / v.nx)) = farI v.nx a b := w64_id (by unfold farI at fn; omega) (by unfold farI at ff; omega)
  refine enter Try.func77 rfl Try.ntmps77 rfl ?_
  refine go T_ok 200 rfl ?_
  refine bx rfl rfl rfl (cs := vL v) rfl ?_
  intro g1 u1 hg1 hs1 q1 B1
  refine go T_ok 200 rfl ?_
  refine draw mixed (fun w' => Chg No u1 w') ([0,1,2,3,4,5,6,7,8,9,10,11,12,13,14,15,16,17,18,19].map (fun i => (i, true))) rfl (by kernel_rfl) (Chg.drew _) ?_
  refine goH T_ok 200 rfl ?_
  repeat (first | (refine quietH rfl (fun w' hS => r_load T_ok rfl rfl rfl (Bk.get (B1.no hS) rfl)) ?_; refine goH T_ok 200 rfl ?_))
  refine quietH rfl (fun w' hS => by rw [r_rem rfl rfl rfl (by omega), Int.tmod_eq_emod_of_nonneg ha]) ?_
  refine goH T_ok 200 rfl ?_
  repeat (first | (refine quietH rfl (fun w' hS => r_load T_ok rfl rfl rfl (Bk.get (B1.no hS) rfl)) ?_; refine goH T_ok 200 rfl ?_))
  refine quietH rfl (fun w' hS => by rw [r_rem rfl rfl rfl (by omega), Int.tmod_eq_emod_of_nonneg hb]) ?_
  refine goH T_ok 200 rfl ?_
  repeat (first | (refine quietH rfl (fun w' hS => r_load T_ok rfl rfl rfl (Bk.get (B1.no hS) rfl)) ?_; refine goH T_ok 200 rfl ?_))
  rw [e1]
  refine quietH rfl (fun w' hS => r_quoN rfl rfl rfl ha (by omega) (by omega)) ?_
  refine goH T_ok 200 rfl ?_
  repeat (first | (refine quietH rfl (fun w' hS => r_load T_ok rfl rfl rfl (Bk.get (B1.no hS) rfl)) ?_; refine goH T_ok 200 rfl ?_))
  refine quietH rfl (fun w' hS => r_quoN rfl rfl rfl hb (by omega) (by omega)) ?_
  refine goH T_ok 200 rfl ?_
  rw [e2]
  refine endH ?_
  refine go T_ok 200 rfl ?_
  rw [e3, e4, max_abs, max_abs, e5]
  exact ret (ret1 (v := .int .i64 _) Try.results77 rfl ⟨rfl, q1.trans (Chg.drew u1)⟩)
set_option maxHeartbeats 8000000 in
theorem Surveys_any (v : Vo) (st : Int) (l : List Su) (A : Option Addr) (c B : Nat) (w : World) (hv : VoOk v) (hL : l.length ≤ maxLen) (hS : Sl w B 3 A l.length (l.flatMap sL)) :
    Ret Try.prog 31 [.agg (vL v).toArray, .int .i64 st, .slice A l.length c] w fun x w' => x = .bool (decide (LdOk v st l)) ∧ Chg No w w' := by
  have hL := len63 hL
  have hxy := vo_xy hv
  have hzs := vo_zs hv
  have e2 : w64 (v.nx * v.ny - 1) = v.nx * v.ny - 1 := w64_id (by omega) (by omega)
  have e3 : w64 (v.nz * v.sz) = v.nz * v.sz := w64_id (by omega) (by omega)
  refine enter Try.func31 rfl Try.ntmps31 rfl ?_
  refine go T_ok 200 rfl ?_
  refine bx rfl rfl rfl (cs := vL v) rfl ?_
  intro g1 u1 hg1 hs1 q1 B1
  refine go T_ok 200 rfl ?_
  refine loop [1, 2, 3, 7] (fun j : Nat => [.int .i64 st, .slice A l.length c, .pointer (some ⟨g1, 0, none⟩), .int .i64 (j : Int)])
    (fun j w' => j ≤ l.length ∧ Chg No w w' ∧ Bk w' g1 23 (vL v) ∧ ∀ s ∈ l.take j, SuOk v s) (fun j => l.length - j) 0 (fun _ => rfl) rfl ⟨by omega, q1, B1, fun a h => by simp at h⟩ ?_
  rintro j τ w3 ⟨hj, q3, B3, hI⟩
  have S3 := hS.no q3
  refine go T_ok 200 rfl ?_
  refine condD rfl (fun hlt => ?_) (fun hlt => ?_)
  · have hlt : j < l.length := by omega
    obtain ⟨s, hs⟩ : ∃ s, l[j]? = some s := ⟨_, List.getElem?_eq_getElem hlt⟩
    obtain ⟨b, o, rfl, hb, hc⟩ := S3.el sL_len hs
    have hlb : b < w3.heap.size := Nat.lt_of_lt_of_le hb S3.2.1
    have k0 : ∀ (i : Nat) (x : Value), nth? (sL s) i = some x → ∀ w', Chg No w3 w' → w'.cell? ⟨b, o + j * 3 + i, none⟩ = some x := fun i x hx w' hS => (hS.cell (a := ⟨b, o + j * 3 + i, none⟩) hlb (fun h => h)).trans (hc.get hx)
    have hsm := List.mem_of_getElem? hs
    have e4 : w64 ((j : Int) + 1) = ((j + 1 : Nat) : Int) := w64_id (by omega) (by omega)
    refine go T_ok 200 rfl ?_
    refine draw mixed (fun w' => Chg No w3 w') ([0,1,2,3,4,5].map (fun i => (i, true)) ++ [(6, false)] ++ [7].map (fun i => (i, true)) ++ [(8, false)] ++ [9,10,11,12,13,14,15,16,17,18,19,20,21,22].map (fun i => (i, true)) ++ [(23, false)] ++ [24,25,26,27,28,29,30,31,32,33,34,35,36,37,38,39].map (fun i => (i, true))) rfl (by kernel_rfl) (Chg.drew _) ?_
    refine goH T_ok 200 rfl ?_
    refine quietH rfl (fun w' hS => r_idx T_ok rfl rfl rfl rfl j rfl hlt) ?_
    refine goH T_ok 200 rfl ?_
    refine quietH rfl (fun w' hS => r_load T_ok rfl rfl rfl (k0 0 _ rfl w' hS)) ?_
    refine goH T_ok 200 rfl ?_
    refine quietH rfl (fun w' hS => r_loadA T_ok rfl rfl rfl rfl (B3.no hS).all) ?_
    refine goH T_ok 200 rfl ?_
    refine callE rfl rfl rfl (ok _ (by decide) rfl) (Columns_any v _ hv) ?_
    rintro x w4 ⟨rfl, q4⟩
    have q34 := (Chg.drew w3).trans q4
    refine ⟨q34, ?_⟩
    refine goH T_ok 200 rfl ?_
    rw [e2]
    refine callE rfl rfl rfl (ok _ (by decide) rfl) (rin_any _ _ _ _) ?_
    rintro x w' ⟨rfl, rfl⟩
    refine ⟨q34, ?_⟩
    refine goH T_ok 200 rfl ?_
    by_cases h1 : 0 ≤ s.col ∧ s.col ≤ v.nx * v.ny - 1
    case neg =>
      rw [decide_eq_false h1]
      refine guardH (b := true) rfl rfl rfl (fun _ => ?_) (fun h => by cases h)
      refine goH T_ok 200 rfl ?_
      refine passE rfl ?_
      refine goH T_ok 200 rfl ?_
      refine endH ?_
      refine go T_ok 200 rfl ?_
      repeat (first | (refine guardA (b := true) rfl rfl rfl rfl (fun _ => ?_) (fun e => by cases e); refine go T_ok 200 rfl ?_) | (refine guardA (b := false) rfl rfl rfl rfl (fun e => by cases e) (fun _ => ?_); refine go T_ok 200 rfl ?_) | (refine condT rfl rfl ?_; refine go T_ok 200 rfl ?_) | (refine condF rfl rfl ?_; refine go T_ok 200 rfl ?_))
      exact ret (ret1 (v := .bool false) Try.results31 rfl ⟨congrArg Value.bool (decide_eq_false fun h => h1 (h.1 s hsm).1).symm, q3.trans q34⟩)
    rw [decide_eq_true h1]
    refine guardH (b := false) rfl rfl rfl (fun h => by cases h) (fun _ => ?_)
    refine goH T_ok 200 rfl ?_
    refine quietH rfl (fun w' hS => r_idx T_ok rfl rfl rfl rfl j rfl hlt) ?_
    refine goH T_ok 200 rfl ?_
    refine quietH rfl (fun w' hS => r_load T_ok rfl rfl rfl (k0 1 _ rfl w' hS)) ?_
    refine goH T_ok 200 rfl ?_
    refine quietH rfl (fun w' hS => r_idx T_ok rfl rfl rfl rfl j rfl hlt) ?_
    refine goH T_ok 200 rfl ?_
    refine quietH rfl (fun w' hS => r_load T_ok rfl rfl rfl (k0 2 _ rfl w' hS)) ?_
    refine goH T_ok 200 rfl ?_
    refine callE rfl rfl rfl (ok _ (by decide) rfl) (rin_any _ _ _ _) ?_
    rintro x w' ⟨rfl, rfl⟩
    refine ⟨q34, ?_⟩
    refine goH T_ok 200 rfl ?_
    by_cases h2 : 0 ≤ s.lo ∧ s.lo ≤ s.hi
    case neg =>
      rw [decide_eq_false h2]
      refine guardH (b := true) rfl rfl rfl (fun _ => ?_) (fun h => by cases h)
      refine goH T_ok 200 rfl ?_
      refine endH ?_
      refine go T_ok 200 rfl ?_
      repeat (first | (refine guardA (b := true) rfl rfl rfl rfl (fun _ => ?_) (fun e => by cases e); refine go T_ok 200 rfl ?_) | (refine guardA (b := false) rfl rfl rfl rfl (fun e => by cases e) (fun _ => ?_); refine go T_ok 200 rfl ?_) | (refine condT rfl rfl ?_; refine go T_ok 200 rfl ?_) | (refine condF rfl rfl ?_; refine go T_ok 200 rfl ?_))
      exact ret (ret1 (v := .bool false) Try.results31 rfl ⟨congrArg Value.bool (decide_eq_false fun h => h2 ⟨(h.1 s hsm).2.1,(h.1 s hsm).2.2.1⟩).symm, q3.trans q34⟩)
    rw [decide_eq_true h2]
    refine guardH (b := false) rfl rfl rfl (fun h => by cases h) (fun _ => ?_)
    refine goH T_ok 200 rfl ?_
    refine quietH rfl (fun w' hS => r_idx T_ok rfl rfl rfl rfl j rfl hlt) ?_
    refine goH T_ok 200 rfl ?_
    refine quietH rfl (fun w' hS => r_load T_ok rfl rfl rfl (k0 2 _ rfl w' hS)) ?_
    refine goH T_ok 200 rfl ?_
    refine goH T_ok 200 rfl ?_
    repeat (first | (refine quietH rfl (fun w' hS => r_load T_ok rfl rfl rfl (Bk.get (B3.no hS) rfl)) ?_; refine goH T_ok 200 rfl ?_))
    rw [e3]
    refine goH T_ok 200 rfl ?_
    refine endH ?_
    refine go T_ok 200 rfl ?_
    refine condD rfl (fun h3 => ?_) (fun h3 => ?_)
    · refine go T_ok 200 rfl ?_
      exact ret (ret1 (v := .bool false) Try.results31 rfl ⟨congrArg Value.bool (decide_eq_false fun h => by have := (h.1 s hsm).2.2.2; omega).symm, q3.trans q34⟩)
    · refine go T_ok 200 rfl ?_
      rw [e4]
      refine round ⟨j + 1, rfl, ⟨by omega, q3.trans q34, B3.no q34, fun b hb => ?_⟩, by omega⟩
      rw [take_snoc hs, List.mem_append, List.mem_singleton] at hb
      rcases hb with hb | rfl
      · exact hI b hb
      · exact ⟨h1, by omega, by omega, by omega⟩
  · have hjl : j = l.length := by omega
    subst hjl
    rw [List.take_length] at hI
    refine go T_ok 200 rfl ?_
    refine call rfl rfl rfl (ok _ (by decide) rfl) (rin_any _ _ _ _) ?_
    rintro x w' ⟨rfl, rfl⟩
    refine go T_ok 200 rfl ?_
    refine ret (ret1 (v := .bool _) Try.results31 rfl ⟨?_, q3⟩)
    congr 1
    rw [Bool.eq_iff_iff, decide_eq_true_iff, decide_eq_true_iff]
    unfold LdOk
    exact ⟨fun h => ⟨hI, h⟩, fun h => h.2⟩
def rcl (o : Option (Nat × Nat)) : Int × Int := match o with
  | some (a, b) => ((a : Int), (b : Int))
  | none => (-1, -1)
set_option maxHeartbeats 8000000 in
theorem rClash_any (v : Vo) (st : Int) (l : List Su) (A : Option Addr) (c B : Nat) (w : World) (hv : VoOk v) (hl : LdOk v st l) (hL : l.length ≤ 50) (hS : Sl w B 3 A l.length (l.flatMap sL)) :
    Ret Try.prog 32 [.agg (vL v).toArray, .int .i64 st, .slice A l.length c] w fun x w' => x = .tuple #[.int .i64 (rcl (clsh v st l)).1, .int .i64 (rcl (clsh v st l)).2] ∧ Chg No w w' := by
  refine enter Try.func32 rfl Try.ntmps32 rfl ?_
  refine go T_ok 200 rfl ?_
  refine bx rfl rfl rfl (cs := vL v) rfl ?_
  intro g1 u1 hg1 hs1 q1 B1
  refine go T_ok 200 rfl ?_
  refine loop [1, 2, 3, 8] (fun i : Nat => [.int .i64 st, .slice A l.length c, .pointer (some ⟨g1, 0, none⟩), .int .i64 (i : Int)])
    (fun i w' => i ≤ l.length ∧ Chg No w w' ∧ Bk w' g1 23 (vL v) ∧ clsh v st l = fst2 (clP v st l) l.length (l.length - i) i) (fun i => l.length - i) 0 (fun _ => rfl) rfl ⟨by omega, q1, B1, rfl⟩ ?_
  rintro i τ w2 ⟨hi, q2, B2, hc⟩
  refine go T_ok 200 rfl ?_
  refine condD rfl (fun hlt => ?_) (fun hlt => ?_)
  · have hlt : i < l.length := by omega
    obtain ⟨s, hs⟩ : ∃ s, l[i]? = some s := ⟨_, List.getElem?_eq_getElem hlt⟩
    obtain ⟨b, o, rfl, hb, hcs⟩ := (hS.no q2).el sL_len hs
    obtain ⟨m, hm⟩ : ∃ m, l.length - i = m + 1 := ⟨l.length - i - 1, by omega⟩
    have e1 : w64 ((i : Int) + 1) = ((i + 1 : Nat) : Int) := w64_id (by omega) (by omega)
    have hmi : l.length - (i + 1) = m := by omega
    rw [hm, fst2] at hc
    refine go T_ok 200 rfl ?_
    refine loop [1, 2, 3, 8, 9] (fun k : Nat => [.int .i64 st, .slice (some ⟨b, o, none⟩) l.length c, .pointer (some ⟨g1, 0, none⟩), .int .i64 (i : Int), .int .i64 (k : Int)])
      (fun k w' => k ≤ l.length ∧ Chg No w2 w' ∧ fstI (clP v st l i) l.length 0 = fstI (clP v st l i) (l.length - k) k) (fun k => l.length - k) 0 (fun _ => rfl) rfl ⟨by omega, Chg.refl _ _, rfl⟩ ?_
    rintro k τ w6 ⟨hk, q6, hf⟩
    have B1 := B2.no q6
    refine go T_ok 200 rfl ?_
    refine condD rfl (fun hlt2 => ?_) (fun hlt2 => ?_)
    · have hlt2 : k < l.length := by omega
      obtain ⟨t, ht⟩ : ∃ s, l[k]? = some s := ⟨_, List.getElem?_eq_getElem hlt2⟩
      have S6 := (hS.no q2).no q6
      obtain ⟨b', o', hA, hb', hct⟩ := S6.el sL_len ht
      simp only [Option.some.injEq, Addr.mk.injEq, and_true] at hA
      obtain ⟨rfl, rfl⟩ := hA
      obtain ⟨b', o', hA, hb', hcs⟩ := S6.el sL_len hs
      simp only [Option.some.injEq, Addr.mk.injEq, and_true] at hA
      obtain ⟨rfl, rfl⟩ := hA
      have hlb : b < w6.heap.size := Nat.lt_of_lt_of_le hb S6.2.1
      have ks : ∀ (n : Nat) (x : Value), nth? (sL s) n = some x → ∀ w', Chg No w6 w' → w'.cell? ⟨b, o + i * 3 + n, none⟩ = some x := fun n x hx w' hS => (hS.cell (a := ⟨b, o + i * 3 + n, none⟩) hlb (fun h => h)).trans (hcs.get hx)
      have kt : ∀ (n : Nat) (x : Value), nth? (sL t) n = some x → ∀ w', Chg No w6 w' → w'.cell? ⟨b, o + k * 3 + n, none⟩ = some x := fun n x hx w' hS => (hS.cell (a := ⟨b, o + k * 3 + n, none⟩) hlb (fun h => h)).trans (hct.get hx)
      obtain ⟨n, hn⟩ : ∃ n, l.length - k = n + 1 := ⟨l.length - k - 1, by omega⟩
      have e2 : w64 ((k : Int) + 1) = ((k + 1 : Nat) : Int) := w64_id (by omega) (by omega)
      have hnk : l.length - (k + 1) = n := by omega
      rw [hn, fstI] at hf
      have hcl : clP v st l i k = decide (highS v st t s.col < s.lo) := by unfold clP; rw [getD_some hs, getD_some ht]
      have hso := hl.1 s (List.mem_of_getElem? hs)
      have hto := hl.1 t (List.mem_of_getElem? ht)
      have hso' := hso
      unfold SuOk at hso'
      have hto' := hto
      unfold SuOk at hto'
      have hzs := vo_zs hv
      have fs := far_st hv hl.2.1 hl.2.2 hso'.1.1 (by omega : s.col < v.nx * v.ny) hto'.1.1 (by omega : t.col < v.nx * v.ny)
      have e3 : w64 (st * farI v.nx s.col t.col) = st * farI v.nx s.col t.col := w64_id (by omega) (by omega)
      have e4 : w64 (t.hi + st * farI v.nx s.col t.col) = highS v st t s.col := by unfold highS; rw [farI_comm v.nx t.col]; exact w64_id (by omega) (by omega)
      refine go T_ok 200 rfl ?_
      refine draw mixed (fun w' => Chg No w6 w') ([0,1,2,3,4,5,6,7,8,9,10,11,12,13,14,15,16,17,18,19,20,21,22,23].map (fun i => (i, true)) ++ [(24, false)] ++ [25,26,27].map (fun i => (i, true))) rfl (by kernel_rfl) (Chg.drew _) ?_
      refine goH T_ok 200 rfl ?_
      refine quietH rfl (fun w' hS => r_idx T_ok rfl rfl rfl rfl i rfl hlt) ?_
      refine goH T_ok 200 rfl ?_
      refine quietH rfl (fun w' hS => r_load T_ok rfl rfl rfl (ks 1 _ rfl w' hS)) ?_
      refine goH T_ok 200 rfl ?_
      refine quietH rfl (fun w' hS => r_idx T_ok rfl rfl rfl rfl k rfl hlt2) ?_
      refine goH T_ok 200 rfl ?_
      refine quietH rfl (fun w' hS => r_load T_ok rfl rfl rfl (kt 2 _ rfl w' hS)) ?_
      refine goH T_ok 200 rfl ?_
      refine quietH rfl (fun w' hS => r_loadA T_ok rfl rfl rfl rfl (B1.no hS).all) ?_
      refine goH T_ok 200 rfl ?_
      refine quietH rfl (fun w' hS => r_idx T_ok rfl rfl rfl rfl i rfl hlt) ?_
      refine goH T_ok 200 rfl ?_
      refine quietH rfl (fun w' hS => r_load T_ok rfl rfl rfl (ks 0 _ rfl w' hS)) ?_
      refine goH T_ok 200 rfl ?_
      refine quietH rfl (fun w' hS => r_idx T_ok rfl rfl rfl rfl k rfl hlt2) ?_
      refine goH T_ok 200 rfl ?_
      refine quietH rfl (fun w' hS => r_load T_ok rfl rfl rfl (kt 0 _ rfl w' hS)) ?_
      refine goH T_ok 200 rfl ?_
      refine callE rfl rfl rfl (ok _ (by decide) rfl) (rfar_any v s.col t.col _ hv hso'.1.1 (by omega) hto'.1.1 (by omega)) ?_
      rintro x w7 ⟨rfl, q7⟩
      have q67 := (Chg.drew w6).trans q7
      refine ⟨q67, ?_⟩
      refine goH T_ok 200 rfl ?_
      rw [e3, e4]
      refine endH ?_
      refine go T_ok 200 rfl ?_
      refine condD rfl (fun hit => ?_) (fun hit => ?_)
      · have hp : clP v st l i k = true := by rw [hcl]; exact decide_eq_true hit
        rw [if_pos hp] at hf
        rw [hf] at hc
        rw [show clsh v st l = some (i, k) from hc]
        refine go T_ok 200 rfl ?_
        exact ret (ret2 (v := .int .i64 (i : Int)) (x := .int .i64 (k : Int)) Try.results32 rfl rfl ⟨rfl, (q2.trans q6).trans q67⟩)
      · have hp : clP v st l i k = false := by rw [hcl]; exact decide_eq_false hit
        rw [if_neg (by rw [hp]; simp)] at hf
        refine go T_ok 200 rfl ?_
        rw [e2]
        exact round ⟨k + 1, rfl, ⟨by omega, q6.trans q67, by rw [hnk]; exact hf⟩, by omega⟩
    · have hkl : k = l.length := by omega
      subst hkl
      rw [Nat.sub_self, fstI] at hf
      rw [hf] at hc
      refine go T_ok 200 rfl ?_
      rw [e1]
      exact round ⟨i + 1, rfl, ⟨by omega, q2.trans q6, B1, by rw [hmi]; exact hc⟩, by omega⟩
  · have hil : i = l.length := by omega
    rw [hil, Nat.sub_self, fst2] at hc
    refine go T_ok 200 rfl ?_
    rw [show clsh v st l = none from hc]
    exact ret (ret2 (v := .int .i64 (-1)) (x := .int .i64 (-1)) Try.results32 rfl rfl ⟨rfl, q2⟩)
theorem lstF_bd {v : Vo} {st : Int} (hv : VoOk v) (h0 : 0 ≤ st) (h1 : st ≤ 1000000) {c : Int} (hc : 0 ≤ c) (hc' : c < v.nx * v.ny) : ∀ (l : List Su), (∀ s ∈ l, SuOk v s) → (0 ≤ lstC v st l c ∧ lstC v st l c ≤ v.nz * v.sz) ∧ (0 ≤ mstC v st l c ∧ mstC v st l c ≤ v.nz * v.sz) := by
  have hzs := vo_zs hv
  intro l hl
  have key : ∀ (l : List Su), (∀ s ∈ l, SuOk v s) → ∀ a b, 0 ≤ a → a ≤ v.nz * v.sz → 0 ≤ b → b ≤ v.nz * v.sz → (0 ≤ l.foldl (fun h s => max h (lowS v st s c)) a ∧ l.foldl (fun h s => max h (lowS v st s c)) a ≤ v.nz * v.sz) ∧ (0 ≤ l.foldl (fun h s => min h (highS v st s c)) b ∧ l.foldl (fun h s => min h (highS v st s c)) b ≤ v.nz * v.sz) := by
    intro l
    induction l with
    | nil => intro _ a b h1 h2 h3 h4; exact ⟨⟨h1, h2⟩, h3, h4⟩
    | cons s l ih =>
      intro hl a b h1 h2 h3 h4
      have hs := hl s (by simp)
      unfold SuOk at hs
      have fs := far_st hv (by omega : 0 ≤ st) (by omega) hs.1.1 (by omega : s.col < v.nx * v.ny) hc hc'
      have e1 : 0 ≤ max a (lowS v st s c) ∧ max a (lowS v st s c) ≤ v.nz * v.sz := by unfold lowS; omega
      have e2 : 0 ≤ min b (highS v st s c) ∧ min b (highS v st s c) ≤ v.nz * v.sz := by unfold highS; omega
      exact ih (fun t ht => hl t (by simp [ht])) _ _ e1.1 e1.2 e2.1 e2.2
  exact key l hl 0 (v.nz * v.sz) (by omega) (by omega) (by omega) (by omega)
theorem lstC_snoc (v : Vo) (st : Int) (l : List Su) (c : Int) (s : Su) : lstC v st (l ++ [s]) c = max (lstC v st l c) (lowS v st s c) := by unfold lstC; rw [List.foldl_append]; rfl
theorem mstC_snoc (v : Vo) (st : Int) (l : List Su) (c : Int) (s : Su) : mstC v st (l ++ [s]) c = min (mstC v st l c) (highS v st s c) := by unfold mstC; rw [List.foldl_append]; rfl
set_option maxHeartbeats 8000000 in
theorem Least_any (v : Vo) (st : Int) (l : List Su) (A : Option Addr) (c B : Nat) (w : World) (hv : VoOk v) (hl : LdOk v st l) (hL : l.length ≤ 50) (hS : Sl w B 3 A l.length (l.flatMap sL)) :
    Ret Try.prog 34 [.agg (vL v).toArray, .int .i64 st, .slice A l.length c] w fun x w' => ∃ A' c', x = .slice A' (lst v st l).length c' ∧ Sl w' w'.heap.size 1 A' (lst v st l).length (iL (lst v st l)) ∧ Chg No w w' := by
  have hxy := vo_xy hv
  have hzs := vo_zs hv
  have e0 : w64 (v.nz * v.sz) = v.nz * v.sz := w64_id (by omega) (by omega)
  have hlen : (lst v st l).length = (v.nx * v.ny).toNat := by simp [lst]
  refine enter Try.func34 rfl Try.ntmps34 rfl ?_
  refine go T_ok 200 rfl ?_
  refine bx rfl rfl rfl (cs := vL v) rfl ?_
  intro g1 u1 hg1 hs1 q1 B1
  refine go T_ok 200 rfl ?_
  refine loop [1, 2, 3, 7, 8] (fun p : Nat × Value => [.int .i64 st, .slice A l.length c, .pointer (some ⟨g1, 0, none⟩), p.2, .int .i64 (p.1 : Int)])
    (fun p w' => p.1 ≤ (v.nx * v.ny).toNat ∧ Chg No w w' ∧ Bk w' g1 23 (vL v) ∧ w'.ownsRow (g1 + 1) 3 1 p.2 p.1 (iL ((lst v st l).take p.1))) (fun p => (v.nx * v.ny).toNat - p.1) (0, .slice none 0 0) (fun _ => rfl) rfl ⟨by show 0 ≤ _; omega, q1, B1, own_nil⟩ ?_
  rintro ⟨i, out⟩ τ w2 ⟨hi, q2, B2, o2⟩
  simp only at hi o2
  obtain ⟨A5, c5, rfl⟩ := own_form o2
  refine go T_ok 200 rfl ?_
  repeat (first | (refine ld T_ok rfl rfl rfl rfl (Bk.get B2 rfl) ?_; refine go T_ok 200 rfl ?_) | (refine guardA (b := true) rfl rfl rfl rfl (fun _ => ?_) (fun e => by cases e); refine go T_ok 200 rfl ?_) | (refine guardA (b := false) rfl rfl rfl rfl (fun e => by cases e) (fun _ => ?_); refine go T_ok 200 rfl ?_) | (refine condT rfl rfl ?_; refine go T_ok 200 rfl ?_) | (refine condF rfl rfl ?_; refine go T_ok 200 rfl ?_))
  refine ldA T_ok rfl rfl rfl rfl rfl B2.all ?_
  refine go T_ok 200 rfl ?_
  refine call rfl rfl rfl (ok _ (by decide) rfl) (Columns_any v _ hv) ?_
  rintro x w3 ⟨rfl, q3⟩
  refine go T_ok 200 rfl ?_
  refine condD rfl (fun hlt => ?_) (fun hlt => ?_)
  · have hlt : i < (v.nx * v.ny).toNat := by omega
    have hget : (lst v st l)[i]? = some (lstC v st l (i : Int)) := by unfold lst; rw [List.getElem?_map, List.getElem?_range hlt]; rfl
    have B3 := B2.no q3
    have q03 := q2.trans q3
    have e1 : w64 ((i : Int) + 1) = ((i + 1 : Nat) : Int) := w64_id (by omega) (by omega)
    refine go T_ok 200 rfl ?_
    repeat (first | (refine ld T_ok rfl rfl rfl rfl (Bk.get B3 rfl) ?_; refine go T_ok 200 rfl ?_) | (refine guardA (b := true) rfl rfl rfl rfl (fun _ => ?_) (fun e => by cases e); refine go T_ok 200 rfl ?_) | (refine guardA (b := false) rfl rfl rfl rfl (fun e => by cases e) (fun _ => ?_); refine go T_ok 200 rfl ?_) | (refine condT rfl rfl ?_; refine go T_ok 200 rfl ?_) | (refine condF rfl rfl ?_; refine go T_ok 200 rfl ?_))
    skip
    refine loop [1, 2, 3, 7, 8, 9, 10] (fun k : Nat => [.int .i64 st, .slice A l.length c, .pointer (some ⟨g1, 0, none⟩), .slice A5 i c5, .int .i64 (i : Int), .int .i64 (lstC v st (l.take k) (i : Int)), .int .i64 (k : Int)])
      (fun k w' => k ≤ l.length ∧ Chg No w3 w') (fun k => l.length - k) 0 (fun _ => rfl) rfl ⟨by omega, Chg.refl _ _⟩ ?_
    rintro k τ w6 ⟨hk, q6⟩
    have B6 := B3.no q6
    refine go T_ok 200 rfl ?_
    refine condD rfl (fun hlt2 => ?_) (fun hlt2 => ?_)
    · have hlt2 : k < l.length := by omega
      obtain ⟨t, ht⟩ : ∃ s, l[k]? = some s := ⟨_, List.getElem?_eq_getElem hlt2⟩
      have S6 := (hS.no q03).no q6
      obtain ⟨b, o, rfl, hb, hct⟩ := S6.el sL_len ht
      have hlb : b < w6.heap.size := Nat.lt_of_lt_of_le hb S6.2.1
      have kt : ∀ (n : Nat) (x : Value), nth? (sL t) n = some x → ∀ w', Chg No w6 w' → w'.cell? ⟨b, o + k * 3 + n, none⟩ = some x := fun n x hx w' hS => (hS.cell (a := ⟨b, o + k * 3 + n, none⟩) hlb (fun h => h)).trans (hct.get hx)
      have hto := hl.1 t (List.mem_of_getElem? ht)
      unfold SuOk at hto
      have fs := far_st hv hl.2.1 hl.2.2 hto.1.1 (by omega : t.col < v.nx * v.ny) (by omega : 0 ≤ (i : Int)) (by omega)
      have e2 : w64 ((k : Int) + 1) = ((k + 1 : Nat) : Int) := w64_id (by omega) (by omega)
      have e3 : w64 (st * farI v.nx (i : Int) t.col) = st * farI v.nx (i : Int) t.col := by rw [farI_comm]; exact w64_id (by omega) (by omega)
      have e4 : w64 (t.lo - st * farI v.nx (i : Int) t.col) = lowS v st t (i : Int) := by unfold lowS; rw [farI_comm]; exact w64_id (by omega) (by omega)
      have hsn : lstC v st (l.take (k + 1)) (i : Int) = max (lstC v st (l.take k) (i : Int)) (lowS v st t (i : Int)) := by rw [take_snoc ht, lstC_snoc]
      refine go T_ok 200 rfl ?_
      refine draw mixed (fun w' => Chg No w6 w') ([0,1,2,3,4,5,6,7,8,9,10,11,12,13,14].map (fun i => (i, true)) ++ [(15, false)] ++ [16,17,18,19].map (fun i => (i, true))) rfl (by kernel_rfl) (Chg.drew _) ?_
      refine goH T_ok 200 rfl ?_
      refine quietH rfl (fun w' hS => r_idx T_ok rfl rfl rfl rfl k rfl hlt2) ?_
      refine goH T_ok 200 rfl ?_
      refine quietH rfl (fun w' hS => r_load T_ok rfl rfl rfl (kt 1 _ rfl w' hS)) ?_
      refine goH T_ok 200 rfl ?_
      refine quietH rfl (fun w' hS => r_loadA T_ok rfl rfl rfl rfl (B6.no hS).all) ?_
      refine goH T_ok 200 rfl ?_
      refine quietH rfl (fun w' hS => r_idx T_ok rfl rfl rfl rfl k rfl hlt2) ?_
      refine goH T_ok 200 rfl ?_
      refine quietH rfl (fun w' hS => r_load T_ok rfl rfl rfl (kt 0 _ rfl w' hS)) ?_
      refine goH T_ok 200 rfl ?_
      refine callE rfl rfl rfl (ok _ (by decide) rfl) (rfar_any v (i : Int) t.col _ hv (by omega) (by omega) hto.1.1 (by omega)) ?_
      rintro x w7 ⟨rfl, q7⟩
      have q67 := (Chg.drew w6).trans q7
      refine ⟨q67, ?_⟩
      refine goH T_ok 200 rfl ?_
      rw [e3, e4]
      refine endH ?_
      refine go T_ok 200 rfl ?_
      rw [e2]
      exact round ⟨k + 1, by rw [hsn]; rfl, ⟨by omega, q6.trans q67⟩, by omega⟩
    · have hkl : k = l.length := by omega
      subst hkl
      rw [List.take_length]
      refine go T_ok 200 rfl ?_
      have q36 := q3.trans q6
      have o6 := own_no o2 q36
      refine app1 T_ok rfl rfl rfl rfl rfl rfl (cs := [I (lstC v st l (i : Int))]) rfl rfl rfl rfl (fun _ => rfl) (fun _ => rfl) (fun _ => rfl) o6 (by unfold maxLen; omega) (by omega) (by have := B6.lt; omega) ?_
      intro gx A' c' w9 o9 p9 hs9 _
      refine go T_ok 200 rfl ?_
      rw [e1]
      have hfl : iL ((lst v st l).take i) ++ [I (lstC v st l (i : Int))] = iL ((lst v st l).take (i + 1)) := by rw [take_snoc hget]; simp [iL]
      rw [hfl] at o9
      exact round ⟨(i + 1, _), rfl, ⟨by show i + 1 ≤ _; omega, (q2.trans q36).step p9 (fun k hk e => by have := own_ge o6 e; omega), B6.keep p9 (fun e => by have := own_ge o6 e; omega), o9⟩, by show _ - (i + 1) < _ - i; omega⟩
  · have hil : i = (v.nx * v.ny).toNat := by omega
    rw [List.take_of_length_le (by omega)] at o2
    have S2 := own_slN (own_no o2 q3)
    rw [hil, ← hlen] at S2 ⊢
    refine go T_ok 200 rfl ?_
    exact ret (ret1 (v := .slice _ _ _) Try.results34 rfl ⟨A5, c5, rfl, S2, q2.trans q3⟩)
set_option maxHeartbeats 8000000 in
theorem Most_any (v : Vo) (st : Int) (l : List Su) (A : Option Addr) (c B : Nat) (w : World) (hv : VoOk v) (hl : LdOk v st l) (hL : l.length ≤ 50) (hS : Sl w B 3 A l.length (l.flatMap sL)) :
    Ret Try.prog 35 [.agg (vL v).toArray, .int .i64 st, .slice A l.length c] w fun x w' => ∃ A' c', x = .slice A' (mst v st l).length c' ∧ Sl w' w'.heap.size 1 A' (mst v st l).length (iL (mst v st l)) ∧ Chg No w w' := by
  have hxy := vo_xy hv
  have hzs := vo_zs hv
  have e0 : w64 (v.nz * v.sz) = v.nz * v.sz := w64_id (by omega) (by omega)
  have hlen : (mst v st l).length = (v.nx * v.ny).toNat := by simp [mst]
  refine enter Try.func35 rfl Try.ntmps35 rfl ?_
  refine go T_ok 200 rfl ?_
  refine bx rfl rfl rfl (cs := vL v) rfl ?_
  intro g1 u1 hg1 hs1 q1 B1
  refine go T_ok 200 rfl ?_
  refine loop [1, 2, 3, 7, 8] (fun p : Nat × Value => [.int .i64 st, .slice A l.length c, .pointer (some ⟨g1, 0, none⟩), p.2, .int .i64 (p.1 : Int)])
    (fun p w' => p.1 ≤ (v.nx * v.ny).toNat ∧ Chg No w w' ∧ Bk w' g1 23 (vL v) ∧ w'.ownsRow (g1 + 1) 3 1 p.2 p.1 (iL ((mst v st l).take p.1))) (fun p => (v.nx * v.ny).toNat - p.1) (0, .slice none 0 0) (fun _ => rfl) rfl ⟨by show 0 ≤ _; omega, q1, B1, own_nil⟩ ?_
  rintro ⟨i, out⟩ τ w2 ⟨hi, q2, B2, o2⟩
  simp only at hi o2
  obtain ⟨A5, c5, rfl⟩ := own_form o2
  refine go T_ok 200 rfl ?_
  repeat (first | (refine ld T_ok rfl rfl rfl rfl (Bk.get B2 rfl) ?_; refine go T_ok 200 rfl ?_) | (refine guardA (b := true) rfl rfl rfl rfl (fun _ => ?_) (fun e => by cases e); refine go T_ok 200 rfl ?_) | (refine guardA (b := false) rfl rfl rfl rfl (fun e => by cases e) (fun _ => ?_); refine go T_ok 200 rfl ?_) | (refine condT rfl rfl ?_; refine go T_ok 200 rfl ?_) | (refine condF rfl rfl ?_; refine go T_ok 200 rfl ?_))
  refine ldA T_ok rfl rfl rfl rfl rfl B2.all ?_
  refine go T_ok 200 rfl ?_
  refine call rfl rfl rfl (ok _ (by decide) rfl) (Columns_any v _ hv) ?_
  rintro x w3 ⟨rfl, q3⟩
  refine go T_ok 200 rfl ?_
  refine condD rfl (fun hlt => ?_) (fun hlt => ?_)
  · have hlt : i < (v.nx * v.ny).toNat := by omega
    have hget : (mst v st l)[i]? = some (mstC v st l (i : Int)) := by unfold mst; rw [List.getElem?_map, List.getElem?_range hlt]; rfl
    have B3 := B2.no q3
    have q03 := q2.trans q3
    have e1 : w64 ((i : Int) + 1) = ((i + 1 : Nat) : Int) := w64_id (by omega) (by omega)
    refine go T_ok 200 rfl ?_
    repeat (first | (refine ld T_ok rfl rfl rfl rfl (Bk.get B3 rfl) ?_; refine go T_ok 200 rfl ?_) | (refine guardA (b := true) rfl rfl rfl rfl (fun _ => ?_) (fun e => by cases e); refine go T_ok 200 rfl ?_) | (refine guardA (b := false) rfl rfl rfl rfl (fun e => by cases e) (fun _ => ?_); refine go T_ok 200 rfl ?_) | (refine condT rfl rfl ?_; refine go T_ok 200 rfl ?_) | (refine condF rfl rfl ?_; refine go T_ok 200 rfl ?_))
    rw [e0]
    refine loop [1, 2, 3, 7, 8, 9, 10] (fun k : Nat => [.int .i64 st, .slice A l.length c, .pointer (some ⟨g1, 0, none⟩), .slice A5 i c5, .int .i64 (i : Int), .int .i64 (mstC v st (l.take k) (i : Int)), .int .i64 (k : Int)])
      (fun k w' => k ≤ l.length ∧ Chg No w3 w') (fun k => l.length - k) 0 (fun _ => rfl) rfl ⟨by omega, Chg.refl _ _⟩ ?_
    rintro k τ w6 ⟨hk, q6⟩
    have B6 := B3.no q6
    refine go T_ok 200 rfl ?_
    refine condD rfl (fun hlt2 => ?_) (fun hlt2 => ?_)
    · have hlt2 : k < l.length := by omega
      obtain ⟨t, ht⟩ : ∃ s, l[k]? = some s := ⟨_, List.getElem?_eq_getElem hlt2⟩
      have S6 := (hS.no q03).no q6
      obtain ⟨b, o, rfl, hb, hct⟩ := S6.el sL_len ht
      have hlb : b < w6.heap.size := Nat.lt_of_lt_of_le hb S6.2.1
      have kt : ∀ (n : Nat) (x : Value), nth? (sL t) n = some x → ∀ w', Chg No w6 w' → w'.cell? ⟨b, o + k * 3 + n, none⟩ = some x := fun n x hx w' hS => (hS.cell (a := ⟨b, o + k * 3 + n, none⟩) hlb (fun h => h)).trans (hct.get hx)
      have hto := hl.1 t (List.mem_of_getElem? ht)
      unfold SuOk at hto
      have fs := far_st hv hl.2.1 hl.2.2 hto.1.1 (by omega : t.col < v.nx * v.ny) (by omega : 0 ≤ (i : Int)) (by omega)
      have e2 : w64 ((k : Int) + 1) = ((k + 1 : Nat) : Int) := w64_id (by omega) (by omega)
      have e3 : w64 (st * farI v.nx (i : Int) t.col) = st * farI v.nx (i : Int) t.col := by rw [farI_comm]; exact w64_id (by omega) (by omega)
      have e4 : w64 (t.hi + st * farI v.nx (i : Int) t.col) = highS v st t (i : Int) := by unfold highS; rw [farI_comm]; exact w64_id (by omega) (by omega)
      have hsn : mstC v st (l.take (k + 1)) (i : Int) = min (mstC v st (l.take k) (i : Int)) (highS v st t (i : Int)) := by rw [take_snoc ht, mstC_snoc]
      refine go T_ok 200 rfl ?_
      refine draw mixed (fun w' => Chg No w6 w') ([0,1,2,3,4,5,6,7,8,9,10,11,12,13,14].map (fun i => (i, true)) ++ [(15, false)] ++ [16,17,18,19].map (fun i => (i, true))) rfl (by kernel_rfl) (Chg.drew _) ?_
      refine goH T_ok 200 rfl ?_
      refine quietH rfl (fun w' hS => r_idx T_ok rfl rfl rfl rfl k rfl hlt2) ?_
      refine goH T_ok 200 rfl ?_
      refine quietH rfl (fun w' hS => r_load T_ok rfl rfl rfl (kt 2 _ rfl w' hS)) ?_
      refine goH T_ok 200 rfl ?_
      refine quietH rfl (fun w' hS => r_loadA T_ok rfl rfl rfl rfl (B6.no hS).all) ?_
      refine goH T_ok 200 rfl ?_
      refine quietH rfl (fun w' hS => r_idx T_ok rfl rfl rfl rfl k rfl hlt2) ?_
      refine goH T_ok 200 rfl ?_
      refine quietH rfl (fun w' hS => r_load T_ok rfl rfl rfl (kt 0 _ rfl w' hS)) ?_
      refine goH T_ok 200 rfl ?_
      refine callE rfl rfl rfl (ok _ (by decide) rfl) (rfar_any v (i : Int) t.col _ hv (by omega) (by omega) hto.1.1 (by omega)) ?_
      rintro x w7 ⟨rfl, q7⟩
      have q67 := (Chg.drew w6).trans q7
      refine ⟨q67, ?_⟩
      refine goH T_ok 200 rfl ?_
      rw [e3, e4]
      refine endH ?_
      refine go T_ok 200 rfl ?_
      rw [e2]
      exact round ⟨k + 1, by rw [hsn]; rfl, ⟨by omega, q6.trans q67⟩, by omega⟩
    · have hkl : k = l.length := by omega
      subst hkl
      rw [List.take_length]
      refine go T_ok 200 rfl ?_
      have q36 := q3.trans q6
      have o6 := own_no o2 q36
      refine app1 T_ok rfl rfl rfl rfl rfl rfl (cs := [I (mstC v st l (i : Int))]) rfl rfl rfl rfl (fun _ => rfl) (fun _ => rfl) (fun _ => rfl) o6 (by unfold maxLen; omega) (by omega) (by have := B6.lt; omega) ?_
      intro gx A' c' w9 o9 p9 hs9 _
      refine go T_ok 200 rfl ?_
      rw [e1]
      have hfl : iL ((mst v st l).take i) ++ [I (mstC v st l (i : Int))] = iL ((mst v st l).take (i + 1)) := by rw [take_snoc hget]; simp [iL]
      rw [hfl] at o9
      exact round ⟨(i + 1, _), rfl, ⟨by show i + 1 ≤ _; omega, (q2.trans q36).step p9 (fun k hk e => by have := own_ge o6 e; omega), B6.keep p9 (fun e => by have := own_ge o6 e; omega), o9⟩, by show _ - (i + 1) < _ - i; omega⟩
  · have hil : i = (v.nx * v.ny).toNat := by omega
    rw [List.take_of_length_le (by omega)] at o2
    have S2 := own_slN (own_no o2 q3)
    rw [hil, ← hlen] at S2 ⊢
    refine go T_ok 200 rfl ?_
    exact ret (ret1 (v := .slice _ _ _) Try.results35 rfl ⟨A5, c5, rfl, S2, q2.trans q3⟩)
end Go.Proofs.Ytkkjfjeniaiaiaa
