/- The contract of crossings: an iterator over the ticks at which a ray crosses planes. -/
import Derived.Test.YtkkjfjeniaiaiaaC5
namespace Go.Proofs.Ytkkjfjeniaiaiaa
open Go.Ev Go.Proofs Go.Rock
attribute [local irreducible] At AtH

theorem crossings_any (v : Vo) (r : Ra) (w : World) : Ret Try.prog 87 [.agg (wL v r).toArray] w fun x w' => ∃ g, x = .func (.func 94) #[] #[.pointer (some ⟨g, 0, none⟩)] ∧ Chg No w w' ∧ w.heap.size ≤ g ∧ Bk w' g 103 (wL v r) := by
  refine enter Try.func87 rfl Try.ntmps87 rfl ?_
  refine go T_ok 200 rfl ?_
  refine bx rfl rfl rfl (cs := wL v r) rfl ?_
  intro g1 u1 hg1 hs1 q1 B1
  refine go T_ok 200 rfl ?_
  exact ret (ret1 (v := .func _ _ _) Try.results87 rfl ⟨g1, rfl, q1, by omega, B1⟩)
def encT (x : Int) : List Value := [.int .i64 x]
theorem nxF_snoc (a n t : Int) (l : List Int) : nxF a n (l ++ [t]) = nxS a (nxF a n l) t := by unfold nxF; rw [List.foldl_append]; rfl
theorem nxF_app (a n : Int) (l m : List Int) : nxF a n (l ++ m) = nxF a (nxF a n l) m := by unfold nxF; rw [List.foldl_append]
theorem range_succ_map {α : Type} (f : Nat → α) (k : Nat) : (List.range (k + 1)).map f = (List.range k).map f ++ [f k] := by simp [List.range_succ]
theorem nxF_bd {a n : Int} {l : List Int} (h : ∀ t ∈ l, -24192000000 ≤ t ∧ t ≤ 24192000000) (hn : n = -1 ∨ (0 ≤ n ∧ n ≤ 24192000000)) (ha : 0 ≤ a) : nxF a n l = -1 ∨ (0 ≤ nxF a n l ∧ nxF a n l ≤ 24192000000) := by
  induction l generalizing n with
  | nil => exact hn
  | cons t l ih =>
    have ht := h t (by simp)
    refine ih (n := nxS a n t) (fun u hu => h u (by simp [hu])) ?_
    unfold nxS
    split
    · exact .inr (by omega)
    · exact hn
set_option maxHeartbeats 4000000 in
theorem crossings_seq (v : Vo) (r : Ra) (g1 : Nat) (w : World) (hv : VoOk v) (hr : RaOk r) (H : Bk w g1 103 (wL v r)) :
    Seq Try.prog 94 [.pointer (some ⟨g1, 0, none⟩)] encT (fun pre x _ => (pre ++ [x]).length ≤ (ts v r).length ∧ x ∈ ts v r) (fun k => k = g1) (fun xs => xs = ts v r) w := by
  intro l J W hW hJ hY h0
  have H1 := H.no hW
  have hsz : 1 ≤ v.sz ∧ v.sz ≤ 1000 := hv.2.2.2.2
  refine enter Try.func94 rfl Try.ntmps94 rfl ?_
  refine go T_ok 200 rfl ?_
  refine loop [0, 1, 3] (fun i : Nat => [.func (.yield l) #[] #[], .pointer (some ⟨g1, 0, none⟩), .int .i64 ((ts v r)[i]?.getD 0)])
    (fun i w' => i < (ts v r).length ∧ J ((ts v r).take i) w' ∧ W.heap.size ≤ w'.heap.size ∧ Bk w' g1 103 (wL v r)) (fun i => (ts v r).length - i) 0 (fun _ => rfl) (by rw [ts_head]; rfl)
    ⟨by have := (List.getElem?_eq_some_iff.1 (ts_head v r)).1; omega, h0, Nat.le_refl _, H1⟩ ?_
  rintro i τ w1 ⟨hi, hJ1, hs1, H2⟩
  obtain ⟨t, ht⟩ : ∃ t, (ts v r)[i]? = some t := ⟨_, List.getElem?_eq_getElem hi⟩
  have htm := List.mem_of_getElem? ht
  have htb := ts_bd hv hr htm
  have hnx := ts_next ht
  rw [ht, Option.getD_some]
  refine go T_ok 200 rfl ?_
  have hY1 := hY _ t w1 hJ1 ⟨by rw [← take_snoc ht, List.length_take]; omega, htm⟩ hs1
  refine yieldC rfl rfl rfl hY1 ?_
  rintro w2 ⟨hJ2, q2⟩
  rw [← take_snoc ht] at hJ2
  have H3 := H2.keep q2 (fun h => h rfl)
  have hs2 := q2.size
  refine go T_ok 200 rfl ?_
  refine condT rfl rfl ?_
  refine go T_ok 200 rfl ?_
  refine ldArr T_ok rfl rfl rfl rfl (cs := aL v r) rfl (H3.sub 4 (aL v r) rfl) ?_
  refine go T_ok 200 rfl ?_
  refine loop [0, 1, 3, 4, 13, 14] (fun j : Nat => [.func (.yield l) #[] #[], .pointer (some ⟨g1, 0, none⟩), .int .i64 t, .int .i64 (nxF t (-1) (((axs v r).take j).flatMap (crX v r))), .agg (aL v r).toArray, .int .i64 (j : Int)])
    (fun j w' => j ≤ 3 ∧ Chg No w2 w') (fun j => 3 - j) 0 (fun _ => rfl) rfl ⟨by omega, Chg.refl _ _⟩ ?_
  rintro j τ w3 ⟨hj, q3⟩
  have hN : ∀ j, nxF t (-1) (((axs v r).take j).flatMap (crX v r)) = -1 ∨ (0 ≤ nxF t (-1) (((axs v r).take j).flatMap (crX v r)) ∧ nxF t (-1) (((axs v r).take j).flatMap (crX v r)) ≤ 24192000000) := by
    intro j
    refine nxF_bd (fun u hu => crs_bd hv hr ?_) (.inl rfl) (by omega)
    rw [← crs_axs]
    obtain ⟨x, hx, hu⟩ := List.mem_flatMap.1 hu
    exact List.mem_flatMap.2 ⟨x, List.mem_of_mem_take hx, hu⟩
  refine go T_ok 200 rfl ?_
  refine condD rfl (fun hlt => ?_) (fun hlt => ?_)
  · have hlt : j < 3 := by omega
    obtain ⟨x, hx, hxv⟩ := axs_get v r hlt
    have hxm := List.mem_of_getElem? hx
    obtain ⟨h1, h2, h3, h4⟩ := axs_ok hv hr hxm
    have hstep : ((axs v r).take (j + 1)).flatMap (crX v r) = ((axs v r).take j).flatMap (crX v r) ++ crX v r x := by rw [take_snoc hx]; simp
    have hNj := hN j
    rw [show ∀ n, nxF t n (((axs v r).take j).flatMap (crX v r)) = nxF t n (((axs v r).take j).flatMap (crX v r)) from fun _ => rfl]
    generalize hL : ((axs v r).take j).flatMap (crX v r) = L at hstep hNj ⊢
    have e8 : w64 ((j : Int) + 1) = ((j + 1 : Nat) : Int) := w64_id (by omega) (by omega)
    refine go T_ok 200 rfl ?_
    refine ixS T_ok rfl rfl rfl rfl rfl j rfl hlt hxv ?_
    refine go T_ok 200 rfl ?_
    refine nw rfl rfl (z := .agg #[I 0, I 0, I 0]) (by kernel_rfl) (cs := [I 0, I 0, I 0]) rfl ?_
    intro g4 u4 hg4 hs4 q4 B4
    refine go T_ok 200 rfl ?_
    refine stA T_ok rfl rfl rfl rfl (vs := xL x) rfl rfl rfl B4 rfl ?_
    intro u5 q5 B5 hs5
    have B5 : Bk u5 g4 100 (xL x) := B5
    have q45 : Chg No w3 u5 := q4.step q5 (fun k hk e => by omega)
    have q25 : Chg No w2 u5 := q3.trans q45
    clear q4 q5 B4
    refine go T_ok 200 rfl ?_
    repeat (first | (refine ld T_ok rfl rfl rfl rfl (Bk.get B5 rfl) ?_; refine go T_ok 200 rfl ?_) | (refine guardA (b := true) rfl rfl rfl rfl (fun _ => ?_) (fun e => by cases e); refine go T_ok 200 rfl ?_) | (refine guardA (b := false) rfl rfl rfl rfl (fun e => by cases e) (fun _ => ?_); refine go T_ok 200 rfl ?_) | (refine condT rfl rfl ?_; refine go T_ok 200 rfl ?_) | (refine condF rfl rfl ?_; refine go T_ok 200 rfl ?_))
    refine cond rfl (fun hz => ?_) (fun hz => ?_)
    · have hz : x.2.1 = 0 := by simpa using hz
      refine go T_ok 200 rfl ?_
      rw [e8]
      refine round ⟨j + 1, ?_, ⟨by omega, q25⟩, by omega⟩
      rw [hstep]
      have : crX v r x = [] := by unfold crX crA; rw [if_pos hz]
      rw [this, List.append_nil]
      rfl
    · have hz : x.2.1 ≠ 0 := by simpa using hz
      have hcr : crX v r x = (List.range (x.2.2.toNat + 1)).map (cr (tk r) v.sz x.1 x.2.1) := by unfold crX crA; rw [if_neg hz]
      have e9 : w64 (x.2.2 + 1) = ((x.2.2.toNat + 1 : Nat) : Int) := by rw [w64_id (by omega) (by omega)]; omega
      refine go T_ok 200 rfl ?_
      repeat (first | (refine ld T_ok rfl rfl rfl rfl (Bk.get B5 rfl) ?_; refine go T_ok 200 rfl ?_) | (refine guardA (b := true) rfl rfl rfl rfl (fun _ => ?_) (fun e => by cases e); refine go T_ok 200 rfl ?_) | (refine guardA (b := false) rfl rfl rfl rfl (fun e => by cases e) (fun _ => ?_); refine go T_ok 200 rfl ?_) | (refine condT rfl rfl ?_; refine go T_ok 200 rfl ?_) | (refine condF rfl rfl ?_; refine go T_ok 200 rfl ?_))
      rw [e9]
      refine loop [0, 1, 3, 4, 6, 13, 14, 22, 23] (fun k : Nat => [.func (.yield l) #[] #[], .pointer (some ⟨g1, 0, none⟩), .int .i64 t, .int .i64 (nxF t (-1) (L ++ (List.range k).map (cr (tk r) v.sz x.1 x.2.1))), .pointer (some ⟨g4, 0, none⟩), .agg (aL v r).toArray, .int .i64 (j : Int), .int .i64 ((x.2.2.toNat + 1 : Nat) : Int), .int .i64 (k : Int)])
        (fun k w' => k ≤ x.2.2.toNat + 1 ∧ Chg No u5 w') (fun k => x.2.2.toNat + 1 - k) 0 (fun _ => rfl) (by simp only [List.range_zero, List.map_nil, List.append_nil]; rfl) ⟨by omega, Chg.refl _ _⟩ ?_
      rintro k τ w6 ⟨hk, q6⟩
      have H6 := H3.no (q25.trans q6)
      have B6 := B5.no q6
      refine go T_ok 200 rfl ?_
      refine condD rfl (fun hlt2 => ?_) (fun hlt2 => ?_)
      · have hlt2 : k < x.2.2.toNat + 1 := by omega
        have m1 := mul_bd (a := (k : Int)) (b := v.sz) (A := 12) (B := 1000) (by omega) (by omega) (by omega) (by omega)
        have e10 : w64 ((k : Int) * v.sz) = (k : Int) * v.sz := w64_id (by omega) (by omega)
        have e11 : w64 ((k : Int) + 1) = ((k + 1 : Nat) : Int) := w64_id (by omega) (by omega)
        refine go T_ok 200 rfl ?_
        refine ldA T_ok rfl rfl rfl rfl rfl H6.all ?_
        refine go T_ok 200 rfl ?_
        refine ldA T_ok rfl rfl rfl rfl rfl B6.all ?_
        refine go T_ok 200 rfl ?_
        repeat (first | (refine ld T_ok rfl rfl rfl rfl (Bk.get H6 rfl) ?_; refine go T_ok 200 rfl ?_) | (refine guardA (b := true) rfl rfl rfl rfl (fun _ => ?_) (fun e => by cases e); refine go T_ok 200 rfl ?_) | (refine guardA (b := false) rfl rfl rfl rfl (fun e => by cases e) (fun _ => ?_); refine go T_ok 200 rfl ?_) | (refine condT rfl rfl ?_; refine go T_ok 200 rfl ?_) | (refine condF rfl rfl ?_; refine go T_ok 200 rfl ?_))
        rw [e10]
        refine call rfl rfl rfl (ok _ (by decide) rfl) (when_any v r x _ _ hv hr hxm hz m1.1 (by omega)) ?_
        rintro y w7 ⟨rfl, q7⟩
        refine go T_ok 200 rfl ?_
        have hks : nxF t (-1) (L ++ (List.range (k + 1)).map (cr (tk r) v.sz x.1 x.2.1)) = nxS t (nxF t (-1) (L ++ (List.range k).map (cr (tk r) v.sz x.1 x.2.1))) (cr (tk r) v.sz x.1 x.2.1 k) := by
          rw [range_succ_map, ← List.append_assoc, nxF_snoc]
        have hc : ((k : Int) * v.sz - x.1) * (tk r / x.2.1) = cr (tk r) v.sz x.1 x.2.1 k := rfl
        rw [hc]
        generalize nxF t (-1) (L ++ (List.range k).map (cr (tk r) v.sz x.1 x.2.1)) = nx at hks ⊢
        generalize cr (tk r) v.sz x.1 x.2.1 k = cc at hks ⊢
        refine guardD rfl rfl rfl (fun h1 => ?_) (fun h1 => ?_)
        · refine go T_ok 200 rfl ?_
          refine guardD rfl rfl rfl (fun h2 => ?_) (fun h2 => ?_)
          · refine go T_ok 200 rfl ?_
            repeat (first | (refine guardA (b := true) rfl rfl rfl rfl (fun _ => ?_) (fun e => by cases e); refine go T_ok 200 rfl ?_) | (refine guardA (b := false) rfl rfl rfl rfl (fun e => by cases e) (fun _ => ?_); refine go T_ok 200 rfl ?_) | (refine condT rfl rfl ?_; refine go T_ok 200 rfl ?_) | (refine condF rfl rfl ?_; refine go T_ok 200 rfl ?_))
            rw [e11]
            refine round ⟨k + 1, ?_, ⟨by omega, q6.trans q7⟩, by omega⟩
            rw [hks]
            unfold nxS
            rw [if_pos ⟨h1, (.inl h2)⟩]
            rfl
          · refine go T_ok 200 rfl ?_
            refine condD rfl (fun h3 => ?_) (fun h3 => ?_)
            · refine go T_ok 200 rfl ?_
              repeat (first | (refine guardA (b := true) rfl rfl rfl rfl (fun _ => ?_) (fun e => by cases e); refine go T_ok 200 rfl ?_) | (refine guardA (b := false) rfl rfl rfl rfl (fun e => by cases e) (fun _ => ?_); refine go T_ok 200 rfl ?_) | (refine condT rfl rfl ?_; refine go T_ok 200 rfl ?_) | (refine condF rfl rfl ?_; refine go T_ok 200 rfl ?_))
              rw [e11]
              refine round ⟨k + 1, ?_, ⟨by omega, q6.trans q7⟩, by omega⟩
              rw [hks]
              unfold nxS
              rw [if_pos ⟨h1, (.inr h3)⟩]
              rfl
            · refine go T_ok 200 rfl ?_
              repeat (first | (refine guardA (b := true) rfl rfl rfl rfl (fun _ => ?_) (fun e => by cases e); refine go T_ok 200 rfl ?_) | (refine guardA (b := false) rfl rfl rfl rfl (fun e => by cases e) (fun _ => ?_); refine go T_ok 200 rfl ?_) | (refine condT rfl rfl ?_; refine go T_ok 200 rfl ?_) | (refine condF rfl rfl ?_; refine go T_ok 200 rfl ?_))
              rw [e11]
              refine round ⟨k + 1, ?_, ⟨by omega, q6.trans q7⟩, by omega⟩
              rw [hks]
              unfold nxS
              rw [if_neg (fun h => h.2.elim h2 h3)]
              rfl
        · refine go T_ok 200 rfl ?_
          repeat (first | (refine guardA (b := true) rfl rfl rfl rfl (fun _ => ?_) (fun e => by cases e); refine go T_ok 200 rfl ?_) | (refine guardA (b := false) rfl rfl rfl rfl (fun e => by cases e) (fun _ => ?_); refine go T_ok 200 rfl ?_) | (refine condT rfl rfl ?_; refine go T_ok 200 rfl ?_) | (refine condF rfl rfl ?_; refine go T_ok 200 rfl ?_))
          rw [e11]
          refine round ⟨k + 1, ?_, ⟨by omega, q6.trans q7⟩, by omega⟩
          rw [hks]
          unfold nxS
          rw [if_neg (fun h => h1 h.1)]
          rfl
      · have hkk : k = x.2.2.toNat + 1 := by omega
        subst hkk
        refine go T_ok 200 rfl ?_
        rw [e8]
        refine round ⟨j + 1, ?_, ⟨by omega, q25.trans q6⟩, by omega⟩
        rw [hstep, hcr]
        rfl
  · have hj3 : j = 3 := by omega
    subst hj3
    have hN3 := hN 3
    have e : (axs v r).take 3 = axs v r := rfl
    rw [e, crs_axs, hnx] at *
    refine go T_ok 200 rfl ?_
    refine condD rfl (fun hneg => ?_) (fun hneg => ?_)
    · refine go T_ok 200 rfl ?_
      refine ret (ret0 Try.results94 ⟨ts v r, rfl, ?_⟩)
      cases hn : (ts v r)[i + 1]? with
      | none =>
        have hle := List.getElem?_eq_none_iff.1 hn
        have e : (ts v r).take (i + 1) = ts v r := List.take_of_length_le hle
        rw [e] at hJ2
        exact hJ _ _ _ hJ2 q3
      | some u =>
        rw [hn, Option.getD_some] at hneg
        have := ts_nonneg (List.mem_of_getElem? hn)
        omega
    · cases hn : (ts v r)[i + 1]? with
      | none => rw [hn, Option.getD_none] at hneg; omega
      | some u =>
        refine go T_ok 200 rfl ?_
        have hi1 := (List.getElem?_eq_some_iff.1 hn).1
        refine round ⟨i + 1, ?_, ⟨hi1, hJ _ _ _ hJ2 q3, by have := q3.size; omega, H3.no q3⟩, by omega⟩
        rw [hn]
        rfl
end Go.Proofs.Ytkkjfjeniaiaiaa
