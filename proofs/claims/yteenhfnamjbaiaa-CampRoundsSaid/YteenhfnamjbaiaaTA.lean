/- The contract of the orders in the specification. -/
import Derived.Test.YteenhfnamjbaiaaT9
import Derived.Test.YteenhfnamjbaiaaT6
namespace Go.Proofs.Yteenhfnamjbaiaa
open Go.Ev Go.Proofs
attribute [local irreducible] At AtH
/-- an order where it lies -/
structure Rw where
 l : List Nat
 A : Option Addr
 c : Nat
def rwL (r : Rw) : List Value := [.slice r.A r.l.length r.c]
theorem rwL_len (r : Rw) : (rwL r).length = 1 := rfl
def RwS (w : World) (B : Nat) (r : Rw) : Prop := Sl w B 1 r.A r.l.length (iL (iN r.l))
def RwO (w : World) (B : Nat) (r : Rw) : Prop := w.ownsRow B 3 1 (.slice r.A r.l.length r.c) r.l.length (iL (iN r.l))
theorem RwO.s {w : World} {B : Nat} {r : Rw} (h : RwO w B r) : RwS w w.heap.size r := own_sl h
theorem elR {w : World} {B : Nat} {r : Rw} (h : RwS w B r) {i x : Nat} (hx : r.l[i]? = some x) : ∃ b o, r.A = some ⟨b, o, none⟩ ∧ b < B ∧ w.cell? ⟨b, o + i * 1, none⟩ = some (I (x : Int)) := by
 have S2 : Sl w B 1 r.A (iN r.l).length (iL (iN r.l)) := by rw [show (iN r.l).length = r.l.length by simp [iN]]; exact h
 exact S2.elI (j := i) (x := (x : Int)) (by unfold iN; rw [List.getElem?_map, hx]; rfl)
set_option maxRecDepth 20000 in
set_option maxHeartbeats 16000000 in
theorem rOrders_any (n : Nat) (w0 : World) (hn : n ≤ 5) : Ret Try.prog 86 [I (n : Int)] w0 fun v w' => Chg No w0 w' ∧ ∃ (rows : List Rw) (A : Option Addr) (c : Nat), v = .slice A rows.length c ∧ rows.map (·.l) = ordL n n ∧ rows.length ≤ 3125 ∧ Sl w' w'.heap.size 1 A rows.length (rows.flatMap rwL) ∧ ∀ r ∈ rows, RwS w' w'.heap.size r := by
 have p5 : ∀ i, i ≤ 5 → 5 ^ i ≤ 3125 := fun i hi => Nat.le_trans (Nat.pow_le_pow_right (by decide) hi) (by decide)
 refine enter Try.func86 rfl Try.ntmps86 rfl ?_
 refine go TL_ok 200 rfl ?_
 refine row TL_ok rfl rfl rfl rfl rfl rfl (cs := [.slice none 0 0]) rfl ?_
 intro g1 w hg1 hs1 q B1 hl1
 have S1 : Sl w w.heap.size 1 (some ⟨g1, 0, none⟩) 1 ([(⟨[], none, 0⟩ : Rw)].flatMap rwL) := own_sl (B1.own hl1 (by decide))
 refine go TL_ok 200 rfl ?_
 refine loop [0, 3, 4] (fun x : Nat × List Rw × Option Addr × Nat => [I (n : Int), .slice x.2.2.1 x.2.1.length x.2.2.2, .int .i64 (x.1 : Int)])
  (fun x w' => x.1 ≤ n ∧ x.2.1.map (·.l) = ordL n x.1 ∧ x.2.1.length ≤ 5 ^ x.1 ∧ Chg No w0 w' ∧ Sl w' w'.heap.size 1 x.2.2.1 x.2.1.length (x.2.1.flatMap rwL) ∧ ∀ r ∈ x.2.1, RwS w' w'.heap.size r) (fun x => n - x.1)
  (0, [⟨[], none, 0⟩], some ⟨g1, 0, none⟩, 1) (fun _ => rfl) rfl ⟨Nat.zero_le _, rfl, by simp, q, S1, fun r hr => by simp at hr; subst hr; exact (Sl.nil w 1 none).more (Nat.zero_le _) (Nat.le_refl _)⟩ ?_
 clear S1 q hg1 hs1 B1 hl1
 rintro ⟨i, rows, A, c⟩ τ w ⟨hi, hrm, hrl, q, So, hr⟩
 simp only at hi hrm hrl So hr
 dsimp only
 refine go TL_ok 200 rfl ?_
 refine condD rfl (fun hlt => ?_) (fun hlt => ?_)
 ·have hlti : i < n := by have : (i : Int) < (n : Int) := hlt; omega
  have h5i := p5 i (by omega)
  have h5s := p5 (i + 1) (by omega)
  have h5e : 5 ^ (i + 1) = 5 ^ i * 5 := Nat.pow_succ _ _
  obtain ⟨B, hB⟩ : ∃ B, B = w.heap.size := ⟨_, rfl⟩
  rw [← hB] at So hr
  have hq0 := q.size
  refine go TL_ok 200 rfl ?_
  refine loop [0, 3, 4, 5, 6] (fun x : Nat × List Rw × Option Addr × Nat => [I (n : Int), .slice A rows.length c, .int .i64 (i : Int), .slice x.2.2.1 x.2.1.length x.2.2.2, .int .i64 (x.1 : Int)])
   (fun x w' => x.1 ≤ rows.length ∧ x.2.1.map (·.l) = ((rows.map (·.l)).take x.1).flatMap (fun k => extO k n) ∧ x.2.1.length ≤ x.1 * n ∧ Chg No w w' ∧ w'.ownsRow B 25 1 (.slice x.2.2.1 x.2.1.length x.2.2.2) x.2.1.length (x.2.1.flatMap rwL) ∧ ∀ r ∈ x.2.1, RwO w' B r) (fun x => rows.length - x.1)
   (0, [], none, 0) (fun _ => rfl) rfl ⟨Nat.zero_le _, by simp, by simp, Chg.refl _ _, own_nil, fun r hr => by cases hr⟩ ?_
  rintro ⟨k, nx, A5, c5⟩ τ w1 ⟨hk, hnm, hnl, q1, own5, hno⟩
  simp only at hk hnm hnl own5 hno
  dsimp only
  refine go TL_ok 200 rfl ?_
  refine condD rfl (fun hlt => ?_) (fun hlt => ?_)
  ·have hltk : k < rows.length := by have : (k : Int) < (rows.length : Int) := hlt; omega
   obtain ⟨r, hrk⟩ := getA_of hltk
   have hrm' := List.mem_of_getElem? hrk
   have hkn : k * n + n ≤ 5 ^ i * 5 := by
    have h1 : (k + 1) * n ≤ 5 ^ i * n := Nat.mul_le_mul_right n (by omega)
    have h2 : 5 ^ i * n ≤ 5 ^ i * 5 := Nat.mul_le_mul_left _ hn
    rw [Nat.succ_mul] at h1
    omega
   have hrlen : r.l.length = i := by
    have h1 : r.l ∈ ordL n i := by rw [← hrm]; exact List.mem_map.2 ⟨r, hrm', rfl⟩
    exact (ordL_len n i r.l h1).1
   have htk : ((rows.map (·.l)).take (k + 1)).flatMap (fun k => extO k n) = ((rows.map (·.l)).take k).flatMap (fun k => extO k n) ++ extO r.l n := by
    rw [List.take_add_one, List.getElem?_map, hrk, List.flatMap_append]
    simp
   refine go TL_ok 200 rfl ?_
   refine loop [0, 3, 4, 5, 6, 7] (fun x : Nat × List Rw × Option Addr × Nat => [I (n : Int), .slice A rows.length c, .int .i64 (i : Int), .slice x.2.2.1 x.2.1.length x.2.2.2, .int .i64 (k : Int), I (x.1 : Int)])
    (fun x w' => x.1 ≤ n ∧ x.2.1.map (·.l) = ((rows.map (·.l)).take k).flatMap (fun k => extO k n) ++ extO r.l x.1 ∧ x.2.1.length ≤ k * n + x.1 ∧ Chg No w w' ∧ w'.ownsRow B 25 1 (.slice x.2.2.1 x.2.1.length x.2.2.2) x.2.1.length (x.2.1.flatMap rwL) ∧ ∀ r ∈ x.2.1, RwO w' B r) (fun x => n - x.1)
    (0, nx, A5, c5) (fun _ => rfl) rfl ⟨Nat.zero_le _, by simp only; rw [hnm]; simp [extO], by simp only; omega, q1, own5, hno⟩ ?_
   clear hnm hnl q1 own5 hno
   rintro ⟨x, nx, A5, c5⟩ τ w1 ⟨hx, hnm, hnl, q1, own5, hno⟩
   simp only at hx hnm hnl own5 hno
   dsimp only
   refine go TL_ok 200 rfl ?_
   refine condD rfl (fun hlt => ?_) (fun hlt => ?_)
   ·have hltx : x < n := by have : (x : Int) < (n : Int) := hlt; omega
    have hsz := q1.size
    have Sr := (hr r hrm').no q1
    obtain ⟨b1, o1, hA1, hb1, hc1⟩ := Sl.el (So.no q1) rwL_len hrk
    have hc1 : w1.cell? ⟨b1, o1 + k * 1, none⟩ = some (.slice r.A r.l.length r.c) := by
     have := hc1 0 _ rfl
     rwa [Nat.add_zero] at this
    have ex : w64 ((x : Int) + 1) = ((x + 1 : Nat) : Int) := w64_id (by omega) (by omega)
    refine go TL_ok 200 rfl ?_
    refine loop [0, 3, 4, 5, 6, 7, 8, 9] (fun j : Nat => [I (n : Int), .slice A rows.length c, .int .i64 (i : Int), .slice A5 nx.length c5, .int .i64 (k : Int), I (x : Int), .bool (decide (x ∈ r.l.take j)), .int .i64 (j : Int)])
     (fun j w' => j ≤ r.l.length ∧ w' = w1) (fun j => r.l.length - j) 0 (fun _ => rfl) rfl ⟨Nat.zero_le _, rfl⟩ ?_
    rintro j τ w2 ⟨hj, rfl⟩
    refine go TL_ok 200 rfl ?_
    rw [hA1]
    refine idx TL_ok rfl rfl rfl rfl rfl k rfl hltk ?_
    refine go TL_ok 200 rfl ?_
    refine ld TL_ok rfl rfl rfl rfl (hc1) ?_
    refine go TL_ok 200 rfl ?_
    rw [← hA1]
    refine go TL_ok 200 rfl ?_
    refine condD rfl (fun hlt => ?_) (fun hlt => ?_)
    ·have hltj : j < r.l.length := by have : (j : Int) < (r.l.length : Int) := hlt; omega
     obtain ⟨y, hy⟩ := getA_of hltj
     obtain ⟨b2, o2, hA2, hb2, hc2⟩ := elR Sr hy
     have ej : w64 ((j : Int) + 1) = ((j + 1 : Nat) : Int) := w64_id (by omega) (by omega)
     have hmem : x ∈ r.l.take (j + 1) ↔ x ∈ r.l.take j ∨ y = x := by
      rw [List.take_add_one, hy]
      simp
      exact ⟨fun h => h.imp id Eq.symm, fun h => h.imp id Eq.symm⟩
     refine go TL_ok 200 rfl ?_
     by_cases hin : x ∈ r.l.take j
     ·rw [decide_eq_true hin]
      refine go TL_ok 200 rfl ?_
      repeat (first | (refine gT rfl rfl rfl rfl ?_; refine go TL_ok 200 rfl ?_) | (refine gF rfl rfl rfl rfl ?_; refine go TL_ok 200 rfl ?_) | (refine condT rfl rfl ?_; refine go TL_ok 200 rfl ?_) | (refine condF rfl rfl ?_; refine go TL_ok 200 rfl ?_))
      rw [ej]
      refine round ⟨j + 1, ?_, ⟨by omega, rfl⟩, by omega⟩
      rw [decide_eq_true (hmem.2 (.inl hin))]
      rfl
     ·rw [decide_eq_false hin]
      refine go TL_ok 200 rfl ?_
      repeat (first | (refine gT rfl rfl rfl rfl ?_; refine go TL_ok 200 rfl ?_) | (refine gF rfl rfl rfl rfl ?_; refine go TL_ok 200 rfl ?_) | (refine condT rfl rfl ?_; refine go TL_ok 200 rfl ?_) | (refine condF rfl rfl ?_; refine go TL_ok 200 rfl ?_))
      rw [hA1]
      refine idx TL_ok rfl rfl rfl rfl rfl k rfl hltk ?_
      refine go TL_ok 200 rfl ?_
      refine ld TL_ok rfl rfl rfl rfl (hc1) ?_
      refine go TL_ok 200 rfl ?_
      rw [← hA1]
      refine go TL_ok 200 rfl ?_
      rw [hA2]
      refine idx TL_ok rfl rfl rfl rfl rfl j rfl hltj ?_
      refine go TL_ok 200 rfl ?_
      refine ld TL_ok rfl rfl rfl rfl (hc2) ?_
      refine go TL_ok 200 rfl ?_
      rw [← hA2]
      refine go TL_ok 200 rfl ?_
      rw [ej]
      have eyx : ((y : Int) == (x : Int)) = decide (x ∈ r.l.take (j + 1)) := by
       by_cases h : y = x
       ·rw [decide_eq_true (hmem.2 (.inr h)), h]; simp
       ·rw [decide_eq_false (fun h' => (hmem.1 h').elim hin h)]
        simp
        omega
      rw [eyx]
      exact round ⟨j + 1, rfl, ⟨by omega, rfl⟩, by omega⟩
    obtain rfl : j = r.l.length := by have : ¬ (j : Int) < (r.l.length : Int) := hlt; omega
    rw [List.take_length]
    have hes := extO_succ r.l x
    by_cases hin : x ∈ r.l
    ·rw [decide_eq_true hin]
     refine go TL_ok 200 rfl ?_
     repeat (first | (refine gT rfl rfl rfl rfl ?_; refine go TL_ok 200 rfl ?_) | (refine gF rfl rfl rfl rfl ?_; refine go TL_ok 200 rfl ?_) | (refine condT rfl rfl ?_; refine go TL_ok 200 rfl ?_) | (refine condF rfl rfl ?_; refine go TL_ok 200 rfl ?_))
     rw [if_pos hin, List.append_nil] at hes
     rw [ex]
     exact round ⟨(x + 1, nx, A5, c5), rfl, ⟨by simp only; omega, by simp only; rw [hes]; exact hnm, by simp only; omega, q1, own5, hno⟩, by simp only; omega⟩
    ·rw [decide_eq_false hin]
     refine go TL_ok 200 rfl ?_
     repeat (first | (refine gT rfl rfl rfl rfl ?_; refine go TL_ok 200 rfl ?_) | (refine gF rfl rfl rfl rfl ?_; refine go TL_ok 200 rfl ?_) | (refine condT rfl rfl ?_; refine go TL_ok 200 rfl ?_) | (refine condF rfl rfl ?_; refine go TL_ok 200 rfl ?_))
     rw [if_neg hin] at hes
     rw [hA1]
     refine idx TL_ok rfl rfl rfl rfl rfl k rfl hltk ?_
     refine go TL_ok 200 rfl ?_
     refine ld TL_ok rfl rfl rfl rfl (hc1) ?_
     refine go TL_ok 200 rfl ?_
     rw [← hA1]
     refine go TL_ok 200 rfl ?_
     refine appS TL_ok rfl rfl rfl rfl rfl (own_nil (B' := w2.heap.size) (e := 3) (sz := 1)) Sr (by simp [iL, Value.oneCell']) (by unfold maxLen; omega) (by show (0 + r.l.length) * 8 ≤ _; omega) (Nat.le_refl _) ?_
     intro A4 c4 w3 o4 q4 hown4
     rw [show 0 + r.l.length = r.l.length from Nat.zero_add _, List.nil_append] at o4
     rw [show 0 + r.l.length = r.l.length from Nat.zero_add _]
     have q4 : Chg No w2 w3 := q4.mono fun _ _ h => by cases h
     have lq4 := q4.size
     refine go TL_ok 200 rfl ?_
     refine app1 TL_ok rfl rfl rfl rfl rfl rfl (cs := [I (x : Int)]) rfl rfl rfl rfl (fun _ => rfl) (fun _ => rfl) (fun _ => rfl) o4 (by unfold maxLen; omega) (by show (r.l.length + 1) * 8 ≤ _; omega) lq4 ?_
     intro gx A6 c6 w5 o6 q6 hs6 hown6
     have q26 : Chg No w2 w5 := q4.step q6 (fun k hk e => by have := own_ge o4 e; omega)
     have own5 := own_no own5 q26
     have hno : ∀ r ∈ nx, RwO w5 B r := fun r hr => own_no (hno r hr) q26
     have q1 := q1.trans q26
     obtain ⟨rn, hrn⟩ : ∃ rn : Rw, rn = ⟨r.l ++ [x], A6, c6⟩ := ⟨_, rfl⟩
     have hN : RwO w5 B rn := by
      rw [hrn]
      show w5.ownsRow B 3 1 (.slice A6 (r.l ++ [x]).length c6) (r.l ++ [x]).length (iL (iN (r.l ++ [x])))
      rw [List.length_append, iN_snoc]
      exact own_base o6 (by omega)
     have hsz2 := q1.size
     refine go TL_ok 200 rfl ?_
     refine app1 TL_ok rfl rfl rfl rfl rfl rfl (cs := [.slice A6 (r.l.length + 1) c6]) rfl rfl rfl rfl (fun _ => rfl) (fun _ => rfl) (fun _ => rfl) own5 (by unfold maxLen; omega) (by show (nx.length + 1) * 24 ≤ _; omega) (by omega) ?_
     intro gy A7 c7 w6 own7 q7 hs7 hown7
     have hN : RwO w6 B rn := own_keep hN q7 (fun k e hh => own_apart own5 hN (by decide) k hh e)
     have hno : ∀ r ∈ nx, RwO w6 B r := fun r hr => own_keep (hno r hr) q7 (fun k e hh => own_apart own5 (hno r hr) (by decide) k hh e)
     have q1 := q1.step q7 (fun k hk e => by have := own_ge own5 e; omega)
     have elen : (nx ++ [rn]).length = nx.length + 1 := by simp
     refine go TL_ok 200 rfl ?_
     rw [ex, ← elen]
     refine round ⟨(x + 1, nx ++ [rn], A7, c7), rfl, ⟨by simp only; omega, by simp only; rw [List.map_append, hnm, hes, List.append_assoc, hrn]; rfl, by simp only; rw [elen]; omega, q1, ?_, fun r' hr' => ?_⟩, by simp only; omega⟩
     ·simp only
      rw [elen, List.flatMap_append, List.flatMap_singleton]
      have : rwL rn = [.slice A6 (r.l.length + 1) c6] := by rw [hrn]; unfold rwL; simp
      rw [this]
      exact own7
     ·rcases List.mem_append.1 hr' with h | h
      ·exact hno r' h
      ·simp at h
       subst h
       exact hN
   ·obtain rfl : x = n := by have : ¬ (x : Int) < (n : Int) := hlt; omega
    refine go TL_ok 200 rfl ?_
    rw [w64_id (x := (k : Int) + 1) (by omega) (by omega)]
    exact round ⟨(k + 1, nx, A5, c5), rfl, ⟨by simp only; omega, by simp only; rw [htk]; exact hnm, by simp only; rw [Nat.succ_mul]; omega, q1, own5, hno⟩, by simp only; omega⟩
  ·obtain rfl : k = rows.length := by have : ¬ (k : Int) < (rows.length : Int) := hlt; omega
   have hbl : rows.length * n ≤ 5 ^ i * 5 := Nat.mul_le_mul hrl hn
   rw [show rows.length = (rows.map (·.l)).length by simp, List.take_length, hrm] at hnm
   refine go TL_ok 200 rfl ?_
   rw [w64_id (x := (i : Int) + 1) (by omega) (by omega)]
   exact round ⟨(i + 1, nx, A5, c5), rfl, ⟨by simp only; omega, hnm, by simp only; omega, q.trans q1, own_sl own5, fun r hr => (hno r hr).s⟩, by simp only; omega⟩
 ·obtain rfl : i = n := by have : ¬ (i : Int) < (n : Int) := hlt; omega
  have h5i := p5 i hn
  refine go TL_ok 200 rfl ?_
  exact ret (ret1 (v := .slice _ _ _) Try.results86 rfl ⟨q, rows, A, c, rfl, hrm, by omega, So, hr⟩)
end Go.Proofs.Yteenhfnamjbaiaa
