/- The contract of the best order in the specification. -/
import Derived.Test.YteenhfnamjbaiaaTA
namespace Go.Proofs.Yteenhfnamjbaiaa
open Go.Ev Go.Proofs
open Go.Camp (Cl wayT stopT TrOk begT okT leaveT endT begs)
attribute [local irreducible] At AtH
theorem RwS.no {w w' : World} {B : Nat} {r : Rw} (h : RwS w B r) (q : Chg No w w') : RwS w' B r := Sl.no h q
set_option maxRecDepth 20000 in
set_option maxHeartbeats 16000000 in
theorem rRound_any (m : Tm) (w0 : World) (H : TrM w0 w0.heap.size m) (h : TrOk (trP m)) (hn : m.S.l.length ≤ 5) : Ret Try.prog 33 [.agg (tmL m).toArray] w0 fun v w' => Chg No w0 w' ∧
  ∃ A c, v = .tuple #[.slice A (roundP (trP m)).best.length c, I (max 0 (roundP (trP m)).least), .bool (decide (0 ≤ (roundP (trP m)).least))] ∧ Sl w' w'.heap.size 1 A (roundP (trP m)).best.length (iL (iN (roundP (trP m)).best)) := by
 have hrs := round_spec h
 have hpos := posT_of h
 have n1 : 1 ≤ m.S.l.length := h.n1
 refine enter Try.func33 rfl Try.ntmps33 rfl ?_
 refine go TL_ok 200 rfl ?_
 refine bx rfl rfl rfl (cs := tmL m) rfl ?_
 intro g1 u1 hg1 hs1 q1 B1
 have q := q1
 refine go TL_ok 200 rfl ?_
 repeat ((first | refine ldA TL_ok rfl rfl rfl rfl rfl (Bk.all B1) ?_ | refine ld TL_ok rfl rfl rfl rfl (Bk.get B1 rfl) ?_ | refine gT rfl rfl rfl rfl ?_ | refine gF rfl rfl rfl rfl ?_ | refine condT rfl rfl ?_ | refine condF rfl rfl ?_); refine go TL_ok 200 rfl ?_)
 refine call rfl rfl rfl (ok _ (by decide) rfl) (rOrders_any m.S.l.length _ hn) ?_
 rintro x w ⟨qk, rows, A, c, rfl, hrm, hrl, So, hr⟩
 have B1 := B1.no qk
 have q := q.trans qk
 rw [ordL_tails] at hrm
 have hst : (trP m).stops.length = m.S.l.length := rfl
 rw [hst] at hrs
 rw [← hrm] at hrs
 obtain ⟨bf, hbf⟩ : ∃ b : Go.Camp.Ms, b = roundP (trP m) := ⟨_, rfl⟩
 rw [← hbf] at hrs ⊢
 have hmem : ∀ r ∈ rows, OrdOk m.S.l.length (iN r.l) := fun r hr => ord_tails.2 (by rw [← hrm]; exact List.mem_map.2 ⟨r, hr, rfl⟩)
 obtain ⟨B, hB⟩ : ∃ B, B = w.heap.size := ⟨_, rfl⟩
 rw [← hB] at So hr
 obtain ⟨wL, hwL⟩ : ∃ w', w' = w := ⟨_, rfl⟩
 rw [← hwL] at So hr hB
 have qL : Chg No wL w := hwL ▸ Chg.refl _ _
 have U : ∀ (b : List Nat × Int) (k : List Nat), updR (trP m) 0 0 [] b k = match endT (trP m) k 0 0 with | none => b | some e => if b.2 < 0 ∨ e < b.2 then (k, e) else b := fun b k => by
  unfold updR
  cases endT (trP m) k 0 0 <;> simp
 obtain ⟨up, hup⟩ : ∃ up, up = updR (trP m) 0 0 [] := ⟨_, rfl⟩
 rw [← hup] at hrs U
 refine go TL_ok 200 rfl ?_
 refine loop [1, 5, 6, 7, 8] (fun x : Nat × (List Nat × Int) × Option Addr × Nat => [.pointer (some ⟨g1, 0, none⟩), .slice x.2.2.1 x.2.1.1.length x.2.2.2, I x.2.1.2, .slice A rows.length c, .int .i64 (x.1 : Int)])
  (fun x w' => x.1 ≤ rows.length ∧ x.2.1 = ((rows.map (·.l)).take x.1).foldl up ([], -1) ∧ Chg No w0 w' ∧ Chg No wL w' ∧ Bk w' g1 56 (tmL m) ∧ Sl w' w'.heap.size 1 x.2.2.1 x.2.1.1.length (iL (iN x.2.1.1))) (fun x => rows.length - x.1)
  (0, ([], -1), none, 0) (fun _ => rfl) rfl ⟨Nat.zero_le _, rfl, q, qL, B1, (Sl.nil w 1 none).more (Nat.zero_le _) (Nat.le_refl _)⟩ ?_
 clear B1 q qL qk q1 hwL
 rintro ⟨i, ⟨bl, be⟩, A5, c5⟩ τ w ⟨hi, hf, q, qL, B1, S5⟩
 simp only at hi hf S5
 dsimp only
 refine go TL_ok 200 rfl ?_
 refine condD rfl (fun hlt => ?_) (fun hlt => ?_)
 ·have hlti : i < rows.length := by have : (i : Int) < (rows.length : Int) := hlt; omega
  have ei : w64 ((i : Int) + 1) = ((i + 1 : Nat) : Int) := w64_id (by omega) (by omega)
  obtain ⟨r, hri⟩ := getA_of hlti
  have hrm2 := List.mem_of_getElem? hri
  have hfs : ((rows.map (·.l)).take (i + 1)).foldl up ([], -1) = up (bl, be) r.l := by
   rw [List.take_add_one, List.getElem?_map, hri, Option.map_some, Option.toList_some, List.foldl_append, ← hf]
   rfl
  rw [U] at hfs
  have hord := hmem r hrm2
  obtain ⟨b1, o1, hA1, hb1, hc1⟩ := Sl.el (So.no qL) rwL_len hri
  have hc1 : w.cell? ⟨b1, o1 + i * 1, none⟩ = some (.slice r.A r.l.length r.c) := by
   have := hc1 0 _ rfl
   rwa [Nat.add_zero] at this
  have hBw := qL.size
  have Sr := (hr r hrm2).no qL
  have hkl : ∀ y ∈ r.l, y < m.S.l.length := fun y hy => by
   have := hord.lt (y : Int) (List.mem_map.2 ⟨y, hy, rfl⟩)
   omega
  have hrlen : r.l.length ≤ 5 := by
   have := hord.len
   simp [iN] at this
   omega
  refine go TL_ok 200 rfl ?_
  refine draw mixed (fun w' => Chg No w w') ([0,1,2,3,4].map (fun i => (i, true)) ++ [(5, false)] ++ [6,7,8,9,10,11,12].map (fun i => (i, true))) rfl (by kernel_rfl) (Chg.drew _) ?_
  have qd := Chg.drew w
  refine goH TL_ok 200 rfl ?_
  refine quietH rfl (fun w' hS => r_loadA TL_ok rfl rfl rfl rfl (B1.no hS).all) ?_
  refine goH TL_ok 200 rfl ?_
  rw [hA1]
  refine quietH rfl (fun w' hS => r_idx TL_ok rfl rfl rfl rfl i rfl hlti) ?_
  refine goH TL_ok 200 rfl ?_
  refine quietH rfl (fun w' hS => r_load TL_ok rfl rfl rfl ((hS.cell (a := ⟨b1, o1 + i * 1, none⟩) (by show b1 < _; omega) (fun h => h)).trans hc1)) ?_
  rw [← hA1]
  refine goH TL_ok 200 rfl ?_
  refine callE rfl rfl rfl (ok _ (by decide) rfl) (rTimes_any m r.l 0 r.A r.c _ _ _ (H.no (q.trans qd)) h (Sr.no qd) hkl (by omega) (by decide) (by decide)) ?_
  rintro x w1 ⟨qk, hT⟩
  have qd := qd.trans qk
  have B1 := B1.no qd
  have S5 := (S5.no qd).more qd.size (Nat.le_refl _)
  have qL := qL.trans qd
  have q := q.trans qd
  refine ⟨qd, ?_⟩
  rcases hT with ⟨he, rfl⟩ | ⟨e, A9, c9, he, rfl, _⟩
  ·rw [he] at hfs
   simp only at hfs
   refine goH TL_ok 200 rfl ?_
   refine endH ?_
   refine go TL_ok 200 rfl ?_
   repeat (first | (refine gT rfl rfl rfl rfl ?_; refine go TL_ok 200 rfl ?_) | (refine gF rfl rfl rfl rfl ?_; refine go TL_ok 200 rfl ?_) | (refine condT rfl rfl ?_; refine go TL_ok 200 rfl ?_) | (refine condF rfl rfl ?_; refine go TL_ok 200 rfl ?_))
   rw [ei]
   exact round ⟨(i + 1, (bl, be), A5, c5), rfl, ⟨by simp only; omega, by simp only; rw [hfs], q, qL, B1, S5⟩, by simp only; omega⟩
  ·rw [he] at hfs
   simp only at hfs
   have he0 := end_nonneg hpos _ _ _ _ (by decide) he
   refine goH TL_ok 200 rfl ?_
   refine endH ?_
   have qz := qL.size
   have hc1 := (qd.cell (a := ⟨b1, o1 + i * 1, none⟩) (by show b1 < _; omega) (fun h => h)).trans hc1
   have Sr := (Sr.no qd).more (by omega) (Nat.le_refl _)
   refine go TL_ok 200 rfl ?_
   repeat ((first | refine ldA TL_ok rfl rfl rfl rfl rfl (Bk.all B1) ?_ | refine ld TL_ok rfl rfl rfl rfl (Bk.get B1 rfl) ?_ | refine gT rfl rfl rfl rfl ?_ | refine gF rfl rfl rfl rfl ?_ | refine condT rfl rfl ?_ | refine condF rfl rfl ?_); refine go TL_ok 200 rfl ?_)
   by_cases c1 : be < 0
   ·rw [decide_eq_true c1]
    rw [if_pos (.inl c1)] at hfs
    refine go TL_ok 200 rfl ?_
    repeat ((first | refine ldA TL_ok rfl rfl rfl rfl rfl (Bk.all B1) ?_ | refine ld TL_ok rfl rfl rfl rfl (Bk.get B1 rfl) ?_ | refine gT rfl rfl rfl rfl ?_ | refine gF rfl rfl rfl rfl ?_ | refine condT rfl rfl ?_ | refine condF rfl rfl ?_); refine go TL_ok 200 rfl ?_)
    rw [hA1]
    refine idx TL_ok rfl rfl rfl rfl rfl i rfl hlti ?_
    refine go TL_ok 200 rfl ?_
    refine ld TL_ok rfl rfl rfl rfl (hc1) ?_
    refine go TL_ok 200 rfl ?_
    rw [← hA1]
    refine go TL_ok 200 rfl ?_
    rw [ei]
    exact round ⟨(i + 1, (r.l, e), r.A, r.c), rfl, ⟨by simp only; omega, by simp only; rw [hfs], q, qL, B1, Sr⟩, by simp only; omega⟩
   rw [decide_eq_false c1]
   refine go TL_ok 200 rfl ?_
   repeat ((first | refine ldA TL_ok rfl rfl rfl rfl rfl (Bk.all B1) ?_ | refine ld TL_ok rfl rfl rfl rfl (Bk.get B1 rfl) ?_ | refine gT rfl rfl rfl rfl ?_ | refine gF rfl rfl rfl rfl ?_ | refine condT rfl rfl ?_ | refine condF rfl rfl ?_); refine go TL_ok 200 rfl ?_)
   by_cases c2 : e < be
   ·rw [decide_eq_true c2]
    rw [if_pos (.inr c2)] at hfs
    refine go TL_ok 200 rfl ?_
    repeat ((first | refine ldA TL_ok rfl rfl rfl rfl rfl (Bk.all B1) ?_ | refine ld TL_ok rfl rfl rfl rfl (Bk.get B1 rfl) ?_ | refine gT rfl rfl rfl rfl ?_ | refine gF rfl rfl rfl rfl ?_ | refine condT rfl rfl ?_ | refine condF rfl rfl ?_); refine go TL_ok 200 rfl ?_)
    rw [hA1]
    refine idx TL_ok rfl rfl rfl rfl rfl i rfl hlti ?_
    refine go TL_ok 200 rfl ?_
    refine ld TL_ok rfl rfl rfl rfl (hc1) ?_
    refine go TL_ok 200 rfl ?_
    rw [← hA1]
    refine go TL_ok 200 rfl ?_
    rw [ei]
    exact round ⟨(i + 1, (r.l, e), r.A, r.c), rfl, ⟨by simp only; omega, by simp only; rw [hfs], q, qL, B1, Sr⟩, by simp only; omega⟩
   rw [decide_eq_false c2]
   rw [if_neg (fun h => h.elim c1 c2)] at hfs
   refine go TL_ok 200 rfl ?_
   repeat ((first | refine ldA TL_ok rfl rfl rfl rfl rfl (Bk.all B1) ?_ | refine ld TL_ok rfl rfl rfl rfl (Bk.get B1 rfl) ?_ | refine gT rfl rfl rfl rfl ?_ | refine gF rfl rfl rfl rfl ?_ | refine condT rfl rfl ?_ | refine condF rfl rfl ?_); refine go TL_ok 200 rfl ?_)
   rw [ei]
   exact round ⟨(i + 1, (bl, be), A5, c5), rfl, ⟨by simp only; omega, by simp only; rw [hfs], q, qL, B1, S5⟩, by simp only; omega⟩
 ·obtain rfl : i = rows.length := by have : ¬ (i : Int) < (rows.length : Int) := hlt; omega
  rw [show rows.length = (rows.map (·.l)).length by simp, List.take_length, ← hrs] at hf
  injection hf with hf1 hf2
  subst hf1
  subst hf2
  refine go TL_ok 200 rfl ?_
  refine ret (ret3 (v := .slice _ _ _) (x := I _) (y := .bool _) Try.results33 rfl rfl rfl ⟨q, A5, c5, rfl, S5⟩)
end Go.Proofs.Yteenhfnamjbaiaa
