/- The contracts of the specification of layer 6: crossings, pieces. -/
import Derived.Test.YtkkjfjeniaiaiaaCA
namespace Go.Proofs.Ytkkjfjeniaiaiaa
open Go.Ev Go.Proofs Go.Rock
attribute [local irreducible] At AtH

theorem iL_ones (l : List Int) : (iL l).all (·.oneCell') = true := by simp [iL, Value.oneCell']
theorem iL_take (l : List Int) (j : Nat) : (iL l).take j = iL (l.take j) := by simp [iL, List.map_take]
theorem iL_drop (l : List Int) (j : Nat) : (iL l).drop j = iL (l.drop j) := by simp [iL, List.map_drop]
/-- where a number is put -/
def putAt (n : Int) (l : List Int) : Nat := (l.takeWhile (fun x => decide (x < n))).length
theorem putAt_le (n : Int) (l : List Int) : putAt n l ≤ l.length := by
  unfold putAt
  exact (List.takeWhile_sublist _).length_le
theorem putAt_spec (n : Int) : ∀ (l : List Int) (j : Nat) (x : Int), l[j]? = some x → j ≤ putAt n l → (j < putAt n l ↔ x < n) := by
  intro l
  induction l with
  | nil => intro j x h; cases h
  | cons y l ih =>
    intro j x h hj
    unfold putAt at hj ⊢
    rw [List.takeWhile_cons] at hj ⊢
    by_cases hy : y < n
    · rw [if_pos (by simpa using hy)] at hj ⊢
      cases j with
      | zero =>
        simp at h
        subst h
        simp [hy]
      | succ j =>
        simp only [List.length_cons] at hj ⊢
        have := ih j x (by simpa using h) (by unfold putAt; omega)
        unfold putAt at this
        omega
    · rw [if_neg (by simpa using hy)] at hj ⊢
      have : j = 0 := by simpa using hj
      subst this
      simp at h
      subst h
      simp [hy]
theorem put_split (n : Int) : ∀ (l : List Int), put l n = if l[putAt n l]? = some n then l else l.take (putAt n l) ++ ([n] ++ l.drop (putAt n l)) := by
  intro l
  induction l with
  | nil => simp [put, putAt]
  | cons y l ih =>
    unfold put
    by_cases hy : y < n
    · have e : putAt n (y :: l) = putAt n l + 1 := by unfold putAt; rw [List.takeWhile_cons, if_pos (by simpa using hy)]; rfl
      rw [if_pos hy, ih, e]
      simp only [List.getElem?_cons_succ, List.take_succ_cons, List.drop_succ_cons]
      split <;> rfl
    · have e : putAt n (y :: l) = 0 := by unfold putAt; rw [List.takeWhile_cons, if_neg (by simpa using hy)]; rfl
      rw [if_neg hy, e]
      simp only [List.getElem?_cons_zero, Option.some.injEq, List.take_zero, List.drop_zero, List.nil_append, List.cons_append]
set_option maxHeartbeats 4000000 in
theorem put_any (l : List Int) (n : Int) (A : Option Addr) (c B : Nat) (w : World) (hL : l.length ≤ 1000) (hc : l.length ≤ c) (hS : Sl w B 1 A l.length (iL l)) :
    Ret Try.prog 92 [.slice A l.length c, .int .i64 n] w fun x w' => ∃ A' c', x = .slice A' (put l n).length c' ∧ (put l n).length ≤ c' ∧ Sl w' w'.heap.size 1 A' (put l n).length (iL (put l n)) ∧ Chg No w w' := by
  refine enter Try.func92 rfl Try.ntmps92 rfl ?_
  refine go T_ok 200 rfl ?_
  have hB := hS.2.1
  refine loop [0, 1, 5] (fun j : Nat => [.slice A l.length c, .int .i64 n, .int .i64 (j : Int)])
    (fun j w' => j ≤ putAt n l ∧ w = w') (fun j => putAt n l - j) 0 (fun _ => rfl) rfl ⟨by omega, rfl⟩ ?_
  rintro j τ _ ⟨hj, rfl⟩
  have hple := putAt_le n l
  have e1 : w64 ((j : Int) + 1) = ((j + 1 : Nat) : Int) := w64_id (by omega) (by omega)
  refine go T_ok 200 rfl ?_
  refine guardD rfl rfl rfl (fun hlt => ?_) (fun hlt => ?_)
  · have hlt : j < l.length := by omega
    obtain ⟨x, hx⟩ : ∃ x, l[j]? = some x := ⟨_, List.getElem?_eq_getElem hlt⟩
    have hsp := putAt_spec n l j x hx hj
    obtain ⟨b, o, rfl, hb, hcell⟩ := hS.elI hx
    refine go T_ok 200 rfl ?_
    refine idx T_ok rfl rfl rfl rfl rfl j rfl hlt ?_
    refine go T_ok 200 rfl ?_
    refine ld T_ok rfl rfl rfl rfl (hcell) ?_
    refine go T_ok 200 rfl ?_
    refine condD rfl (fun hxn => ?_) (fun hxn => ?_)
    · refine go T_ok 200 rfl ?_
      rw [e1]
      have := hsp.2 hxn
      exact round ⟨j + 1, rfl, ⟨by omega, rfl⟩, by omega⟩
    · have hjp : j = putAt n l := by
        rcases Nat.lt_or_ge j (putAt n l) with h | h
        · exact absurd (hsp.1 h) hxn
        · omega
      have hps := put_split n l
      rw [← hjp, hx] at hps
      refine go T_ok 200 rfl ?_
      refine guardD rfl rfl rfl (fun h1 => ?_) (fun h1 => absurd (by omega) h1)
      refine go T_ok 200 rfl ?_
      refine idx T_ok rfl rfl rfl rfl rfl j rfl hlt ?_
      refine go T_ok 200 rfl ?_
      refine ld T_ok rfl rfl rfl rfl (hcell) ?_
      refine go T_ok 200 rfl ?_
      refine cond rfl (fun he => ?_) (fun he => ?_)
      · have he : x = n := by simpa using he
        rw [if_pos (by rw [he])] at hps
        refine go T_ok 200 rfl ?_
        rw [hps]
        exact ret (ret1 (v := .slice _ _ _) Try.results92 rfl ⟨_, c, rfl, hc, hS.more hB (Nat.le_refl _), Chg.refl _ _⟩)
      · have he : x ≠ n := by simpa using he
        rw [if_neg (by simpa using he)] at hps
        refine go T_ok 200 rfl ?_
        repeat (first | (refine guardA (b := true) rfl rfl rfl rfl (fun _ => ?_) (fun e => by cases e); refine go T_ok 200 rfl ?_) | (refine guardA (b := false) rfl rfl rfl rfl (fun e => by cases e) (fun _ => ?_); refine go T_ok 200 rfl ?_) | (refine condT rfl rfl ?_; refine go T_ok 200 rfl ?_) | (refine condF rfl rfl ?_; refine go T_ok 200 rfl ?_))
        refine draw2 mixed (fun w' => Chg No w w') [0,1,2,4,7,8,9] 3 5 [(5,false),(6,false),(10,false),(11,true)] [(3,false),(6,false),(10,false),(11,true)] rfl rfl rfl (by kernel_rfl) (Chg.drew _) ?_
        refine goH T_ok 200 rfl ?_
        refine quietH rfl (fun w' hS => r_slcHi T_ok rfl rfl rfl rfl j rfl (by omega)) ?_
        refine goH T_ok 200 rfl ?_
        refine quietH rfl (fun w' hS => r_slcLo T_ok rfl rfl rfl rfl j rfl (by omega)) ?_
        refine goH T_ok 200 rfl ?_
        have hdr : w.drew.heap.size = w.heap.size := rfl
        refine endH (round ⟨rfl, ?_, ?_⟩)
        · have St := (hS.no (Chg.drew w)).take j (by omega)
          rw [Nat.mul_one, iL_take] at St
          refine appSE (B := w.heap.size) T_ok rfl rfl rfl rfl rfl own_nil St (iL_ones _) (by unfold maxLen; omega) (by omega) (Nat.le_refl _) ?_
          intro A1 c1 w1 o1 p1 _
          have q1 : Chg No w w1 := (Chg.drew w).step p1 (fun k hk e => by simp [Value.ownBlock] at e)
          refine ⟨q1, ?_⟩
          refine goH T_ok 200 rfl ?_
          refine rowE T_ok rfl rfl rfl rfl rfl rfl (cs := [I n]) rfl ?_
          intro g2 w2 hg2 hs2 p2 B2
          have q2 := q1.trans p2
          refine ⟨q2, ?_⟩
          have o1 := own_no o1 p2
          refine goH T_ok 200 rfl ?_
          have hs2 := q2.size
          refine appSE T_ok rfl rfl rfl rfl rfl o1 (B2.sl (sz := 1) (m := 1) rfl) rfl (by unfold maxLen; omega) (by omega) (by omega) ?_
          intro A3 c3 w3 o3 p3 _
          have q3 : Chg No w w3 := q2.step p3 (fun k hk e => by have := own_ge o1 e; omega)
          refine ⟨q3, ?_⟩
          refine goH T_ok 200 rfl ?_
          have Sd := (hS.no q3).drop j (by omega) hc rfl
          rw [show (iL l).drop (j * 1) = iL (l.drop j) by rw [Nat.mul_one, iL_drop]] at Sd
          refine appSE T_ok rfl rfl rfl rfl rfl o3 Sd (iL_ones _) (by unfold maxLen; omega) (by omega) (by have := q3.size; omega) ?_
          intro A4 c4 w4 o4 p4 _
          have q4 : Chg No w w4 := q3.step p4 (fun k hk e => by have := own_ge o3 e; omega)
          refine ⟨q4, ?_⟩
          refine goH T_ok 200 rfl ?_
          refine endH ?_
          refine go T_ok 200 rfl ?_
          have hlen : (put l n).length = 0 + j + 1 + (l.length - j) := by rw [hps]; simp; omega
          have hv : iL (put l n) = [] ++ iL (l.take j) ++ [I n] ++ iL (l.drop j) := by rw [hps]; simp [iL]
          rw [← hlen, ← hv] at o4
          rw [← hlen]
          exact ret (ret1 (v := .slice _ _ _) Try.results92 rfl ⟨A4, c4, rfl, own_cap o4, own_sl o4, q4⟩)
        · refine rowE T_ok rfl rfl rfl rfl rfl rfl (cs := [I n]) rfl ?_
          intro g2 w1 hg2 hs2 p2 B2
          have q1 := (Chg.drew w).trans p2
          refine ⟨q1, ?_⟩
          refine goH T_ok 200 rfl ?_
          have St := (hS.no q1).take j (by omega)
          rw [Nat.mul_one, iL_take] at St
          refine appSE (B := w.heap.size) T_ok rfl rfl rfl rfl rfl own_nil St (iL_ones _) (by unfold maxLen; omega) (by omega) (by omega) ?_
          intro A1 c1 w2 o1 p1 _
          have q2 : Chg No w w2 := q1.step p1 (fun k hk e => by simp [Value.ownBlock] at e)
          refine ⟨q2, ?_⟩
          have B2 := B2.keep p1 (fun e => by simp [Value.ownBlock] at e)
          refine goH T_ok 200 rfl ?_
          have hs2 := q2.size
          refine appSE T_ok rfl rfl rfl rfl rfl o1 (B2.sl (sz := 1) (m := 1) rfl) rfl (by unfold maxLen; omega) (by omega) (by omega) ?_
          intro A3 c3 w3 o3 p3 _
          have q3 : Chg No w w3 := q2.step p3 (fun k hk e => by have := own_ge o1 e; omega)
          refine ⟨q3, ?_⟩
          refine goH T_ok 200 rfl ?_
          have Sd := (hS.no q3).drop j (by omega) hc rfl
          rw [show (iL l).drop (j * 1) = iL (l.drop j) by rw [Nat.mul_one, iL_drop]] at Sd
          refine appSE T_ok rfl rfl rfl rfl rfl o3 Sd (iL_ones _) (by unfold maxLen; omega) (by omega) (by have := q3.size; omega) ?_
          intro A4 c4 w4 o4 p4 _
          have q4 : Chg No w w4 := q3.step p4 (fun k hk e => by have := own_ge o3 e; omega)
          refine ⟨q4, ?_⟩
          refine goH T_ok 200 rfl ?_
          refine endH ?_
          refine go T_ok 200 rfl ?_
          have hlen : (put l n).length = 0 + j + 1 + (l.length - j) := by rw [hps]; simp; omega
          have hv : iL (put l n) = [] ++ iL (l.take j) ++ [I n] ++ iL (l.drop j) := by rw [hps]; simp [iL]
          rw [← hlen, ← hv] at o4
          rw [← hlen]
          exact ret (ret1 (v := .slice _ _ _) Try.results92 rfl ⟨A4, c4, rfl, own_cap o4, own_sl o4, q4⟩)
  · have hjl : j = l.length := by omega
    have hps := put_split n l
    have hjp : j = putAt n l := by omega
    rw [← hjp, if_neg (by rw [List.getElem?_eq_none (by omega)]; simp)] at hps
    refine go T_ok 200 rfl ?_
    refine guardD rfl rfl rfl (fun h1 => absurd h1 hlt) (fun h1 => ?_)
    refine go T_ok 200 rfl ?_
    repeat (first | (refine guardA (b := true) rfl rfl rfl rfl (fun _ => ?_) (fun e => by cases e); refine go T_ok 200 rfl ?_) | (refine guardA (b := false) rfl rfl rfl rfl (fun e => by cases e) (fun _ => ?_); refine go T_ok 200 rfl ?_) | (refine condT rfl rfl ?_; refine go T_ok 200 rfl ?_) | (refine condF rfl rfl ?_; refine go T_ok 200 rfl ?_))
    refine draw2 mixed (fun w' => Chg No w w') [0,1,2,4,7,8,9] 3 5 [(5,false),(6,false),(10,false),(11,true)] [(3,false),(6,false),(10,false),(11,true)] rfl rfl rfl (by kernel_rfl) (Chg.drew _) ?_
    refine goH T_ok 200 rfl ?_
    refine quietH rfl (fun w' hS => r_slcHi T_ok rfl rfl rfl rfl j rfl (by omega)) ?_
    refine goH T_ok 200 rfl ?_
    refine quietH rfl (fun w' hS => r_slcLo T_ok rfl rfl rfl rfl j rfl (by omega)) ?_
    refine goH T_ok 200 rfl ?_
    have hdr : w.drew.heap.size = w.heap.size := rfl
    refine endH (round ⟨rfl, ?_, ?_⟩)
    · have St := (hS.no (Chg.drew w)).take j (by omega)
      rw [Nat.mul_one, iL_take] at St
      refine appSE (B := w.heap.size) T_ok rfl rfl rfl rfl rfl own_nil St (iL_ones _) (by unfold maxLen; omega) (by omega) (Nat.le_refl _) ?_
      intro A1 c1 w1 o1 p1 _
      have q1 : Chg No w w1 := (Chg.drew w).step p1 (fun k hk e => by simp [Value.ownBlock] at e)
      refine ⟨q1, ?_⟩
      refine goH T_ok 200 rfl ?_
      refine rowE T_ok rfl rfl rfl rfl rfl rfl (cs := [I n]) rfl ?_
      intro g2 w2 hg2 hs2 p2 B2
      have q2 := q1.trans p2
      refine ⟨q2, ?_⟩
      have o1 := own_no o1 p2
      refine goH T_ok 200 rfl ?_
      have hs2 := q2.size
      refine appSE T_ok rfl rfl rfl rfl rfl o1 (B2.sl (sz := 1) (m := 1) rfl) rfl (by unfold maxLen; omega) (by omega) (by omega) ?_
      intro A3 c3 w3 o3 p3 _
      have q3 : Chg No w w3 := q2.step p3 (fun k hk e => by have := own_ge o1 e; omega)
      refine ⟨q3, ?_⟩
      refine goH T_ok 200 rfl ?_
      have Sd := (hS.no q3).drop j (by omega) hc rfl
      rw [show (iL l).drop (j * 1) = iL (l.drop j) by rw [Nat.mul_one, iL_drop]] at Sd
      refine appSE T_ok rfl rfl rfl rfl rfl o3 Sd (iL_ones _) (by unfold maxLen; omega) (by omega) (by have := q3.size; omega) ?_
      intro A4 c4 w4 o4 p4 _
      have q4 : Chg No w w4 := q3.step p4 (fun k hk e => by have := own_ge o3 e; omega)
      refine ⟨q4, ?_⟩
      refine goH T_ok 200 rfl ?_
      refine endH ?_
      refine go T_ok 200 rfl ?_
      have hlen : (put l n).length = 0 + j + 1 + (l.length - j) := by rw [hps]; simp; omega
      have hv : iL (put l n) = [] ++ iL (l.take j) ++ [I n] ++ iL (l.drop j) := by rw [hps]; simp [iL]
      rw [← hlen, ← hv] at o4
      rw [← hlen]
      exact ret (ret1 (v := .slice _ _ _) Try.results92 rfl ⟨A4, c4, rfl, own_cap o4, own_sl o4, q4⟩)
    · refine rowE T_ok rfl rfl rfl rfl rfl rfl (cs := [I n]) rfl ?_
      intro g2 w1 hg2 hs2 p2 B2
      have q1 := (Chg.drew w).trans p2
      refine ⟨q1, ?_⟩
      refine goH T_ok 200 rfl ?_
      have St := (hS.no q1).take j (by omega)
      rw [Nat.mul_one, iL_take] at St
      refine appSE (B := w.heap.size) T_ok rfl rfl rfl rfl rfl own_nil St (iL_ones _) (by unfold maxLen; omega) (by omega) (by omega) ?_
      intro A1 c1 w2 o1 p1 _
      have q2 : Chg No w w2 := q1.step p1 (fun k hk e => by simp [Value.ownBlock] at e)
      refine ⟨q2, ?_⟩
      have B2 := B2.keep p1 (fun e => by simp [Value.ownBlock] at e)
      refine goH T_ok 200 rfl ?_
      have hs2 := q2.size
      refine appSE T_ok rfl rfl rfl rfl rfl o1 (B2.sl (sz := 1) (m := 1) rfl) rfl (by unfold maxLen; omega) (by omega) (by omega) ?_
      intro A3 c3 w3 o3 p3 _
      have q3 : Chg No w w3 := q2.step p3 (fun k hk e => by have := own_ge o1 e; omega)
      refine ⟨q3, ?_⟩
      refine goH T_ok 200 rfl ?_
      have Sd := (hS.no q3).drop j (by omega) hc rfl
      rw [show (iL l).drop (j * 1) = iL (l.drop j) by rw [Nat.mul_one, iL_drop]] at Sd
      refine appSE T_ok rfl rfl rfl rfl rfl o3 Sd (iL_ones _) (by unfold maxLen; omega) (by omega) (by have := q3.size; omega) ?_
      intro A4 c4 w4 o4 p4 _
      have q4 : Chg No w w4 := q3.step p4 (fun k hk e => by have := own_ge o3 e; omega)
      refine ⟨q4, ?_⟩
      refine goH T_ok 200 rfl ?_
      refine endH ?_
      refine go T_ok 200 rfl ?_
      have hlen : (put l n).length = 0 + j + 1 + (l.length - j) := by rw [hps]; simp; omega
      have hv : iL (put l n) = [] ++ iL (l.take j) ++ [I n] ++ iL (l.drop j) := by rw [hps]; simp [iL]
      rw [← hlen, ← hv] at o4
      rw [← hlen]
      exact ret (ret1 (v := .slice _ _ _) Try.results92 rfl ⟨A4, c4, rfl, own_cap o4, own_sl o4, q4⟩)

def crF (l : List Int) (t b d sz : Int) (j : Nat) : List Int := (List.range j).foldl (fun l k => if 0 < cr t sz b d k then put l (cr t sz b d k) else l) l
theorem crF_succ (l : List Int) (t b d sz : Int) (j : Nat) : crF l t b d sz (j + 1) = if 0 < cr t sz b d j then put (crF l t b d sz j) (cr t sz b d j) else crF l t b d sz j := by
  unfold crF
  rw [List.range_succ, List.foldl_append]
  rfl
theorem crF_len (l : List Int) (t b d sz : Int) (j : Nat) : (crF l t b d sz j).length ≤ l.length + j := by
  induction j with
  | zero => simp [crF]
  | succ j ih =>
    rw [crF_succ]
    split
    · have := put_len (crF l t b d sz j) (cr t sz b d j); omega
    · omega
def crG (l : List Int) (t b d sz : Int) (j : Nat) : List Int := if d = 0 then l else crF l t b d sz j
theorem crG_zero (l : List Int) (t b d sz : Int) : crG l t b d sz 0 = l := by unfold crG; split <;> rfl
set_option maxHeartbeats 4000000 in
theorem rcross_any (l : List Int) (t b d sz : Int) (m : Nat) (A : Option Addr) (c B : Nat) (w : World) (hL : l.length ≤ 100) (hc : l.length ≤ c) (hS : Sl w B 1 A l.length (iL l))
    (ht : 0 < t) (ht' : t ≤ 216000) (hd : d ≠ 0 → d ∣ t) (hs : 0 ≤ sz) (hs' : sz ≤ 1000) (hb : -100000 ≤ b) (hb' : b ≤ 100000) (hm : m ≤ 12) :
    Ret Try.prog 83 [.slice A l.length c, .int .i64 t, .int .i64 b, .int .i64 d, .int .i64 (m : Int), .int .i64 sz] w fun x w' => ∃ A' c', x = .slice A' (crR l t b d m sz).length c' ∧ (crR l t b d m sz).length ≤ c' ∧ Sl w' w'.heap.size 1 A' (crR l t b d m sz).length (iL (crR l t b d m sz)) ∧ Chg No w w' := by
  refine enter Try.func83 rfl Try.ntmps83 rfl ?_
  refine go T_ok 200 rfl ?_
  refine loop [0, 1, 2, 3, 4, 5, 13] (fun x : Nat × List Int × Option Addr × Nat => [.slice x.2.2.1 x.2.1.length x.2.2.2, .int .i64 t, .int .i64 b, .int .i64 d, .int .i64 (m : Int), .int .i64 sz, .int .i64 (x.1 : Int)])
    (fun x w' => x.1 ≤ m + 1 ∧ x.2.1 = crG l t b d sz x.1 ∧ Chg No w w' ∧ x.2.1.length ≤ x.2.2.2 ∧ Sl w' w'.heap.size 1 x.2.2.1 x.2.1.length (iL x.2.1)) (fun x => m + 1 - x.1) (0, l, A, c) (fun _ => rfl)
    rfl ⟨by show 0 ≤ _; omega, (crG_zero l t b d sz).symm, Chg.refl _ _, hc, hS.more hS.2.1 (Nat.le_refl _)⟩ ?_
  rintro ⟨j, L, A1, c1⟩ τ w1 ⟨hj, hL1, q1, hc1, S1⟩
  simp only at hj hL1 hc1 S1
  by_cases hd0 : d = 0
  · have hR : crR l t b d m sz = L := by unfold crR; rw [if_pos hd0, hL1]; unfold crG; rw [if_pos hd0]
    rw [hR]
    refine go T_ok 200 rfl ?_
    refine guardD rfl rfl rfl (fun hlt => ?_) (fun hlt => ?_)
    · refine go T_ok 200 rfl ?_
      refine condF rfl (by simp [hd0]) ?_
      refine go T_ok 200 rfl ?_
      exact ret (ret1 (v := .slice _ _ _) Try.results83 rfl ⟨A1, c1, rfl, hc1, S1, q1⟩)
    · refine go T_ok 200 rfl ?_
      repeat (first | (refine guardA (b := true) rfl rfl rfl rfl (fun _ => ?_) (fun e => by cases e); refine go T_ok 200 rfl ?_) | (refine guardA (b := false) rfl rfl rfl rfl (fun e => by cases e) (fun _ => ?_); refine go T_ok 200 rfl ?_) | (refine condT rfl rfl ?_; refine go T_ok 200 rfl ?_) | (refine condF rfl rfl ?_; refine go T_ok 200 rfl ?_))
      exact ret (ret1 (v := .slice _ _ _) Try.results83 rfl ⟨A1, c1, rfl, hc1, S1, q1⟩)
  · have hlen := crF_len l t b d sz j
    have hLF : L = crF l t b d sz j := by rw [hL1]; unfold crG; rw [if_neg hd0]
    rw [← hLF] at hlen
    refine go T_ok 200 rfl ?_
    refine guardD rfl rfl rfl (fun hlt => ?_) (fun hlt => ?_)
    · have hlt : j ≤ m := by omega
      have m1 := mul_bd (a := (j : Int)) (b := sz) (A := 12) (B := 1000) (by omega) hs (by omega) hs'
      have e1 : w64 ((j : Int) * sz) = (j : Int) * sz := w64_id (by omega) (by omega)
      have e2 : w64 ((j : Int) * sz - b) = (j : Int) * sz - b := w64_id (by omega) (by omega)
      have e3 : (t.tdiv d) = t / d := Int.tdiv_eq_ediv_of_dvd (hd hd0)
      have e4 : w64 (t / d) = t / d := w64_id (by have := natAbs_ediv_le (d := d) ht; omega) (by have := natAbs_ediv_le (d := d) ht; omega)
      have hcb := cr_bd ht ht' (d := d) hs hs' hb hb' hlt hm
      have e5 : w64 (((j : Int) * sz - b) * (t / d)) = cr t sz b d j := w64_id (by have : cr t sz b d j = ((j : Int) * sz - b) * (t / d) := rfl; omega) (by have : cr t sz b d j = ((j : Int) * sz - b) * (t / d) := rfl; omega)
      have e6 : w64 ((j : Int) + 1) = ((j + 1 : Nat) : Int) := w64_id (by omega) (by omega)
      have hstep := crF_succ l t b d sz j
      have hG : crG l t b d sz (j + 1) = crF l t b d sz (j + 1) := by unfold crG; rw [if_neg hd0]
      rw [← hLF, ← hG] at hstep
      refine go T_ok 200 rfl ?_
      refine condT rfl (by simp [hd0]) ?_
      refine go T_ok 200 rfl ?_
      rw [e1, e2]
      refine quo rfl rfl rfl rfl hd0 ?_
      rw [e3, e4]
      refine go T_ok 200 rfl ?_
      rw [e5]
      refine condD rfl (fun h0 => ?_) (fun h0 => ?_)
      · rw [if_pos h0] at hstep
        refine go T_ok 200 rfl ?_
        refine call rfl rfl rfl (ok _ (by decide) rfl) (put_any L _ A1 c1 _ w1 (by omega) hc1 S1) ?_
        rintro x w2 ⟨A2, c2, rfl, hc2, S2, q2⟩
        refine go T_ok 200 rfl ?_
        rw [e6]
        exact round ⟨(j + 1, put L (cr t sz b d j), A2, c2), rfl, ⟨by show j + 1 ≤ _; omega, hstep.symm, q1.trans q2, hc2, S2⟩, by show m + 1 - (j + 1) < m + 1 - j; omega⟩
      · rw [if_neg h0] at hstep
        refine go T_ok 200 rfl ?_
        rw [e6]
        exact round ⟨(j + 1, L, A1, c1), rfl, ⟨by show j + 1 ≤ _; omega, hstep.symm, q1, hc1, S1⟩, by show m + 1 - (j + 1) < m + 1 - j; omega⟩
    · have hjm : j = m + 1 := by omega
      subst hjm
      have hR : crR l t b d m sz = L := by rw [hLF]; unfold crR; rw [if_neg hd0]; rfl
      rw [hR]
      refine go T_ok 200 rfl ?_
      repeat (first | (refine guardA (b := true) rfl rfl rfl rfl (fun _ => ?_) (fun e => by cases e); refine go T_ok 200 rfl ?_) | (refine guardA (b := false) rfl rfl rfl rfl (fun e => by cases e) (fun _ => ?_); refine go T_ok 200 rfl ?_) | (refine condT rfl rfl ?_; refine go T_ok 200 rfl ?_) | (refine condF rfl rfl ?_; refine go T_ok 200 rfl ?_))
      exact ret (ret1 (v := .slice _ _ _) Try.results83 rfl ⟨A1, c1, rfl, hc1, S1, q1⟩)
theorem rcell_any (t sz b d a c : Int) (m : Nat) (w : World) (ht : 0 < t) (ht' : t ≤ 216000) (hs : 1 ≤ sz) (hs' : sz ≤ 1000) (hb : -100000 ≤ b) (hb' : b ≤ 100000) (hd : -60 ≤ d) (hd' : d ≤ 60) (hm : m ≤ 12) (ha : 0 ≤ a) (ha' : a ≤ 24192000000) (hc : 0 ≤ c) (hc' : c ≤ 24192000000) :
    Ret Try.prog 84 [.int .i64 t, .int .i64 b, .int .i64 d, .int .i64 (m : Int), .int .i64 sz, .int .i64 a, .int .i64 c] w fun x w' => x = .int .i64 (celA t sz b d m a c) ∧ w = w' := by
  have n0 : (2 * t * b).natAbs ≤ 432000 * 100000 := by
    rw [Int.natAbs_mul]
    exact Nat.mul_le_mul (by omega) (by omega)
  have n1 : (d * (a + c)).natAbs ≤ 60 * 48384000000 := by
    rw [Int.natAbs_mul]
    exact Nat.mul_le_mul (by omega) (by omega)
  have m1 := mul_bd (a := 2 * t) (b := sz) (by omega) (by omega) (by omega : 2 * t ≤ 432000) hs'
  have m2 := mul_bd (a := 2 * t * sz) (b := (m : Int)) (B := 12) m1.1 (by omega) m1.2 (by omega)
  have e1 : w64 (2 * t) = 2 * t := w64_id (by omega) (by omega)
  have e2 : w64 (2 * t * b) = 2 * t * b := w64_id (by omega) (by omega)
  have e3 : w64 (a + c) = a + c := w64_id (by omega) (by omega)
  have e4 : w64 (d * (a + c)) = d * (a + c) := w64_id (by omega) (by omega)
  have e5 : w64 (2 * t * b + d * (a + c)) = 2 * t * b + d * (a + c) := w64_id (by omega) (by omega)
  have e6 : w64 (2 * t * sz) = 2 * t * sz := w64_id (by omega) (by omega)
  have e7 : w64 (2 * t * sz * (m : Int)) = 2 * t * sz * (m : Int) := w64_id (by omega) (by omega)
  have h0 : 0 < 2 * t * sz := Int.mul_pos (by omega) (by omega)
  refine enter Try.func84 rfl Try.ntmps84 rfl ?_
  refine go T_ok 200 rfl ?_
  rw [e1, e2, e3, e4, e5]
  have hcel : celA t sz b d m a c = if 2 * t * b + d * (a + c) < 0 ∨ 2 * t * sz * m ≤ 2 * t * b + d * (a + c) then -1 else (2 * t * b + d * (a + c)) / (2 * t * sz) := rfl
  generalize 2 * t * b + d * (a + c) = p at hcel e5
  refine guardD rfl rfl rfl (fun h1 => ?_) (fun h1 => ?_)
  · rw [if_pos (.inl h1)] at hcel
    refine go T_ok 200 rfl ?_
    repeat (first | (refine guardA (b := true) rfl rfl rfl rfl (fun _ => ?_) (fun e => by cases e); refine go T_ok 200 rfl ?_) | (refine guardA (b := false) rfl rfl rfl rfl (fun e => by cases e) (fun _ => ?_); refine go T_ok 200 rfl ?_) | (refine condT rfl rfl ?_; refine go T_ok 200 rfl ?_) | (refine condF rfl rfl ?_; refine go T_ok 200 rfl ?_))
    exact ret (ret1 (v := .int .i64 (-1)) Try.results84 rfl ⟨congrArg I hcel.symm, rfl⟩)
  · refine go T_ok 200 rfl ?_
    rw [e1, e6, e7]
    refine condD rfl (fun h2 => ?_) (fun h2 => ?_)
    · rw [if_pos (.inr h2)] at hcel
      refine go T_ok 200 rfl ?_
      exact ret (ret1 (v := .int .i64 (-1)) Try.results84 rfl ⟨congrArg I hcel.symm, rfl⟩)
    · rw [if_neg (by omega)] at hcel
      refine go T_ok 200 rfl ?_
      rw [e1, e6]
      refine quoN rfl rfl rfl rfl (by omega) (by omega) h0 ?_
      refine go T_ok 200 rfl ?_
      exact ret (ret1 (v := .int .i64 _) Try.results84 rfl ⟨congrArg I hcel.symm, rfl⟩)
end Go.Proofs.Ytkkjfjeniaiaiaa
