/- The contracts of orders of stops; what an order is. -/
import Derived.Test.YteenhfnamjbaiaaR2
namespace Go.Proofs.Yteenhfnamjbaiaa
open Go.Ev Go.Proofs
open Go.Camp (Cl wayT stopT TrOk begT okT leaveT endT begs)
attribute [local irreducible] At AtH
/-- an order of n stops -/
structure OrdOk (n : Nat) (l : List Int) : Prop where
 len : l.length = n
 nd : l.Nodup
 lt : ∀ x ∈ l, 0 ≤ x ∧ x < n
theorem covI : ∀ (n : Nat) (l : List Int), (∀ c : Nat, c < n → (c : Int) ∈ l) → n ≤ l.length := by
 intro n l h
 have := Go.Camp.cover_len n (l.map Int.toNat) (fun c hc => List.mem_map.2 ⟨(c : Int), h c hc, by simp⟩)
 rwa [List.length_map] at this
theorem nd_of : ∀ l : List Int, (∀ x ∈ l, x ∉ l.erase x) → l.Nodup := by
 intro l
 induction l with
 | nil => intro _; exact List.nodup_nil
 | cons a l ih =>
  intro h
  have ha : a ∉ l := by have := h a (by simp); rwa [List.erase_cons_head] at this
  refine List.nodup_cons.2 ⟨ha, ih fun x hx hx2 => ?_⟩
  have hne : x ≠ a := fun e => ha (e ▸ hx)
  have := h x (by simp [hx])
  rw [List.erase_cons_tail (by simpa using fun e => hne e.symm)] at this
  exact this (List.mem_cons_of_mem _ hx2)
/-- an order holds every stop -/
theorem ord_iff {n : Nat} {l : List Int} : OrdOk n l ↔ l.length = n ∧ ∀ c : Nat, c < n → (c : Int) ∈ l := by
 constructor
 ·intro h
  refine ⟨h.len, fun c hc => ?_⟩
  by_cases hm : (c : Int) ∈ l
  ·exact hm
  ·exfalso
   have hl : (l.map fun x => if x < (c : Int) then x.toNat else x.toNat - 1).length ≤ n - 1 := by
    refine Go.Camp.nodup_len (n - 1) _ ?_ fun x hx => ?_
    ·rw [List.Nodup, List.pairwise_map]
     refine (List.Pairwise.imp_of_mem (fun {a b} ha hb hne he => hne ?_) h.nd)
     have h1 := h.lt a ha
     have h2 := h.lt b hb
     have h3 : a ≠ c := fun e => hm (e ▸ ha)
     have h4 : b ≠ c := fun e => hm (e ▸ hb)
     split at he <;> split at he <;> omega
    ·obtain ⟨y, hy, rfl⟩ := List.mem_map.1 hx
     have h1 := h.lt y hy
     have h3 : y ≠ c := fun e => hm (e ▸ hy)
     split <;> omega
   rw [List.length_map, h.len] at hl
   omega
 ·rintro ⟨h1, h2⟩
  have her : ∀ x ∈ l, ¬ (∀ c : Nat, c < n → (c : Int) ∈ l.erase x) := fun x hx h => by
   have := covI n _ h
   rw [List.length_erase_of_mem hx] at this
   have := List.length_pos_of_mem hx
   omega
  refine ⟨h1, nd_of l fun x hx hx2 => her x hx fun c hc => ?_, fun x hx => ?_⟩
  ·by_cases hcx : (c : Int) = x
   ·rw [hcx]; exact hx2
   ·exact (List.mem_erase_of_ne hcx).2 (h2 c hc)
  ·by_cases hr : 0 ≤ x ∧ x < n
   ·exact hr
   ·exact absurd (fun c hc => (List.mem_erase_of_ne (fun e => hr (by omega))).2 (h2 c hc)) (her x hx)
set_option maxRecDepth 20000 in
set_option maxHeartbeats 4000000 in
theorem Index_any (l : List Int) (x : Int) (A : Option Addr) (c B : Nat) (w0 : World) (S : Sl w0 B 1 A l.length (iL l)) (hl : l.length ≤ 1000000) : Ret Try.prog 135 [.slice A l.length c, I x] w0 fun v w' => (∃ r, v = I r ∧ (0 ≤ r ↔ x ∈ l)) ∧ w0 = w' := by
 refine enter Try.func135 rfl Try.ntmps135 rfl ?_
 refine go TK_ok 200 rfl ?_
 refine loop [0, 1, 7, 8] (fun i : Nat => [.slice A l.length c, I x, .int .i64 (l.length : Int), .int .i64 (i : Int)]) (fun i w' => i ≤ l.length ∧ w' = w0 ∧ ∀ k, k < i → l[k]? ≠ some x) (fun i => l.length - i) 0 (fun _ => rfl) rfl ⟨by omega, rfl, fun k h => absurd h (Nat.not_lt_zero _)⟩ ?_
 rintro i τ w ⟨hi, rfl, hn⟩
 refine go TK_ok 200 rfl ?_
 refine condD rfl (fun hlt => ?_) (fun hlt => ?_)
 ·have hlt : i < l.length := by omega
  obtain ⟨y, hy⟩ := getA_of hlt
  obtain ⟨b1, o1, hA1, hb1, hc1⟩ := S.elI hy
  rw [hA1]
  refine go TK_ok 200 rfl ?_
  refine idx TK_ok rfl rfl rfl rfl rfl i rfl hlt ?_
  refine go TK_ok 200 rfl ?_
  refine ld TK_ok rfl rfl rfl rfl (hc1) ?_
  refine go TK_ok 200 rfl ?_
  rw [← hA1]
  by_cases hxy : x = y
  ·rw [show (x == y) = true by simp [hxy]]
   refine go TK_ok 200 rfl ?_
   repeat (first | (refine gT rfl rfl rfl rfl ?_; refine go TK_ok 200 rfl ?_) | (refine gF rfl rfl rfl rfl ?_; refine go TK_ok 200 rfl ?_) | (refine condT rfl rfl ?_; refine go TK_ok 200 rfl ?_) | (refine condF rfl rfl ?_; refine go TK_ok 200 rfl ?_))
   exact ret (ret1 (v := I (i : Int)) Try.results135 rfl ⟨⟨(i : Int), rfl, ⟨fun _ => by rw [hxy]; exact List.mem_of_getElem? hy, fun _ => by omega⟩⟩, rfl⟩)
  ·rw [show (x == y) = false by simp [hxy]]
   refine go TK_ok 200 rfl ?_
   repeat (first | (refine gT rfl rfl rfl rfl ?_; refine go TK_ok 200 rfl ?_) | (refine gF rfl rfl rfl rfl ?_; refine go TK_ok 200 rfl ?_) | (refine condT rfl rfl ?_; refine go TK_ok 200 rfl ?_) | (refine condF rfl rfl ?_; refine go TK_ok 200 rfl ?_))
   rw [w64_id (x := (i : Int) + 1) (by omega) (by omega)]
   refine round ⟨i + 1, rfl, ⟨by omega, rfl, fun k hk => ?_⟩, by omega⟩
   rcases Nat.lt_or_ge k i with h' | h'
   ·exact hn k h'
   ·obtain rfl : k = i := by omega
    rw [hy]
    exact fun e => hxy (by injection e with e; exact e.symm)
 ·obtain rfl : i = l.length := by omega
  refine go TK_ok 200 rfl ?_
  refine ret (ret1 (v := I (-1)) Try.results135 rfl ⟨⟨-1, rfl, ⟨fun h => by omega, fun h => ?_⟩⟩, rfl⟩)
  obtain ⟨k, hk⟩ := List.getElem?_of_mem h
  exact absurd hk (hn k (List.getElem?_eq_some_iff.1 hk).1)
theorem Contains_any (l : List Int) (x : Int) (A : Option Addr) (c B : Nat) (w0 : World) (S : Sl w0 B 1 A l.length (iL l)) (hl : l.length ≤ 1000000) : Ret Try.prog 126 [.slice A l.length c, I x] w0 fun v w' => v = .bool (decide (x ∈ l)) ∧ w0 = w' := by
 refine enter Try.func126 rfl Try.ntmps126 rfl ?_
 refine go TK_ok 200 rfl ?_
 refine call rfl rfl rfl (ok _ (by decide) rfl) (Index_any l x A c B _ S hl) ?_
 rintro v w ⟨⟨r, rfl, hr⟩, rfl⟩
 refine go TK_ok 200 rfl ?_
 refine ret (ret1 (v := .bool _) Try.results126 rfl ⟨?_, rfl⟩)
 congr 1
 by_cases h : x ∈ l
 ·rw [decide_eq_true (hr.2 h), decide_eq_true h]
 ·rw [decide_eq_false (fun h' => h (hr.1 h')), decide_eq_false h]
set_option maxRecDepth 20000 in
set_option maxHeartbeats 4000000 in
theorem ordered_any (m : Tm) (l : List Int) (A : Option Addr) (c B2 : Nat) (w0 : World) (S : Sl w0 B2 1 A l.length (iL l)) (hn : m.S.l.length ≤ 1000) : Ret Try.prog 100 [.agg (tmL m).toArray, .slice A l.length c] w0 fun v w' => (∃ b, v = .bool b ∧ (b = true ↔ OrdOk m.S.l.length l)) ∧ Chg No w0 w' := by
 refine enter Try.func100 rfl Try.ntmps100 rfl ?_
 refine go TK_ok 200 rfl ?_
 refine bx rfl rfl rfl (cs := tmL m) rfl ?_
 intro g2 u2 hg2 hs2 q2 B2
 have q := q2
 refine go TK_ok 200 rfl ?_
 repeat ((first | refine ldA TK_ok rfl rfl rfl rfl rfl (Bk.all B2) ?_ | refine ld TK_ok rfl rfl rfl rfl (Bk.get B2 rfl) ?_ | refine gT rfl rfl rfl rfl ?_ | refine gF rfl rfl rfl rfl ?_ | refine condT rfl rfl ?_ | refine condF rfl rfl ?_); refine go TK_ok 200 rfl ?_)
 by_cases hL : l.length = m.S.l.length
 case neg =>
  have e : ((l.length : Int) != (m.S.l.length : Int)) = true := bne_iff_ne.2 (by omega)
  rw [e]
  refine go TK_ok 200 rfl ?_
  repeat ((first | refine ldA TK_ok rfl rfl rfl rfl rfl (Bk.all B2) ?_ | refine ld TK_ok rfl rfl rfl rfl (Bk.get B2 rfl) ?_ | refine gT rfl rfl rfl rfl ?_ | refine gF rfl rfl rfl rfl ?_ | refine condT rfl rfl ?_ | refine condF rfl rfl ?_); refine go TK_ok 200 rfl ?_)
  exact ret (ret1 (v := .bool false) Try.results100 rfl ⟨⟨false, rfl, by simp; exact fun h => hL h.len⟩, q⟩)
 have e : ((l.length : Int) != (m.S.l.length : Int)) = false := bne_eq_false_iff_eq.2 (by omega)
 rw [e]
 refine go TK_ok 200 rfl ?_
 repeat ((first | refine ldA TK_ok rfl rfl rfl rfl rfl (Bk.all B2) ?_ | refine ld TK_ok rfl rfl rfl rfl (Bk.get B2 rfl) ?_ | refine gT rfl rfl rfl rfl ?_ | refine gF rfl rfl rfl rfl ?_ | refine condT rfl rfl ?_ | refine condF rfl rfl ?_); refine go TK_ok 200 rfl ?_)
 refine loop [1, 14, 15] (fun j : Nat => [.slice A l.length c, .int .i64 (m.S.l.length : Int), .int .i64 (j : Int)]) (fun j w' => j ≤ m.S.l.length ∧ Chg No w0 w' ∧ ∀ i : Nat, i < j → (i : Int) ∈ l) (fun j => m.S.l.length - j) 0 (fun _ => rfl) rfl ⟨Nat.zero_le _, q, fun i h => absurd h (Nat.not_lt_zero _)⟩ ?_
 rintro j τ w ⟨hj, q, hm⟩
 refine go TK_ok 200 rfl ?_
 refine condD rfl (fun hlt => ?_) (fun hlt => ?_)
 ·have hlt : j < m.S.l.length := by omega
  refine go TK_ok 200 rfl ?_
  refine call rfl rfl rfl (ok _ (by decide) rfl) (Contains_any l (j : Int) A c _ _ (S.no q) (by omega)) ?_
  rintro v w2 ⟨rfl, rfl⟩
  by_cases hjl : (j : Int) ∈ l
  case neg =>
   rw [decide_eq_false hjl]
   refine go TK_ok 200 rfl ?_
   repeat ((first | refine ldA TK_ok rfl rfl rfl rfl rfl (Bk.all B2) ?_ | refine ld TK_ok rfl rfl rfl rfl (Bk.get B2 rfl) ?_ | refine gT rfl rfl rfl rfl ?_ | refine gF rfl rfl rfl rfl ?_ | refine condT rfl rfl ?_ | refine condF rfl rfl ?_); refine go TK_ok 200 rfl ?_)
   exact ret (ret1 (v := .bool false) Try.results100 rfl ⟨⟨false, rfl, by simp; exact fun h => hjl ((ord_iff.1 h).2 j hlt)⟩, q⟩)
  rw [decide_eq_true hjl]
  refine go TK_ok 200 rfl ?_
  repeat ((first | refine ldA TK_ok rfl rfl rfl rfl rfl (Bk.all B2) ?_ | refine ld TK_ok rfl rfl rfl rfl (Bk.get B2 rfl) ?_ | refine gT rfl rfl rfl rfl ?_ | refine gF rfl rfl rfl rfl ?_ | refine condT rfl rfl ?_ | refine condF rfl rfl ?_); refine go TK_ok 200 rfl ?_)
  rw [w64_id (x := (j : Int) + 1) (by omega) (by omega)]
  refine round ⟨j + 1, rfl, ⟨by omega, q, fun i hi => ?_⟩, by omega⟩
  rcases Nat.lt_or_ge i j with h' | h'
  ·exact hm i h'
  ·obtain rfl : i = j := by omega
   exact hjl
 ·obtain rfl : j = m.S.l.length := by omega
  refine go TK_ok 200 rfl ?_
  exact ret (ret1 (v := .bool true) Try.results100 rfl ⟨⟨true, rfl, by simp; exact ord_iff.2 ⟨hL, hm⟩⟩, q⟩)
set_option maxRecDepth 20000 in
set_option maxHeartbeats 4000000 in
theorem rOrder_any (n : Nat) (l : List Int) (A : Option Addr) (c B : Nat) (w0 : World) (S : Sl w0 B 1 A l.length (iL l)) (hn : n ≤ 1000) (hl : l.length ≤ 1000) : Ret Try.prog 60 [I (n : Int), .slice A l.length c] w0 fun v w' => (∃ b, v = .bool b ∧ (b = true ↔ OrdOk n l)) ∧ Chg No w0 w' := by
 refine enter Try.func60 rfl Try.ntmps60 rfl ?_
 refine go TK_ok 200 rfl ?_
 refine mkB TK_ok rfl rfl rfl rfl rfl n rfl (z := .bool false) (by kernel_rfl) (v := .bool false) rfl (by decide) (by unfold maxLen; omega) (by omega) ?_
 intro gm w hgm hsm q Bm
 rw [← metR_nil] at Bm
 have hge : w0.heap.size ≤ gm := by omega
 clear hgm hsm
 refine go TK_ok 200 rfl ?_
 refine loop [0, 1, 5, 6] (fun j : Nat => [I (n : Int), .slice A l.length c, .slice (some ⟨gm, 0, none⟩) n n, .int .i64 (j : Int)]) (fun j w' => j ≤ l.length ∧ Chg No w0 w' ∧ (l.take j).Nodup ∧ (∀ x ∈ l.take j, 0 ≤ x ∧ x < n) ∧ Bk w' gm 4 (metR n ((l.take j).map Int.toNat))) (fun j => l.length - j) 0 (fun _ => rfl) rfl ⟨Nat.zero_le _, q, by simp, by simp, by simpa using Bm⟩ ?_
 rintro j τ w ⟨hj, q, hnd, hrg, Bm⟩
 refine go TK_ok 200 rfl ?_
 refine condD rfl (fun hlt => ?_) (fun hlt => ?_)
 ·have hlt : j < l.length := by omega
  obtain ⟨x, hx⟩ := getA_of hlt
  have hxm := List.mem_of_getElem? hx
  obtain ⟨b1, o1, hA1, hb1, hc1⟩ := (S.no q).elI hx
  have htk : l.take (j + 1) = l.take j ++ [x] := by rw [List.take_add_one, hx]; rfl
  have hz := S.2.1
  refine go TK_ok 200 rfl ?_
  rw [hA1]
  refine idx TK_ok rfl rfl rfl rfl rfl j rfl hlt ?_
  refine go TK_ok 200 rfl ?_
  refine ld TK_ok rfl rfl rfl rfl (hc1) ?_
  refine go TK_ok 200 rfl ?_
  rw [← hA1, w64_id (x := (n : Int) - 1) (by omega) (by omega)]
  refine call rfl rfl rfl (ok _ (by decide) rfl) (rIn_any x 0 ((n : Int) - 1) _) ?_
  rintro v w2 ⟨rfl, rfl⟩
  by_cases h1 : 0 ≤ x ∧ x ≤ (n : Int) - 1
  case neg =>
   rw [decide_eq_false h1]
   refine go TK_ok 200 rfl ?_
   repeat (first | (refine gT rfl rfl rfl rfl ?_; refine go TK_ok 200 rfl ?_) | (refine gF rfl rfl rfl rfl ?_; refine go TK_ok 200 rfl ?_) | (refine condT rfl rfl ?_; refine go TK_ok 200 rfl ?_) | (refine condF rfl rfl ?_; refine go TK_ok 200 rfl ?_))
   exact ret (ret1 (v := .bool false) Try.results60 rfl ⟨⟨false, rfl, by simp; exact fun h => h1 (by have := h.lt x hxm; omega)⟩, q⟩)
  rw [decide_eq_true h1]
  refine go TK_ok 200 rfl ?_
  repeat (first | (refine gT rfl rfl rfl rfl ?_; refine go TK_ok 200 rfl ?_) | (refine gF rfl rfl rfl rfl ?_; refine go TK_ok 200 rfl ?_) | (refine condT rfl rfl ?_; refine go TK_ok 200 rfl ?_) | (refine condF rfl rfl ?_; refine go TK_ok 200 rfl ?_))
  obtain ⟨k, rfl⟩ : ∃ k : Nat, x = (k : Int) := ⟨x.toNat, by omega⟩
  have hk : k < n := by omega
  rw [hA1]
  refine idx TK_ok rfl rfl rfl rfl rfl j rfl hlt ?_
  refine go TK_ok 200 rfl ?_
  refine ld TK_ok rfl rfl rfl rfl (hc1) ?_
  refine go TK_ok 200 rfl ?_
  rw [← hA1]
  refine idx TK_ok rfl rfl rfl rfl rfl k rfl hk ?_
  refine go TK_ok 200 rfl ?_
  have hgm : (metR n ((l.take j).map Int.toNat))[0 + k * 1]? = some (.bool (decide (k ∈ (l.take j).map Int.toNat))) := by rw [show 0 + k * 1 = k by omega]; exact metR_get hk
  refine ld TK_ok rfl rfl rfl rfl (Bm.getE hgm) ?_
  have hmem : k ∈ (l.take j).map Int.toNat ↔ (k : Int) ∈ l.take j := by
   constructor
   ·intro h
    obtain ⟨y, hy, e⟩ := List.mem_map.1 h
    have := hrg y hy
    rwa [show (k : Int) = y by omega]
   ·intro h
    exact List.mem_map.2 ⟨(k : Int), h, by simp⟩
  by_cases h2 : k ∈ (l.take j).map Int.toNat
  case pos =>
   rw [decide_eq_true h2]
   have hnot : ¬ (l.take (j + 1)).Nodup := by
    rw [htk, List.nodup_append]
    exact fun h => h.2.2 (k : Int) (hmem.1 h2) (k : Int) (by simp) rfl
   refine go TK_ok 200 rfl ?_
   repeat (first | (refine gT rfl rfl rfl rfl ?_; refine go TK_ok 200 rfl ?_) | (refine gF rfl rfl rfl rfl ?_; refine go TK_ok 200 rfl ?_) | (refine condT rfl rfl ?_; refine go TK_ok 200 rfl ?_) | (refine condF rfl rfl ?_; refine go TK_ok 200 rfl ?_))
   exact ret (ret1 (v := .bool false) Try.results60 rfl ⟨⟨false, rfl, by simp; exact fun h => hnot (h.nd.sublist (List.take_sublist _ _))⟩, q⟩)
  rw [decide_eq_false h2]
  refine go TK_ok 200 rfl ?_
  repeat (first | (refine gT rfl rfl rfl rfl ?_; refine go TK_ok 200 rfl ?_) | (refine gF rfl rfl rfl rfl ?_; refine go TK_ok 200 rfl ?_) | (refine condT rfl rfl ?_; refine go TK_ok 200 rfl ?_) | (refine condF rfl rfl ?_; refine go TK_ok 200 rfl ?_))
  rw [hA1]
  refine idx TK_ok rfl rfl rfl rfl rfl j rfl hlt ?_
  refine go TK_ok 200 rfl ?_
  refine ld TK_ok rfl rfl rfl rfl (hc1) ?_
  refine go TK_ok 200 rfl ?_
  rw [← hA1]
  refine idx TK_ok rfl rfl rfl rfl rfl k rfl hk ?_
  refine go TK_ok 200 rfl ?_
  refine st TK_ok rfl rfl rfl rfl (v := .bool true) rfl rfl Bm (by rw [lenL_eq, metR_len]; simp; omega) ?_
  intro w3 qk Bm hz3
  have Bm : Bk w3 gm 4 (metR n ((l.take (j + 1)).map Int.toNat)) := by
   rw [htk, List.map_append]
   rw [show 0 + k * 1 = k by omega] at Bm
   have := metR_set (n := n) (l := (l.take j).map Int.toNat) (k := k)
   rw [show [(k : Int)].map Int.toNat = [k] by simp, ← this]
   exact Bm
  have q := q.step qk (fun k hk e => by omega)
  refine go TK_ok 200 rfl ?_
  rw [w64_id (x := (j : Int) + 1) (by omega) (by omega)]
  refine round ⟨j + 1, rfl, ⟨by omega, q, ?_, fun y hy => ?_, Bm⟩, by omega⟩
  ·rw [htk, List.nodup_append]
   exact ⟨hnd, by simp, fun a ha b hb e => by simp at hb; subst hb; subst e; exact h2 (hmem.2 ha)⟩
  ·rw [htk] at hy
   rcases List.mem_append.1 hy with hy | hy
   ·exact hrg y hy
   ·simp at hy; omega
 ·obtain rfl : j = l.length := by omega
  rw [List.take_length] at hnd hrg
  by_cases hL : l.length = n
  ·have e : ((l.length : Int) == (n : Int)) = true := by simp; omega
   refine go TK_ok 200 rfl ?_
   rw [e]
   exact ret (ret1 (v := .bool true) Try.results60 rfl ⟨⟨true, rfl, by simp; exact ⟨hL, hnd, hrg⟩⟩, q⟩)
  ·have e : ((l.length : Int) == (n : Int)) = false := by simp; omega
   refine go TK_ok 200 rfl ?_
   rw [e]
   exact ret (ret1 (v := .bool false) Try.results60 rfl ⟨⟨false, rfl, by simp; exact fun h => hL h.len⟩, q⟩)
end Go.Proofs.Yteenhfnamjbaiaa
