/- The contract of Seen. -/
import Derived.Test.YtkkjfjeniaiaiaaCD
import Derived.Test.YtkkjfjeniaiaiaaE5
namespace Go.Proofs.Ytkkjfjeniaiaiaa
open Go.Ev Go.Proofs Go.Rock
attribute [local irreducible] At AtH
theorem rL_len (r : Ra) : (rL r).length = 6 := rfl
theorem nray_any (r : Ra) (w : World) : Ret Try.prog 86 [.agg (rL r).toArray] w fun x w' => x = .bool (!decide (RaOk r)) ∧ Chg No w w' := by
  refine enter Try.func86 rfl Try.ntmps86 rfl ?_
  refine go T_ok 200 rfl ?_
  refine bx rfl rfl rfl (cs := rL r) rfl ?_
  intro g1 u1 hg1 hs1 q1 B1
  refine go T_ok 200 rfl ?_
  repeat (first | (refine ld T_ok rfl rfl rfl rfl (Bk.get B1 rfl) ?_; refine go T_ok 200 rfl ?_) | (refine guardA (b := true) rfl rfl rfl rfl (fun _ => ?_) (fun e => by cases e); refine go T_ok 200 rfl ?_) | (refine guardA (b := false) rfl rfl rfl rfl (fun e => by cases e) (fun _ => ?_); refine go T_ok 200 rfl ?_) | (refine condT rfl rfl ?_; refine go T_ok 200 rfl ?_) | (refine condF rfl rfl ?_; refine go T_ok 200 rfl ?_))
  refine ldA T_ok rfl rfl rfl rfl rfl B1.all ?_
  refine go T_ok 200 rfl ?_
  refine call rfl rfl rfl (ok _ (by decide) rfl) (ray_any r _) ?_
  rintro x w2 ⟨rfl, q2⟩
  refine go T_ok 200 rfl ?_
  exact ret (ret1 (v := .bool _) Try.results86 rfl ⟨rfl, q1.trans q2⟩)
theorem index_any (l : List Ra) (A : Option Addr) (c B : Nat) (w0 : World) (hL : l.length ≤ 1000) (hS : Sl w0 B 6 A l.length (l.flatMap rL)) :
    Ret Try.prog 93 [.slice A l.length c, .func (.func 86) #[] #[]] w0 fun x w' => ∃ k, x = .int .i64 k ∧ (0 ≤ k ↔ ¬ ∀ r ∈ l, RaOk r) ∧ Chg No w0 w' := by
  refine enter Try.func93 rfl Try.ntmps93 rfl ?_
  refine go T_ok 200 rfl ?_
  refine loop [0, 1, 7, 8] (fun j : Nat => [.slice A l.length c, .func (.func 86) #[] #[], .int .i64 (l.length : Int), .int .i64 (j : Int)])
    (fun j w' => j ≤ l.length ∧ Chg No w0 w' ∧ ∀ r ∈ l.take j, RaOk r) (fun j => l.length - j) 0 (fun _ => rfl) rfl ⟨by omega, Chg.refl _ _, fun a h => by simp at h⟩ ?_
  rintro j τ w ⟨hj, q, hI⟩
  have S1 := hS.no q
  refine go T_ok 200 rfl ?_
  refine condD rfl (fun hlt => ?_) (fun hlt => ?_)
  · have hlt : j < l.length := by omega
    obtain ⟨r, hr⟩ : ∃ s, l[j]? = some s := ⟨_, List.getElem?_eq_getElem hlt⟩
    have hrm := List.mem_of_getElem? hr
    obtain ⟨b, o, hA, hb, hc⟩ := S1.el rL_len hr
    have e3 : w64 ((j : Int) + 1) = ((j + 1 : Nat) : Int) := w64_id (by omega) (by omega)
    rw [hA]
    refine go T_ok 200 rfl ?_
    refine idx T_ok rfl rfl rfl rfl rfl j rfl hlt ?_
    refine go T_ok 200 rfl ?_
    refine ldA T_ok rfl rfl rfl rfl rfl hc ?_
    refine go T_ok 200 rfl ?_
    have hK : Ret Try.prog 86 ((#[] : Array Value).toList ++ ([.agg (rL r).toArray] ++ (#[] : Array Value).toList)) w fun x w' => x = .bool (!decide (RaOk r)) ∧ Chg No w w' := by simpa using nray_any r w
    refine call rfl rfl rfl (ok _ (by decide) rfl) hK ?_
    rintro x w ⟨rfl, qk⟩
    have q := q.trans qk
    refine go T_ok 200 rfl ?_
    refine cond rfl (fun h => ?_) (fun h => ?_)
    · have h := ndT h
      refine go T_ok 200 rfl ?_
      exact ret (ret1 (v := .int .i64 (j : Int)) Try.results93 rfl ⟨(j : Int), rfl, ⟨fun _ hh => h (hh r hrm), fun _ => by omega⟩, q⟩)
    · have h := ndF h
      refine go T_ok 200 rfl ?_
      rw [e3]
      refine round ⟨j + 1, by rw [← hA]; rfl, ⟨by omega, q, fun z hz => ?_⟩, by omega⟩
      rw [take_snoc hr, List.mem_append, List.mem_singleton] at hz
      rcases hz with hz | rfl
      · exact hI z hz
      · exact h
  · have hjl : j = l.length := by omega
    rw [hjl, List.take_length] at hI
    refine go T_ok 200 rfl ?_
    exact ret (ret1 (v := .int .i64 (-1)) Try.results93 rfl ⟨-1, rfl, ⟨fun h => by omega, fun h => absurd hI h⟩, q⟩)
theorem contains_any (l : List Ra) (A : Option Addr) (c B : Nat) (w0 : World) (hL : l.length ≤ 1000) (hS : Sl w0 B 6 A l.length (l.flatMap rL)) :
    Ret Try.prog 85 [.slice A l.length c, .func (.func 86) #[] #[]] w0 fun x w' => x = .bool (!decide (∀ r ∈ l, RaOk r)) ∧ Chg No w0 w' := by
  refine enter Try.func85 rfl Try.ntmps85 rfl ?_
  refine go T_ok 200 rfl ?_
  refine call rfl rfl rfl (ok _ (by decide) rfl) (index_any l A c B _ hL hS) ?_
  rintro x w ⟨k, rfl, hk, q⟩
  refine go T_ok 200 rfl ?_
  refine ret (ret1 (v := .bool _) Try.results85 rfl ⟨congrArg Value.bool ?_, q⟩)
  by_cases h : ∀ r ∈ l, RaOk r
  · have : ¬ 0 ≤ k := fun h0 => hk.1 h0 h
    simp [decide_eq_true h]
    omega
  · have := hk.2 h
    rw [decide_eq_false h]
    simp
    omega
/-- the cells of all pieces of all rays -/
def csA (v : Vo) (l : List Ra) : List Int := l.flatMap fun r => (pcs v r).map (·.c)
def nsn (v : Vo) : Nat := (v.nx * v.ny * v.nz).toNat
def seenL (v : Vo) (l : List Ra) : List Int := (List.range (nsn v)).map fun (c : Nat) => (((csA v l).count (c : Int) : Nat) : Int)
def SnOk (v : Vo) (l : List Ra) : Prop := VoOk v ∧ ∀ r ∈ l, RaOk r
instance (v : Vo) (l : List Ra) : Decidable (SnOk v l) := by unfold SnOk; infer_instance
def snR (v : Vo) (l : List Ra) : List Int × Int := if 200 < l.length then ([], 3) else if SnOk v l then (seenL v l, 0) else ([], 2)
theorem csA_snoc (v : Vo) (l : List Ra) (r : Ra) : csA v (l ++ [r]) = csA v l ++ (pcs v r).map (·.c) := by unfold csA; simp
theorem csA_len {v : Vo} (hv : VoOk v) : ∀ l : List Ra, (csA v l).length ≤ l.length * 40 := by
  intro l
  induction l with
  | nil => simp [csA]
  | cons r l ih =>
    have := pcs_len r hv
    unfold csA at *
    rw [List.flatMap_cons, List.length_append, List.length_map, List.length_cons]
    omega
theorem count_snoc (l : List Int) (x c : Int) : (((l ++ [x]).count c : Nat) : Int) = (l.count c : Int) + if x = c then 1 else 0 := by
  rw [List.count_append, List.count_singleton]
  by_cases h : x = c
  · rw [if_pos h, if_pos (by simpa using h)]; omega
  · rw [if_neg h, if_neg (by simpa using h)]; omega
set_option maxRecDepth 20000 in
set_option maxHeartbeats 8000000 in
theorem Seen_any (v : Vo) (l : List Ra) (A : Option Addr) (c B : Nat) (w0 : World) (hS : Sl w0 B 6 A l.length (l.flatMap rL)) :
    Ret Try.prog 54 [.agg (vL v).toArray, .slice A l.length c] w0 fun x w' => ∃ A' c' e ls, x = .tuple #[.slice A' ls.length c', .int .i64 e] ∧ Sl w' w'.heap.size 1 A' ls.length (iL ls) ∧ Chg No w0 w' ∧ (ls, e) = snR v l := by
  refine enter Try.func54 rfl Try.ntmps54 rfl ?_
  refine go T_ok 200 rfl ?_
  refine bx rfl rfl rfl (cs := vL v) rfl ?_
  intro g1 u1 hg1 hs1 q1 B1
  have q := q1
  have S1 := hS.no q
  refine go T_ok 200 rfl ?_
  refine condD rfl (fun h2 => ?_) (fun h2 => ?_)
  · have hR : snR v l = ([], 3) := by unfold snR; rw [if_pos (by omega)]
    refine go T_ok 200 rfl ?_
    exact ret (ret2 (v := .slice none 0 0) (x := .int .i64 3) Try.results54 rfl rfl ⟨none, 0, 3, [], rfl, slNil _ _ _, q, hR.symm⟩)
  have hl2 : l.length ≤ 200 := by omega
  refine go T_ok 200 rfl ?_
  repeat (first | (refine ldA T_ok rfl rfl rfl rfl rfl (Bk.all B1) ?_; refine go T_ok 200 rfl ?_) | (refine ld T_ok rfl rfl rfl rfl (Bk.get B1 rfl) ?_; refine go T_ok 200 rfl ?_) | (refine guardA (b := true) rfl rfl rfl rfl (fun _ => ?_) (fun e => by cases e); refine go T_ok 200 rfl ?_) | (refine guardA (b := false) rfl rfl rfl rfl (fun e => by cases e) (fun _ => ?_); refine go T_ok 200 rfl ?_) | (refine condT rfl rfl ?_; refine go T_ok 200 rfl ?_) | (refine condF rfl rfl ?_; refine go T_ok 200 rfl ?_))
  refine call rfl rfl rfl (ok _ (by decide) rfl) (volume_any v _) ?_
  rintro x w ⟨rfl, qk⟩
  have B1 := B1.no qk
  have S1 := S1.no qk
  have q := q.trans qk
  by_cases hv : VoOk v
  case neg =>
    rw [decide_eq_false hv]
    have hR : snR v l = ([], 2) := by unfold snR; rw [if_neg (by omega), if_neg (fun h => hv h.1)]
    refine go T_ok 200 rfl ?_
    repeat (first | (refine guardA (b := true) rfl rfl rfl rfl (fun _ => ?_) (fun e => by cases e); refine go T_ok 200 rfl ?_) | (refine guardA (b := false) rfl rfl rfl rfl (fun e => by cases e) (fun _ => ?_); refine go T_ok 200 rfl ?_) | (refine condT rfl rfl ?_; refine go T_ok 200 rfl ?_) | (refine condF rfl rfl ?_; refine go T_ok 200 rfl ?_))
    exact ret (ret2 (v := .slice none 0 0) (x := .int .i64 2) Try.results54 rfl rfl ⟨none, 0, 2, [], rfl, slNil _ _ _, q, hR.symm⟩)
  rw [decide_eq_true hv]
  refine go T_ok 200 rfl ?_
  repeat (first | (refine ldA T_ok rfl rfl rfl rfl rfl (Bk.all B1) ?_; refine go T_ok 200 rfl ?_) | (refine ld T_ok rfl rfl rfl rfl (Bk.get B1 rfl) ?_; refine go T_ok 200 rfl ?_) | (refine guardA (b := true) rfl rfl rfl rfl (fun _ => ?_) (fun e => by cases e); refine go T_ok 200 rfl ?_) | (refine guardA (b := false) rfl rfl rfl rfl (fun e => by cases e) (fun _ => ?_); refine go T_ok 200 rfl ?_) | (refine condT rfl rfl ?_; refine go T_ok 200 rfl ?_) | (refine condF rfl rfl ?_; refine go T_ok 200 rfl ?_))
  refine call rfl rfl rfl (ok _ (by decide) rfl) (contains_any l A c _ _ (by omega) S1) ?_
  rintro x w ⟨rfl, qk⟩
  have B1 := B1.no qk
  have S1 := S1.no qk
  have q := q.trans qk
  by_cases hra : ∀ r ∈ l, RaOk r
  case neg =>
    rw [decide_eq_false hra]
    have hR : snR v l = ([], 2) := by unfold snR; rw [if_neg (by omega), if_neg (fun h => hra h.2)]
    refine go T_ok 200 rfl ?_
    repeat (first | (refine guardA (b := true) rfl rfl rfl rfl (fun _ => ?_) (fun e => by cases e); refine go T_ok 200 rfl ?_) | (refine guardA (b := false) rfl rfl rfl rfl (fun e => by cases e) (fun _ => ?_); refine go T_ok 200 rfl ?_) | (refine condT rfl rfl ?_; refine go T_ok 200 rfl ?_) | (refine condF rfl rfl ?_; refine go T_ok 200 rfl ?_))
    exact ret (ret2 (v := .slice none 0 0) (x := .int .i64 2) Try.results54 rfl rfl ⟨none, 0, 2, [], rfl, slNil _ _ _, q, hR.symm⟩)
  rw [decide_eq_true hra]
  have hR : snR v l = (seenL v l, 0) := by unfold snR; rw [if_neg (by omega), if_pos ⟨hv, hra⟩]
  rw [hR]
  have m1 := vo_xy hv
  have m2 := vo_xyz hv
  have e1 : w64 (v.nx * v.ny) = v.nx * v.ny := w64_id (by omega) (by omega)
  have e2 : w64 (v.nx * v.ny * v.nz) = ((nsn v : Nat) : Int) := by unfold nsn; rw [w64_id (by omega) (by omega)]; omega
  have hn : nsn v ≤ 600 := by unfold nsn; omega
  refine go T_ok 200 rfl ?_
  repeat (first | (refine ldA T_ok rfl rfl rfl rfl rfl (Bk.all B1) ?_; refine go T_ok 200 rfl ?_) | (refine ld T_ok rfl rfl rfl rfl (Bk.get B1 rfl) ?_; refine go T_ok 200 rfl ?_) | (refine guardA (b := true) rfl rfl rfl rfl (fun _ => ?_) (fun e => by cases e); refine go T_ok 200 rfl ?_) | (refine guardA (b := false) rfl rfl rfl rfl (fun e => by cases e) (fun _ => ?_); refine go T_ok 200 rfl ?_) | (refine condT rfl rfl ?_; refine go T_ok 200 rfl ?_) | (refine condF rfl rfl ?_; refine go T_ok 200 rfl ?_))
  rw [e1, e2]
  have y1 := B1.lt
  have yq := q.size
  refine mk1 T_ok rfl rfl rfl rfl rfl (nsn v) rfl (z := I 0) (by kernel_rfl) rfl (by unfold maxLen; omega) (by omega) ?_
  intro g w hg hs1 qk R1
  have B1 := B1.no qk
  have S1 := S1.no qk
  have q := q.trans qk
  have hge : w0.heap.size ≤ g := by omega
  have hB1 : g1 ≠ g := by omega
  refine go T_ok 200 rfl ?_
  refine loop [1, 2, 6, 30, 31, 32] (fun j : Nat => [.slice A l.length c, .pointer (some ⟨g1, 0, none⟩), .slice (some ⟨g, 0, none⟩) (nsn v) (nsn v), .slice A l.length c, .int .i64 (l.length : Int), .int .i64 (j : Int)])
    (fun j w' => j ≤ l.length ∧ Chg (fun k => k = g) w w' ∧ ∃ f, w'.rowIs g 3 (nsn v) f ∧ ∀ i, i < nsn v → f i = .int .i64 ((csA v (l.take j)).count (i : Int) : Int)) (fun j => l.length - j) 0 (fun _ => rfl) rfl ⟨by omega, Chg.refl _ _, _, R1, fun j hj => by simp [csA]⟩ ?_
  rintro j τ w ⟨hj, p, f, R2, hf⟩
  have B1 := B1.keep p hB1
  have S1 := S1.keep p (fun k hk e => by have := hS.2.1; omega)
  have q := q.step p (fun k hk e => by omega)
  refine go T_ok 200 rfl ?_
  refine condD rfl (fun hlt => ?_) (fun hlt => ?_)
  · have hlt : j < l.length := by omega
    obtain ⟨r, hr⟩ : ∃ s, l[j]? = some s := ⟨_, List.getElem?_eq_getElem hlt⟩
    have hrr := hra r (List.mem_of_getElem? hr)
    obtain ⟨b, o, hA, hb, hc⟩ := S1.el rL_len hr
    have e3 : w64 ((j : Int) + 1) = ((j + 1 : Nat) : Int) := w64_id (by omega) (by omega)
    have R0 : w.rowIs g 3 (nsn v) f := R2
    have hgw : g < w.heap.size := R2.lt
    rw [hA]
    refine go T_ok 200 rfl ?_
    refine idx T_ok rfl rfl rfl rfl rfl j rfl hlt ?_
    refine go T_ok 200 rfl ?_
    refine ldA T_ok rfl rfl rfl rfl rfl hc ?_
    refine go T_ok 200 rfl ?_
    refine nw rfl rfl (z := .agg #[I 0, I 0, I 0, I 0, I 0, I 0]) (by kernel_rfl) (cs := [I 0, I 0, I 0, I 0, I 0, I 0]) rfl ?_
    intro g8 w8 hg8 hs8 q8 B8
    refine go T_ok 200 rfl ?_
    refine stA T_ok rfl rfl rfl rfl (vs := rL r) rfl rfl rfl B8 rfl ?_
    intro w9 q9 B8 hz8
    have B8 : Bk w9 g8 26 (rL r) := B8
    have qk : Chg No w w9 := q8.step q9 (fun k hk e => by omega)
    have B1 := B1.no qk
    have S1 := S1.no qk
    have p := p.no qk
    have q := q.trans qk
    refine go T_ok 200 rfl ?_
    refine ldA T_ok rfl rfl rfl rfl rfl B1.all ?_
    refine go T_ok 200 rfl ?_
    refine ldA T_ok rfl rfl rfl rfl rfl B8.all ?_
    refine go T_ok 200 rfl ?_
    refine call rfl rfl rfl (ok _ (by decide) rfl) (through_any v r _ hrr) ?_
    rintro x w10 ⟨rfl, q10⟩
    refine go T_ok 200 rfl ?_
    refine call rfl rfl rfl (ok _ (by decide) rfl) (parts_any v r id none 0 0 _ hv hrr (Cuts.none v _)) ?_
    rintro x w11 ⟨A11, c11, rfl, o11, q11⟩
    rw [cut_id hv] at o11 ⊢
    have S11 := own_slN o11
    have qz := (qk.trans q10).trans q11
    have R2 := rowIs_no R2 qz
    have qk := q10.trans q11
    have B1 := B1.no qk
    have S1 := S1.no qk
    have p := p.no qk
    have q := q.trans qk
    have hpl := pcs_len r hv
    have hcl := csA_len hv (l.take j)
    have hlt2 : (l.take j).length ≤ 200 := by rw [List.length_take]; omega
    have hsn : csA v (l.take (j + 1)) = csA v (l.take j) ++ (pcs v r).map (·.c) := by rw [take_snoc hr, csA_snoc]
    have hmem : ∀ p ∈ pcs v r, 0 ≤ p.c ∧ p.c < v.nx * v.ny * v.nz := fun p hp => by have := mem_pcs hv hp; omega
    generalize csA v (l.take j) = C0 at *
    generalize pcs v r = L at *
    refine go T_ok 200 rfl ?_
    refine loop [1, 2, 6, 30, 31, 32, 39, 40, 41] (fun k : Nat => [.slice (some ⟨b, o, none⟩) l.length c, .pointer (some ⟨g1, 0, none⟩), .slice (some ⟨g, 0, none⟩) (nsn v) (nsn v), .slice (some ⟨b, o, none⟩) l.length c, .int .i64 (l.length : Int), .int .i64 (j : Int), .slice A11 L.length c11, .int .i64 (L.length : Int), .int .i64 (k : Int)])
      (fun k w' => k ≤ L.length ∧ Chg (fun k => k = g) w11 w' ∧ ∃ f, w'.rowIs g 3 (nsn v) f ∧ ∀ i, i < nsn v → f i = .int .i64 ((C0 ++ (L.map (·.c)).take k).count (i : Int) : Int)) (fun k => L.length - k) 0 (fun _ => rfl) rfl ⟨by omega, Chg.refl _ _, _, R2, fun i hi => by simpa using hf i hi⟩ ?_
    rintro k τ w ⟨hk, p2, f', R3, hf'⟩
    refine go T_ok 200 rfl ?_
    refine condD rfl (fun hlt3 => ?_) (fun hlt3 => ?_)
    · have hlt3 : k < L.length := by omega
      obtain ⟨z, hz⟩ : ∃ s, L[k]? = some s := ⟨_, List.getElem?_eq_getElem hlt3⟩
      have hz0 := hmem z (List.mem_of_getElem? hz)
      have hg10 : g < w10.heap.size := by have := qk.size; have := B8.lt; have := q10.size; omega
      have S12 := own_slN (own_keep o11 p2 (fun k e e2 => by have := own_ge o11 e; omega))
      obtain ⟨b2, o2, hA2, hb2, hc2⟩ := S12.el pL_len hz
      have hzn : z.c.toNat < nsn v := by unfold nsn; omega
      have e5 : w64 ((k : Int) + 1) = ((k + 1 : Nat) : Int) := w64_id (by omega) (by omega)
      have hcz := hf' _ hzn
      have hcnt : ((C0 ++ (L.map (·.c)).take k).count ((z.c.toNat : Nat) : Int)) ≤ 9000 := by
        refine Nat.le_trans (List.count_le_length ..) ?_
        rw [List.length_append, List.length_take, List.length_map]
        omega
      have e6 : w64 (((C0 ++ (L.map (·.c)).take k).count ((z.c.toNat : Nat) : Int) : Int) + 1) = ((C0 ++ (L.map (·.c)).take k).count ((z.c.toNat : Nat) : Int) : Int) + 1 := w64_id (by omega) (by omega)
      have hmz : (L.map (·.c))[k]? = some z.c := by rw [List.getElem?_map, hz]; rfl
      rw [hA2]
      refine go T_ok 200 rfl ?_
      refine idx T_ok rfl rfl rfl rfl rfl k rfl hlt3 ?_
      refine go T_ok 200 rfl ?_
      refine ldA T_ok rfl rfl rfl rfl rfl hc2 ?_
      refine go T_ok 200 rfl ?_
      have hgw2 : g < w.heap.size := R3.lt
      refine nw rfl rfl (z := .agg #[I 0, I 0, I 0]) (by kernel_rfl) (cs := [I 0, I 0, I 0]) rfl ?_
      intro g12 w12 hg12 hs12 q12 B12
      refine go T_ok 200 rfl ?_
      refine stA T_ok rfl rfl rfl rfl (vs := pL z) rfl rfl rfl B12 rfl ?_
      intro w13 q13 B12 hz12
      have B12 : Bk w13 g12 124 (pL z) := B12
      have q1213 : Chg No w w13 := q12.step q13 (fun k hk e => by omega)
      have R3 := rowIs_no R3 q1213
      refine go T_ok 200 rfl ?_
      repeat (first | (refine ld T_ok rfl rfl rfl rfl (Bk.get B12 rfl) ?_; refine go T_ok 200 rfl ?_) | (refine guardA (b := true) rfl rfl rfl rfl (fun _ => ?_) (fun e => by cases e); refine go T_ok 200 rfl ?_) | (refine guardA (b := false) rfl rfl rfl rfl (fun e => by cases e) (fun _ => ?_); refine go T_ok 200 rfl ?_) | (refine condT rfl rfl ?_; refine go T_ok 200 rfl ?_) | (refine condF rfl rfl ?_; refine go T_ok 200 rfl ?_))
      refine idx T_ok rfl rfl rfl rfl rfl z.c.toNat (by omega) hzn ?_
      refine go T_ok 200 rfl ?_
      rw [show 0 + z.c.toNat * 1 = z.c.toNat by omega]
      have hcell := R3.cell (i := z.c.toNat) hzn
      rw [hcz] at hcell
      refine ld T_ok rfl rfl rfl rfl (hcell) ?_
      refine go T_ok 200 rfl ?_
      rw [e6]
      refine idx T_ok rfl rfl rfl rfl rfl z.c.toNat (by omega) hzn ?_
      refine go T_ok 200 rfl ?_
      rw [show 0 + z.c.toNat * 1 = z.c.toNat by omega]
      refine stR T_ok rfl rfl rfl rfl (v := .int .i64 (((C0 ++ (L.map (·.c)).take k).count ((z.c.toNat : Nat) : Int) : Int) + 1)) rfl rfl R3 hzn ?_
      intro w14 q14 R4 hs14
      refine go T_ok 200 rfl ?_
      rw [e5]
      refine round ⟨k + 1, by rw [← hA2]; rfl, ⟨by omega, (p2.trans (q1213.mono fun _ _ h => h.elim)).trans q14, _, R4, fun i hi => ?_⟩, by omega⟩
      rw [take_snoc hmz, ← List.append_assoc, count_snoc]
      by_cases e : i = z.c.toNat
      · subst e
        simp only [if_true]
        rw [if_pos (by omega)]
      · simp only [if_neg e]
        rw [hf' i hi, if_neg (by omega), Int.add_zero]
    · have hkl : k = L.length := by omega
      subst hkl
      refine go T_ok 200 rfl ?_
      rw [e3]
      refine round ⟨j + 1, by rw [← hA]; rfl, ⟨by omega, p.trans p2, f', R3, fun i hi => ?_⟩, by omega⟩
      rw [hf' i hi, hsn, List.take_of_length_le (by rw [List.length_map]; omega)]
  · have hjl : j = l.length := by omega
    rw [hjl, List.take_length] at hf
    have hsl : (seenL v l).length = nsn v := by simp [seenL]
    have S2 := row_slI R2 hsl (fun j x hx => by
      have hj : j < nsn v := by have := (List.getElem?_eq_some_iff.1 hx).1; omega
      unfold seenL at hx
      rw [List.getElem?_map, List.getElem?_range hj] at hx
      rw [hf j hj]
      exact congrArg I (Option.some.inj hx))
    rw [← hsl]
    refine go T_ok 200 rfl ?_
    exact ret (ret2 (v := .slice _ _ _) (x := .int .i64 0) Try.results54 rfl rfl ⟨_, _, 0, seenL v l, rfl, S2, q, rfl⟩)
end Go.Proofs.Ytkkjfjeniaiaiaa
