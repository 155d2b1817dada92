/- The contracts of classes. -/
import Derived.Test.YteenhfnamjbaiaaEP
import Derived.Test.YteenhfnamjbaiaaGM
import Derived.Test.YteenhfnamjbaiaaSM
import Derived.Test.YteenhfnamjbaiaaER
import Derived.Test.YteenhfnamjbaiaaEF
import Derived.Test.YteenhfnamjbaiaaES
import Derived.Test.YteenhfnamjbaiaaEQ
import Derived.Test.YteenhfnamjbaiaaDM
namespace Go.Proofs.Yteenhfnamjbaiaa
open Go.Ev Go.Proofs
open Go.Camp (clsP clsS cls_len ixN)
attribute [local irreducible] At AtH
def TQ : Tab := [(77, .str 2 [(0,1,false),(1,1,false)] [.slice none 0 0, .slice none 0 0]), (74, .slc 124 2 16), (75, .slc 125 2 2), (124, .arr 2 1 false), (125, .arr 2 1 false), (208, .arr 3 1 false), (206, .one), (209, .one), (173, .one), (229, .one), (230, .one)] ++ TR
theorem TQ_ok : tabOk Try.prog TQ = true := by kernel_rfl
theorem K125 : Go.Maps.Keyed Try.prog 125 := Go.Maps.Keyed.of_law (deep_law_laid (by kernel_rfl) (m := 2) (by omega) (of_decide_eq_true (by kernel_rfl)) (by kernel_rfl) (by rw [Try.underlying125]))
theorem K208 : Go.Maps.Keyed Try.prog 208 := Go.Maps.Keyed.of_law (deep_law_laid (by kernel_rfl) (m := 2) (by omega) (of_decide_eq_true (by kernel_rfl)) (by kernel_rfl) (by rw [Try.underlying208]))
def bV (k : Bool × Bool) : List Value := [.bool k.1, .bool k.2]
def ekB (k : Bool × Bool) : Value := .agg (bV k).toArray
theorem ekB_inj (a : Bool × Bool) : ∀ a', ekB a' = ekB a → a' = a := by
 intro a' h
 obtain ⟨x, y⟩ := a
 obtain ⟨x', y'⟩ := a'
 simp [ekB, bV] at h
 obtain ⟨rfl, rfl⟩ := h
 rfl
abbrev K3 := Nat × Nat × Nat
def tV (k : K3) : List Value := [I (k.1 : Int), I (k.2.1 : Int), I (k.2.2 : Int)]
def ek3 (k : K3) : Value := .agg (tV k).toArray
theorem ek3_inj (a : K3) : ∀ a', ek3 a' = ek3 a → a' = a := by
 intro a' h
 obtain ⟨x, y, z⟩ := a
 obtain ⟨x', y', z'⟩ := a'
 simp [ek3, tV] at h
 obtain ⟨h1, h2, h3⟩ := h
 obtain rfl : x' = x := by omega
 obtain rfl : y' = y := by omega
 obtain rfl : z' = z := by omega
 rfl
theorem kB (k : Bool × Bool) : ∃ l, keyOf Try.prog 125 (ekB k) = some l :=
 keyArr_some (n := 2) (b := true) (by kernel_rfl) (vs := bV k) rfl (fun v hv => by simp [bV] at hv; rcases hv with rfl | rfl <;> trivial) tyN
theorem k3 (k : K3) (h : k.1 ≤ 1000000 ∧ k.2.1 ≤ 1000000 ∧ k.2.2 ≤ 1000000) : ∃ l, keyOf Try.prog 208 (ek3 k) = some l :=
 keyArr_some (n := 3) (b := false) (by kernel_rfl) (vs := tV k) rfl (fun v hv => by simp [tV] at hv; rcases hv with rfl | rfl | rfl <;> exact wf_i64 (by omega) (by omega)) tyN
/-- what a map of numbers says -/
def numb {α : Type} [DecidableEq α] (seen : List α) (k : α) : Option Nat := if k ∈ seen then some (ixN seen k) else none
def eN (i : Nat) : Value := I (i : Int)
theorem iN_rep (n : Nat) : iL (iN (List.replicate n 0)) = List.replicate (n * 1) (I 0) := by simp [iL, iN]
theorem numb_snoc {α : Type} [DecidableEq α] (s : List α) (k : α) (h : k ∉ s) : (fun c => if c = k then some s.length else numb s c) = numb (s ++ [k]) := by
 funext c
 unfold numb ixN
 by_cases hc : c = k
 ·subst hc
  rw [if_pos rfl, if_pos (by simp), List.idxOf_append, if_neg h]
  simp
 ·rw [if_neg hc]
  by_cases hs : c ∈ s
  ·rw [if_pos hs, if_pos (by simp [hs]), List.idxOf_append, if_pos hs]
  ·rw [if_neg hs, if_neg (by simp [hs, hc])]
theorem set_row (A : List Nat) (r x : Nat) : (iL (iN (A ++ List.replicate (r + 1) 0))).set A.length (eN x) = iL (iN (A ++ [x] ++ List.replicate r 0)) := by
 have e1 : iL (iN (A ++ List.replicate (r + 1) 0)) = iL (iN A) ++ (I 0 :: iL (iN (List.replicate r 0))) := by simp [iL, iN, List.replicate_succ]
 have e2 : iL (iN (A ++ [x] ++ List.replicate r 0)) = iL (iN A) ++ (eN x :: iL (iN (List.replicate r 0))) := by simp [iL, iN, eN]
 rw [e1, e2, List.set_append_right _ _ (by rw [iN_len]; omega), iN_len, Nat.sub_self]
 rfl
set_option maxRecDepth 20000 in
set_option maxHeartbeats 8000000 in
theorem classesB_any (ks : List (Bool × Bool)) (gf : Nat) (caps : List Value) (w0 : World) (hn : ks.length ≤ 16384) (hok : callable Try.prog gf = true) (hkk : ∀ k ∈ ks, ∃ l, keyOf Try.prog 125 (ekB k) = some l)
  (hkey : ∀ (i : Nat) k w', ks[i]? = some k → Chg No w0 w' → Ret Try.prog gf (I (i : Int) :: caps) w' fun v w'' => v = ekB k ∧ Chg No w' w'') :
  Ret Try.prog 122 [I (ks.length : Int), .func (.func gf) #[] caps.toArray] w0 fun v w' => ∃ g, v = .tuple #[.slice (some ⟨g, 0, none⟩) ks.length ks.length, I ((clsP ks).1.length : Int)] ∧ Chg No w0 w' ∧ w0.heap.size ≤ g ∧ Bk w' g 3 (iL (iN (clsP ks).2)) := by
 refine enter Try.func122 rfl Try.ntmps122 rfl ?_
 refine go TQ_ok 200 rfl ?_
 refine mkMN (kt := 125) rfl rfl ?_
 intro mb w1 hmb hsm q Mm Sm
 have Mm := Mm (ekB) eN
 refine go TQ_ok 200 rfl ?_
 refine mkB TQ_ok rfl rfl rfl rfl rfl ks.length rfl (z := I 0) (by kernel_rfl) (v := I 0) rfl (by decide) (by unfold maxLen; omega) (by omega) ?_
 intro g w2 hg hs qk Bg
 have Mm := Mm.no qk
 have Sm := Sm.no qk
 have q := q.trans qk
 have lm := Mm.lt
 have lg := Bg.lt
 have lmg : mb < g := by omega
 have lw : w0.heap.size ≤ mb := by omega
 clear hmb hsm hg hs
 refine go TQ_ok 200 rfl ?_
 refine loop [1, 6, 7, 16, 17] (fun j : Nat => [.func (.func gf) #[] caps.toArray, .map (some mb), .slice (some ⟨g, 0, none⟩) ks.length ks.length, .int .i64 (ks.length : Int), .int .i64 (j : Int)])
  (fun j w' => j ≤ ks.length ∧ Chg No w0 w' ∧ (∃ n, Mt Try.prog 125 w' mb n (ekB) eN (numb (clsP (ks.take j)).1)) ∧ Sz w' mb (clsP (ks.take j)).1.length ∧ Bk w' g 3 (iL (iN ((clsP (ks.take j)).2 ++ List.replicate (ks.length - j) 0)))) (fun j => ks.length - j) 0 (fun _ => rfl) rfl
  ⟨Nat.zero_le _, q, ⟨0, Mm⟩, Sm, by show Bk w2 g 3 (iL (iN (List.replicate ks.length 0))); rw [iN_rep]; exact Bg⟩ ?_
 rintro j τ w3 ⟨hj, q, ⟨n, Mm⟩, Sm, Bg⟩
 refine go TQ_ok 200 rfl ?_
 refine condD rfl (fun hlt => ?_) (fun hlt => ?_)
 ·have hlt : j < ks.length := by omega
  obtain ⟨k, hk⟩ := getA_of hlt
  have hmem := List.mem_of_getElem? hk
  have hlm := Mm.lt
  have hlg := Bg.lt
  have hsn : clsP (ks.take (j + 1)) = clsS (clsP (ks.take j)) k := by rw [List.take_add_one, hk]; exact Go.Camp.clsP_snoc _ _
  have hc2 : (clsP (ks.take j)).2.length = j := by rw [cls_len, List.length_take]; omega
  generalize clsP (ks.take j) = S at *
  refine go TQ_ok 200 rfl ?_
  refine call rfl rfl rfl hok (hkey j k _ hk q) ?_
  rintro v w4 ⟨rfl, qk⟩
  have Mm := Mm.no qk
  have Sm := Sm.no qk
  have Bg := Bg.no qk
  have q := q.trans qk
  have hlg := Bg.lt
  refine go TQ_ok 200 rfl ?_
  refine nw rfl rfl (z := .agg (List.replicate 2 (.bool false)).toArray) (by kernel_rfl) (cs := List.replicate 2 (.bool false)) rfl ?_
  intro g9 w5 hg9 hs9 qk B9
  have Mm := Mm.no qk
  have Sm := Sm.no qk
  have Bg := Bg.no qk
  have q := q.trans qk
  have lq := q.size
  refine go TQ_ok 200 rfl ?_
  refine stArr TQ_ok rfl rfl rfl rfl (vs := bV k) rfl rfl rfl B9 rfl ?_
  intro w6 qk B9 hz6
  have B9 : Bk w6 g9 125 (bV k) := B9
  have Mm := Mm.keep qk (by omega)
  have Sm := Sm.keep qk (by omega)
  have Bg := Bg.keep qk (by omega)
  have q := q.step qk (fun k hk e => by omega)
  refine go TQ_ok 200 rfl ?_
  refine ldArr TQ_ok rfl rfl rfl rfl rfl B9.all ?_
  refine go TQ_ok 200 rfl ?_
  have hinj := ekB_inj k
  obtain hkl := hkk k hmem
  by_cases hin : k ∈ S.1
  ·refine lookS K125 rfl rfl Try.underlying229 rfl (ek := ekB) (a := k) rfl hkl hinj Mm (z := I 0) (by kernel_rfl) (v := ixN S.1 k) (by unfold numb; rw [if_pos hin]) ?_
   refine go TQ_ok 200 rfl ?_
   repeat (first | (refine gT rfl rfl rfl rfl ?_; refine go TQ_ok 200 rfl ?_) | (refine gF rfl rfl rfl rfl ?_; refine go TQ_ok 200 rfl ?_) | (refine condT rfl rfl ?_; refine go TQ_ok 200 rfl ?_) | (refine condF rfl rfl ?_; refine go TQ_ok 200 rfl ?_))
   refine go TQ_ok 200 rfl ?_
   refine idx TQ_ok rfl rfl rfl rfl rfl j rfl hlt ?_
   refine go TQ_ok 200 rfl ?_
   refine st TQ_ok rfl rfl rfl rfl (v := eN ((ixN S.1 k))) rfl rfl Bg (by rw [lenL_eq]; simp [iL, iN]; omega) ?_
   intro w9 qk Bg hz9
   have Mm := Mm.keep qk (by omega)
   have Sm := Sm.keep qk (by omega)
   have q := q.step qk (fun k hk e => by omega)
   refine go TQ_ok 200 rfl ?_
   rw [w64_id (x := (j : Int) + 1) (by omega) (by omega)]
   have eb : (iL (iN (S.2 ++ List.replicate (ks.length - j) 0))).set (0 + j * 1) (eN ((ixN S.1 k))) = iL (iN (S.2 ++ [(ixN S.1 k)] ++ List.replicate (ks.length - (j + 1)) 0)) := by
    rw [show ks.length - j = (ks.length - (j + 1)) + 1 by omega, show 0 + j * 1 = S.2.length by omega]
    exact set_row _ _ _
   rw [eb] at Bg
   refine round ⟨j + 1, rfl, ⟨by omega, q, ?_⟩, by omega⟩
   rw [hsn]
   unfold clsS
   rw [if_pos hin]
   exact ⟨⟨n, Mm⟩, Sm, Bg⟩
  ·refine lookN K125 rfl rfl Try.underlying229 rfl (ek := ekB) (a := k) rfl hkl hinj Mm (z := I 0) (by kernel_rfl) (by unfold numb; rw [if_neg hin]) ?_
   refine go TQ_ok 200 rfl ?_
   repeat (first | (refine gT rfl rfl rfl rfl ?_; refine go TQ_ok 200 rfl ?_) | (refine gF rfl rfl rfl rfl ?_; refine go TQ_ok 200 rfl ?_) | (refine condT rfl rfl ?_; refine go TQ_ok 200 rfl ?_) | (refine condF rfl rfl ?_; refine go TQ_ok 200 rfl ?_))
   refine lenM rfl rfl Try.underlying229 rfl Sm ?_
   refine go TQ_ok 200 rfl ?_
   refine ldArr TQ_ok rfl rfl rfl rfl rfl B9.all ?_
   refine go TQ_ok 200 rfl ?_
   refine updN K125 rfl rfl Try.underlying229 rfl (ek := ekB) (eb := eN) (a := k) rfl hkl hinj (v := S.1.length) rfl Mm Sm (by unfold numb; rw [if_neg hin]) ?_
   intro w7 qk Mm Sm hz7
   rw [numb_snoc S.1 k hin] at Mm
   have Bg := Bg.keep qk (by omega)
   have q := q.step qk (fun k hk e => by omega)
   refine go TQ_ok 200 rfl ?_
   refine idx TQ_ok rfl rfl rfl rfl rfl j rfl hlt ?_
   refine go TQ_ok 200 rfl ?_
   refine st TQ_ok rfl rfl rfl rfl (v := eN (S.1.length)) rfl rfl Bg (by rw [lenL_eq]; simp [iL, iN]; omega) ?_
   intro w9 qk Bg hz9
   have Mm := Mm.keep qk (by omega)
   have Sm := Sm.keep qk (by omega)
   have q := q.step qk (fun k hk e => by omega)
   refine go TQ_ok 200 rfl ?_
   rw [w64_id (x := (j : Int) + 1) (by omega) (by omega)]
   have eb : (iL (iN (S.2 ++ List.replicate (ks.length - j) 0))).set (0 + j * 1) (eN (S.1.length)) = iL (iN (S.2 ++ [S.1.length] ++ List.replicate (ks.length - (j + 1)) 0)) := by
    rw [show ks.length - j = (ks.length - (j + 1)) + 1 by omega, show 0 + j * 1 = S.2.length by omega]
    exact set_row _ _ _
   rw [eb] at Bg
   refine round ⟨j + 1, rfl, ⟨by omega, q, ?_⟩, by omega⟩
   rw [hsn]
   unfold clsS
   rw [if_neg hin]
   exact ⟨⟨_, Mm⟩, by rw [List.length_append]; exact Sm, Bg⟩
 ·obtain rfl : j = ks.length := by omega
  rw [List.take_length, Nat.sub_self, List.replicate_zero, List.append_nil] at *
  refine go TQ_ok 200 rfl ?_
  refine lenM rfl rfl Try.underlying229 rfl Sm ?_
  refine go TQ_ok 200 rfl ?_
  exact ret (ret2 (v := .slice _ _ _) (x := I _) Try.results122 rfl rfl ⟨g, rfl, q, by omega, Bg⟩)
set_option maxRecDepth 20000 in
set_option maxHeartbeats 8000000 in
theorem classes3_any (ks : List (K3)) (gf : Nat) (caps : List Value) (w0 : World) (hn : ks.length ≤ 16384) (hok : callable Try.prog gf = true) (hkk : ∀ k ∈ ks, ∃ l, keyOf Try.prog 208 (ek3 k) = some l)
  (hkey : ∀ (i : Nat) k w', ks[i]? = some k → Chg No w0 w' → Ret Try.prog gf (I (i : Int) :: caps) w' fun v w'' => v = ek3 k ∧ Chg No w' w'') :
  Ret Try.prog 124 [I (ks.length : Int), .func (.func gf) #[] caps.toArray] w0 fun v w' => ∃ g, v = .tuple #[.slice (some ⟨g, 0, none⟩) ks.length ks.length, I ((clsP ks).1.length : Int)] ∧ Chg No w0 w' ∧ w0.heap.size ≤ g ∧ Bk w' g 3 (iL (iN (clsP ks).2)) := by
 refine enter Try.func124 rfl Try.ntmps124 rfl ?_
 refine go TQ_ok 200 rfl ?_
 refine mkMN (kt := 208) rfl rfl ?_
 intro mb w1 hmb hsm q Mm Sm
 have Mm := Mm (ek3) eN
 refine go TQ_ok 200 rfl ?_
 refine mkB TQ_ok rfl rfl rfl rfl rfl ks.length rfl (z := I 0) (by kernel_rfl) (v := I 0) rfl (by decide) (by unfold maxLen; omega) (by omega) ?_
 intro g w2 hg hs qk Bg
 have Mm := Mm.no qk
 have Sm := Sm.no qk
 have q := q.trans qk
 have lm := Mm.lt
 have lg := Bg.lt
 have lmg : mb < g := by omega
 have lw : w0.heap.size ≤ mb := by omega
 clear hmb hsm hg hs
 refine go TQ_ok 200 rfl ?_
 refine loop [1, 6, 7, 16, 17] (fun j : Nat => [.func (.func gf) #[] caps.toArray, .map (some mb), .slice (some ⟨g, 0, none⟩) ks.length ks.length, .int .i64 (ks.length : Int), .int .i64 (j : Int)])
  (fun j w' => j ≤ ks.length ∧ Chg No w0 w' ∧ (∃ n, Mt Try.prog 208 w' mb n (ek3) eN (numb (clsP (ks.take j)).1)) ∧ Sz w' mb (clsP (ks.take j)).1.length ∧ Bk w' g 3 (iL (iN ((clsP (ks.take j)).2 ++ List.replicate (ks.length - j) 0)))) (fun j => ks.length - j) 0 (fun _ => rfl) rfl
  ⟨Nat.zero_le _, q, ⟨0, Mm⟩, Sm, by show Bk w2 g 3 (iL (iN (List.replicate ks.length 0))); rw [iN_rep]; exact Bg⟩ ?_
 rintro j τ w3 ⟨hj, q, ⟨n, Mm⟩, Sm, Bg⟩
 refine go TQ_ok 200 rfl ?_
 refine condD rfl (fun hlt => ?_) (fun hlt => ?_)
 ·have hlt : j < ks.length := by omega
  obtain ⟨k, hk⟩ := getA_of hlt
  have hmem := List.mem_of_getElem? hk
  have hlm := Mm.lt
  have hlg := Bg.lt
  have hsn : clsP (ks.take (j + 1)) = clsS (clsP (ks.take j)) k := by rw [List.take_add_one, hk]; exact Go.Camp.clsP_snoc _ _
  have hc2 : (clsP (ks.take j)).2.length = j := by rw [cls_len, List.length_take]; omega
  generalize clsP (ks.take j) = S at *
  refine go TQ_ok 200 rfl ?_
  refine call rfl rfl rfl hok (hkey j k _ hk q) ?_
  rintro v w4 ⟨rfl, qk⟩
  have Mm := Mm.no qk
  have Sm := Sm.no qk
  have Bg := Bg.no qk
  have q := q.trans qk
  have hlg := Bg.lt
  refine go TQ_ok 200 rfl ?_
  refine nw rfl rfl (z := .agg (List.replicate 3 (I 0)).toArray) (by kernel_rfl) (cs := List.replicate 3 (I 0)) rfl ?_
  intro g9 w5 hg9 hs9 qk B9
  have Mm := Mm.no qk
  have Sm := Sm.no qk
  have Bg := Bg.no qk
  have q := q.trans qk
  have lq := q.size
  refine go TQ_ok 200 rfl ?_
  refine stArr TQ_ok rfl rfl rfl rfl (vs := tV k) rfl rfl rfl B9 rfl ?_
  intro w6 qk B9 hz6
  have B9 : Bk w6 g9 208 (tV k) := B9
  have Mm := Mm.keep qk (by omega)
  have Sm := Sm.keep qk (by omega)
  have Bg := Bg.keep qk (by omega)
  have q := q.step qk (fun k hk e => by omega)
  refine go TQ_ok 200 rfl ?_
  refine ldArr TQ_ok rfl rfl rfl rfl rfl B9.all ?_
  refine go TQ_ok 200 rfl ?_
  have hinj := ek3_inj k
  obtain hkl := hkk k hmem
  by_cases hin : k ∈ S.1
  ·refine lookS K208 rfl rfl Try.underlying230 rfl (ek := ek3) (a := k) rfl hkl hinj Mm (z := I 0) (by kernel_rfl) (v := ixN S.1 k) (by unfold numb; rw [if_pos hin]) ?_
   refine go TQ_ok 200 rfl ?_
   repeat (first | (refine gT rfl rfl rfl rfl ?_; refine go TQ_ok 200 rfl ?_) | (refine gF rfl rfl rfl rfl ?_; refine go TQ_ok 200 rfl ?_) | (refine condT rfl rfl ?_; refine go TQ_ok 200 rfl ?_) | (refine condF rfl rfl ?_; refine go TQ_ok 200 rfl ?_))
   refine go TQ_ok 200 rfl ?_
   refine idx TQ_ok rfl rfl rfl rfl rfl j rfl hlt ?_
   refine go TQ_ok 200 rfl ?_
   refine st TQ_ok rfl rfl rfl rfl (v := eN ((ixN S.1 k))) rfl rfl Bg (by rw [lenL_eq]; simp [iL, iN]; omega) ?_
   intro w9 qk Bg hz9
   have Mm := Mm.keep qk (by omega)
   have Sm := Sm.keep qk (by omega)
   have q := q.step qk (fun k hk e => by omega)
   refine go TQ_ok 200 rfl ?_
   rw [w64_id (x := (j : Int) + 1) (by omega) (by omega)]
   have eb : (iL (iN (S.2 ++ List.replicate (ks.length - j) 0))).set (0 + j * 1) (eN ((ixN S.1 k))) = iL (iN (S.2 ++ [(ixN S.1 k)] ++ List.replicate (ks.length - (j + 1)) 0)) := by
    rw [show ks.length - j = (ks.length - (j + 1)) + 1 by omega, show 0 + j * 1 = S.2.length by omega]
    exact set_row _ _ _
   rw [eb] at Bg
   refine round ⟨j + 1, rfl, ⟨by omega, q, ?_⟩, by omega⟩
   rw [hsn]
   unfold clsS
   rw [if_pos hin]
   exact ⟨⟨n, Mm⟩, Sm, Bg⟩
  ·refine lookN K208 rfl rfl Try.underlying230 rfl (ek := ek3) (a := k) rfl hkl hinj Mm (z := I 0) (by kernel_rfl) (by unfold numb; rw [if_neg hin]) ?_
   refine go TQ_ok 200 rfl ?_
   repeat (first | (refine gT rfl rfl rfl rfl ?_; refine go TQ_ok 200 rfl ?_) | (refine gF rfl rfl rfl rfl ?_; refine go TQ_ok 200 rfl ?_) | (refine condT rfl rfl ?_; refine go TQ_ok 200 rfl ?_) | (refine condF rfl rfl ?_; refine go TQ_ok 200 rfl ?_))
   refine lenM rfl rfl Try.underlying230 rfl Sm ?_
   refine go TQ_ok 200 rfl ?_
   refine ldArr TQ_ok rfl rfl rfl rfl rfl B9.all ?_
   refine go TQ_ok 200 rfl ?_
   refine updN K208 rfl rfl Try.underlying230 rfl (ek := ek3) (eb := eN) (a := k) rfl hkl hinj (v := S.1.length) rfl Mm Sm (by unfold numb; rw [if_neg hin]) ?_
   intro w7 qk Mm Sm hz7
   rw [numb_snoc S.1 k hin] at Mm
   have Bg := Bg.keep qk (by omega)
   have q := q.step qk (fun k hk e => by omega)
   refine go TQ_ok 200 rfl ?_
   refine idx TQ_ok rfl rfl rfl rfl rfl j rfl hlt ?_
   refine go TQ_ok 200 rfl ?_
   refine st TQ_ok rfl rfl rfl rfl (v := eN (S.1.length)) rfl rfl Bg (by rw [lenL_eq]; simp [iL, iN]; omega) ?_
   intro w9 qk Bg hz9
   have Mm := Mm.keep qk (by omega)
   have Sm := Sm.keep qk (by omega)
   have q := q.step qk (fun k hk e => by omega)
   refine go TQ_ok 200 rfl ?_
   rw [w64_id (x := (j : Int) + 1) (by omega) (by omega)]
   have eb : (iL (iN (S.2 ++ List.replicate (ks.length - j) 0))).set (0 + j * 1) (eN (S.1.length)) = iL (iN (S.2 ++ [S.1.length] ++ List.replicate (ks.length - (j + 1)) 0)) := by
    rw [show ks.length - j = (ks.length - (j + 1)) + 1 by omega, show 0 + j * 1 = S.2.length by omega]
    exact set_row _ _ _
   rw [eb] at Bg
   refine round ⟨j + 1, rfl, ⟨by omega, q, ?_⟩, by omega⟩
   rw [hsn]
   unfold clsS
   rw [if_neg hin]
   exact ⟨⟨_, Mm⟩, by rw [List.length_append]; exact Sm, Bg⟩
 ·obtain rfl : j = ks.length := by omega
  rw [List.take_length, Nat.sub_self, List.replicate_zero, List.append_nil] at *
  refine go TQ_ok 200 rfl ?_
  refine lenM rfl rfl Try.underlying230 rfl Sm ?_
  refine go TQ_ok 200 rfl ?_
  exact ret (ret2 (v := .slice _ _ _) (x := I _) Try.results124 rfl rfl ⟨g, rfl, q, by omega, Bg⟩)
end Go.Proofs.Yteenhfnamjbaiaa
namespace Go.Proofs.Yteenhfnamjbaiaa
open Go.Ev Go.Proofs
open Go.Camp (Sc ScOk Sc8 clsP clsS cls_len ixN)
attribute [local irreducible] At AtH
def nV (k : Int × Int) : List Value := [I k.1, I k.2]
theorem nV_len (k : Int × Int) : (nV k).length = 2 := rfl
theorem bV_len (k : Bool × Bool) : (bV k).length = 2 := rfl
structure Scm where
 N : Sli (Int × Int)
 O : Sli (Bool × Bool)
def scP (m : Scm) : Sc := ⟨m.N.l, m.O.l⟩
def scL (m : Scm) : List Value := [.slice m.N.A m.N.l.length m.N.c, .slice m.O.A m.O.l.length m.O.c]
structure ScM (w : World) (B : Nat) (m : Scm) : Prop where
 n : Sl w B 2 m.N.A m.N.l.length (m.N.l.flatMap nV)
 o : Sl w B 2 m.O.A m.O.l.length (m.O.l.flatMap bV)
 ln : m.N.l.length ≤ 9223372036854775807
 lo : m.O.l.length ≤ 9223372036854775807
theorem ScM.keep {w w' : World} {B : Nat} {m : Scm} {M : Nat → Prop} (h : ScM w B m) (c : Chg M w w') (hm : ∀ k, k < B → ¬ M k) : ScM w' B m := ⟨h.n.keep c hm, h.o.keep c hm, h.ln, h.lo⟩
theorem ScM.no {w w' : World} {B : Nat} {m : Scm} (h : ScM w B m) (c : Chg No w w') : ScM w' B m := h.keep c fun _ _ h => h
def NxOk (n : Nat) (p : Int × Int) : Prop := (0 ≤ p.1 ∧ p.1 ≤ (n : Int) - 1) ∧ 0 ≤ p.2 ∧ p.2 ≤ (n : Int) - 1
set_option maxRecDepth 20000 in
set_option maxHeartbeats 8000000 in
theorem scans_any (m : Scm) (B : Nat) (w0 : World) (H : ScM w0 B m) : Ret Try.prog 90 [.agg (scL m).toArray] w0 fun v w' => (∃ b, v = .bool b ∧ (b = true ↔ Sc8 (scP m))) ∧ Chg No w0 w' := by
 have ln := H.ln
 have lo := H.lo
 refine enter Try.func90 rfl Try.ntmps90 rfl ?_
 refine go TQ_ok 200 rfl ?_
 refine bx rfl rfl rfl (cs := scL m) rfl ?_
 intro g1 u1 hg1 hs1 q1 B1
 have q := q1
 refine go TQ_ok 200 rfl ?_
 repeat ((first | refine ldA TQ_ok rfl rfl rfl rfl rfl (Bk.all B1) ?_ | refine ld TQ_ok rfl rfl rfl rfl (Bk.get B1 rfl) ?_ | refine gT rfl rfl rfl rfl ?_ | refine gF rfl rfl rfl rfl ?_ | refine condT rfl rfl ?_ | refine condF rfl rfl ?_); refine go TQ_ok 200 rfl ?_)
 refine loop [1, 6, 7, 8] (fun j : Nat => [.pointer (some ⟨g1, 0, none⟩), .slice m.N.A m.N.l.length m.N.c, .int .i64 (m.N.l.length : Int), .int .i64 (j : Int)])
  (fun j w' => j ≤ m.N.l.length ∧ Chg No w0 w' ∧ Bk w' g1 77 (scL m) ∧ ∀ i p, i < j → m.N.l[i]? = some p → NxOk m.N.l.length p) (fun j => m.N.l.length - j) 0 (fun _ => rfl) rfl ⟨Nat.zero_le _, q, B1, fun i s h => absurd h (Nat.not_lt_zero _)⟩ ?_
 rintro j τ w ⟨hj, q, B1, hm⟩
 have H1 := H.no q
 have l1 := B1.lt
 refine go TQ_ok 200 rfl ?_
 repeat ((first | refine ldA TQ_ok rfl rfl rfl rfl rfl (Bk.all B1) ?_ | refine ld TQ_ok rfl rfl rfl rfl (Bk.get B1 rfl) ?_ | refine gT rfl rfl rfl rfl ?_ | refine gF rfl rfl rfl rfl ?_ | refine condT rfl rfl ?_ | refine condF rfl rfl ?_); refine go TQ_ok 200 rfl ?_)
 refine condD rfl (fun hlt => ?_) (fun hlt => ?_)
 ·have hlt : j < m.N.l.length := by omega
  obtain ⟨p, hp⟩ := getA_of hlt
  obtain ⟨b1, o1, hA1, hb1, hc1⟩ := Sl.el H1.n nV_len hp
  have hmp : p ∈ (scP m).nx := List.mem_of_getElem? hp
  refine go TQ_ok 200 rfl ?_
  rw [hA1]
  refine idx TQ_ok rfl rfl rfl rfl rfl j rfl hlt ?_
  refine go TQ_ok 200 rfl ?_
  refine ldArr TQ_ok rfl rfl rfl rfl rfl hc1 ?_
  rw [← hA1]
  refine go TQ_ok 200 rfl ?_
  refine nw rfl rfl (z := .agg #[I 0, I 0]) (by kernel_rfl) (cs := [I 0, I 0]) rfl ?_
  intro g4 w hg4 hs4 qk B4
  have B1 := B1.no qk
  have q := q.trans qk
  have lq := q.size
  refine go TQ_ok 200 rfl ?_
  refine stArr TQ_ok rfl rfl rfl rfl (vs := nV p) rfl rfl rfl B4 rfl ?_
  intro w qk B4 hz4
  have B4 : Bk w g4 124 (nV p) := B4
  have B1 := B1.keep qk (by omega)
  have q := q.step qk (fun k hk e => by omega)
  refine go TQ_ok 200 rfl ?_
  refine idxA TQ_ok rfl rfl rfl rfl rfl 0 rfl (by decide) ?_
  refine go TQ_ok 200 rfl ?_
  refine ld TQ_ok rfl rfl rfl rfl (B4.get (i := 0) rfl) ?_
  refine go TQ_ok 200 rfl ?_
  refine go TQ_ok 200 rfl ?_
  repeat ((first | refine ldA TQ_ok rfl rfl rfl rfl rfl (Bk.all B1) ?_ | refine ldA TQ_ok rfl rfl rfl rfl rfl (Bk.all B4) ?_ | refine ld TQ_ok rfl rfl rfl rfl (Bk.get B1 rfl) ?_ | refine ld TQ_ok rfl rfl rfl rfl (Bk.get B4 rfl) ?_ | refine gT rfl rfl rfl rfl ?_ | refine gF rfl rfl rfl rfl ?_ | refine condT rfl rfl ?_ | refine condF rfl rfl ?_); refine go TQ_ok 200 rfl ?_)
  rw [w64_id (x := (m.N.l.length : Int) - 1) (by omega) (by omega)]
  refine call rfl rfl rfl (ok _ (by decide) rfl) (within_any p.1 0 ((m.N.l.length : Int) - 1) _) ?_
  rintro x w ⟨rfl, rfl⟩
  by_cases h1 : 0 ≤ p.1 ∧ p.1 ≤ (m.N.l.length : Int) - 1
  case neg =>
   rw [decide_eq_false h1]
   refine go TQ_ok 200 rfl ?_
   repeat ((first | refine ldA TQ_ok rfl rfl rfl rfl rfl (Bk.all B1) ?_ | refine ldA TQ_ok rfl rfl rfl rfl rfl (Bk.all B4) ?_ | refine ld TQ_ok rfl rfl rfl rfl (Bk.get B1 rfl) ?_ | refine ld TQ_ok rfl rfl rfl rfl (Bk.get B4 rfl) ?_ | refine gT rfl rfl rfl rfl ?_ | refine gF rfl rfl rfl rfl ?_ | refine condT rfl rfl ?_ | refine condF rfl rfl ?_); refine go TQ_ok 200 rfl ?_)
   exact ret (ret1 (v := .bool false) Try.results90 rfl ⟨⟨false, rfl, fun e => (by cases e), fun h => absurd (h.1.nx p hmp).1 h1⟩, q⟩)
  rw [decide_eq_true h1]
  refine go TQ_ok 200 rfl ?_
  repeat ((first | refine ldA TQ_ok rfl rfl rfl rfl rfl (Bk.all B1) ?_ | refine ldA TQ_ok rfl rfl rfl rfl rfl (Bk.all B4) ?_ | refine ld TQ_ok rfl rfl rfl rfl (Bk.get B1 rfl) ?_ | refine ld TQ_ok rfl rfl rfl rfl (Bk.get B4 rfl) ?_ | refine gT rfl rfl rfl rfl ?_ | refine gF rfl rfl rfl rfl ?_ | refine condT rfl rfl ?_ | refine condF rfl rfl ?_); refine go TQ_ok 200 rfl ?_)
  refine go TQ_ok 200 rfl ?_
  refine idxA TQ_ok rfl rfl rfl rfl rfl 1 rfl (by decide) ?_
  refine go TQ_ok 200 rfl ?_
  refine ld TQ_ok rfl rfl rfl rfl (B4.get (i := 1) rfl) ?_
  refine go TQ_ok 200 rfl ?_
  refine go TQ_ok 200 rfl ?_
  repeat ((first | refine ldA TQ_ok rfl rfl rfl rfl rfl (Bk.all B1) ?_ | refine ldA TQ_ok rfl rfl rfl rfl rfl (Bk.all B4) ?_ | refine ld TQ_ok rfl rfl rfl rfl (Bk.get B1 rfl) ?_ | refine ld TQ_ok rfl rfl rfl rfl (Bk.get B4 rfl) ?_ | refine gT rfl rfl rfl rfl ?_ | refine gF rfl rfl rfl rfl ?_ | refine condT rfl rfl ?_ | refine condF rfl rfl ?_); refine go TQ_ok 200 rfl ?_)
  rw [w64_id (x := (m.N.l.length : Int) - 1) (by omega) (by omega)]
  refine call rfl rfl rfl (ok _ (by decide) rfl) (within_any p.2 0 ((m.N.l.length : Int) - 1) _) ?_
  rintro x w ⟨rfl, rfl⟩
  by_cases h2 : 0 ≤ p.2 ∧ p.2 ≤ (m.N.l.length : Int) - 1
  case neg =>
   rw [decide_eq_false h2]
   refine go TQ_ok 200 rfl ?_
   repeat ((first | refine ldA TQ_ok rfl rfl rfl rfl rfl (Bk.all B1) ?_ | refine ldA TQ_ok rfl rfl rfl rfl rfl (Bk.all B4) ?_ | refine ld TQ_ok rfl rfl rfl rfl (Bk.get B1 rfl) ?_ | refine ld TQ_ok rfl rfl rfl rfl (Bk.get B4 rfl) ?_ | refine gT rfl rfl rfl rfl ?_ | refine gF rfl rfl rfl rfl ?_ | refine condT rfl rfl ?_ | refine condF rfl rfl ?_); refine go TQ_ok 200 rfl ?_)
   exact ret (ret1 (v := .bool false) Try.results90 rfl ⟨⟨false, rfl, fun e => (by cases e), fun h => absurd (h.1.nx p hmp).2 h2⟩, q⟩)
  rw [decide_eq_true h2]
  refine go TQ_ok 200 rfl ?_
  repeat ((first | refine ldA TQ_ok rfl rfl rfl rfl rfl (Bk.all B1) ?_ | refine ldA TQ_ok rfl rfl rfl rfl rfl (Bk.all B4) ?_ | refine ld TQ_ok rfl rfl rfl rfl (Bk.get B1 rfl) ?_ | refine ld TQ_ok rfl rfl rfl rfl (Bk.get B4 rfl) ?_ | refine gT rfl rfl rfl rfl ?_ | refine gF rfl rfl rfl rfl ?_ | refine condT rfl rfl ?_ | refine condF rfl rfl ?_); refine go TQ_ok 200 rfl ?_)
  rw [w64_id (x := (j : Int) + 1) (by omega) (by omega)]
  refine round ⟨j + 1, rfl, ⟨by omega, q, B1, fun i p' hi hp' => ?_⟩, by omega⟩
  rcases Nat.lt_or_ge i j with h' | h'
  ·exact hm i p' h' hp'
  ·obtain rfl : i = j := by omega
   rw [hp] at hp'; cases hp'
   exact ⟨h1, h2⟩
 obtain rfl : j = m.N.l.length := by omega
 have hall : ∀ p ∈ m.N.l, NxOk m.N.l.length p := fun p hp => by
  obtain ⟨i, hi, rfl⟩ := List.getElem_of_mem hp
  exact hm i _ hi (List.getElem?_eq_getElem hi)
 refine go TQ_ok 200 rfl ?_
 repeat ((first | refine ldA TQ_ok rfl rfl rfl rfl rfl (Bk.all B1) ?_ | refine ldA TQ_ok rfl rfl rfl rfl rfl (Bk.all B4) ?_ | refine ld TQ_ok rfl rfl rfl rfl (Bk.get B1 rfl) ?_ | refine ld TQ_ok rfl rfl rfl rfl (Bk.get B4 rfl) ?_ | refine gT rfl rfl rfl rfl ?_ | refine gF rfl rfl rfl rfl ?_ | refine condT rfl rfl ?_ | refine condF rfl rfl ?_); refine go TQ_ok 200 rfl ?_)
 refine call rfl rfl rfl (ok _ (by decide) rfl) (within_any (m.N.l.length : Int) 1 128 _) ?_
 rintro x w ⟨rfl, rfl⟩
 by_cases h1 : 1 ≤ (m.N.l.length : Int) ∧ (m.N.l.length : Int) ≤ 128
 case neg =>
  rw [decide_eq_false h1]
  refine go TQ_ok 200 rfl ?_
  repeat ((first | refine ldA TQ_ok rfl rfl rfl rfl rfl (Bk.all B1) ?_ | refine ldA TQ_ok rfl rfl rfl rfl rfl (Bk.all B4) ?_ | refine ld TQ_ok rfl rfl rfl rfl (Bk.get B1 rfl) ?_ | refine ld TQ_ok rfl rfl rfl rfl (Bk.get B4 rfl) ?_ | refine gT rfl rfl rfl rfl ?_ | refine gF rfl rfl rfl rfl ?_ | refine condT rfl rfl ?_ | refine condF rfl rfl ?_); refine go TQ_ok 200 rfl ?_)
  exact ret (ret1 (v := .bool false) Try.results90 rfl ⟨⟨false, rfl, fun e => (by cases e), fun h => absurd ⟨by have : 1 ≤ m.N.l.length := h.1.n1; omega, by have : m.N.l.length ≤ 128 := h.2; omega⟩ h1⟩, q⟩)
 rw [decide_eq_true h1]
 refine go TQ_ok 200 rfl ?_
 repeat ((first | refine ldA TQ_ok rfl rfl rfl rfl rfl (Bk.all B1) ?_ | refine ldA TQ_ok rfl rfl rfl rfl rfl (Bk.all B4) ?_ | refine ld TQ_ok rfl rfl rfl rfl (Bk.get B1 rfl) ?_ | refine ld TQ_ok rfl rfl rfl rfl (Bk.get B4 rfl) ?_ | refine gT rfl rfl rfl rfl ?_ | refine gF rfl rfl rfl rfl ?_ | refine condT rfl rfl ?_ | refine condF rfl rfl ?_); refine go TQ_ok 200 rfl ?_)
 by_cases h2 : m.O.l.length = m.N.l.length
 ·have e : ((m.O.l.length : Int) == (m.N.l.length : Int)) = true := by simp [h2]
  rw [e]
  refine go TQ_ok 200 rfl ?_
  repeat ((first | refine ldA TQ_ok rfl rfl rfl rfl rfl (Bk.all B1) ?_ | refine ldA TQ_ok rfl rfl rfl rfl rfl (Bk.all B4) ?_ | refine ld TQ_ok rfl rfl rfl rfl (Bk.get B1 rfl) ?_ | refine ld TQ_ok rfl rfl rfl rfl (Bk.get B4 rfl) ?_ | refine gT rfl rfl rfl rfl ?_ | refine gF rfl rfl rfl rfl ?_ | refine condT rfl rfl ?_ | refine condF rfl rfl ?_); refine go TQ_ok 200 rfl ?_)
  exact ret (ret1 (v := .bool true) Try.results90 rfl ⟨⟨true, rfl, fun _ => ⟨⟨by show 1 ≤ m.N.l.length; omega, by show m.N.l.length ≤ 16384; omega, h2, hall⟩, by show m.N.l.length ≤ 128; omega⟩, fun _ => rfl⟩, q⟩)
 ·have e : ((m.O.l.length : Int) == (m.N.l.length : Int)) = false := by simp; omega
  rw [e]
  refine go TQ_ok 200 rfl ?_
  repeat ((first | refine ldA TQ_ok rfl rfl rfl rfl rfl (Bk.all B1) ?_ | refine ldA TQ_ok rfl rfl rfl rfl rfl (Bk.all B4) ?_ | refine ld TQ_ok rfl rfl rfl rfl (Bk.get B1 rfl) ?_ | refine ld TQ_ok rfl rfl rfl rfl (Bk.get B4 rfl) ?_ | refine gT rfl rfl rfl rfl ?_ | refine gF rfl rfl rfl rfl ?_ | refine condT rfl rfl ?_ | refine condF rfl rfl ?_); refine go TQ_ok 200 rfl ?_)
  exact ret (ret1 (v := .bool false) Try.results90 rfl ⟨⟨false, rfl, fun e => (by cases e), fun h => absurd h.1.al h2⟩, q⟩)
theorem part_any (b : Bool) (w : World) : Ret Try.prog 91 [.bool b] w fun v w' => v = I (if b then 1 else 0) ∧ w = w' := by
 refine enter Try.func91 rfl Try.ntmps91 rfl ?_
 cases b with
 | true =>
  refine go TQ_ok 200 rfl ?_
  repeat (first | (refine gT rfl rfl rfl rfl ?_; refine go TQ_ok 200 rfl ?_) | (refine gF rfl rfl rfl rfl ?_; refine go TQ_ok 200 rfl ?_) | (refine condT rfl rfl ?_; refine go TQ_ok 200 rfl ?_) | (refine condF rfl rfl ?_; refine go TQ_ok 200 rfl ?_))
  exact ret (ret1 (v := I 1) Try.results91 rfl ⟨rfl, rfl⟩)
 | false =>
  refine go TQ_ok 200 rfl ?_
  repeat (first | (refine gT rfl rfl rfl rfl ?_; refine go TQ_ok 200 rfl ?_) | (refine gF rfl rfl rfl rfl ?_; refine go TQ_ok 200 rfl ?_) | (refine condT rfl rfl ?_; refine go TQ_ok 200 rfl ?_) | (refine condF rfl rfl ?_; refine go TQ_ok 200 rfl ?_))
  exact ret (ret1 (v := I 0) Try.results91 rfl ⟨rfl, rfl⟩)
end Go.Proofs.Yteenhfnamjbaiaa
namespace Go.Proofs.Yteenhfnamjbaiaa
open Go.Ev Go.Proofs
open Go.Camp (Sc ScOk nxA addN reachR reachP Among)
attribute [local irreducible] At AtH
def metR (n : Nat) (l : List Nat) : List Value := (List.range n).map fun k => .bool (decide (k ∈ l))
theorem metR_len (n : Nat) (l : List Nat) : (metR n l).length = n := by simp [metR]
theorem metR_get {n : Nat} {l : List Nat} {k : Nat} (h : k < n) : (metR n l)[k]? = some (.bool (decide (k ∈ l))) := by
 unfold metR
 rw [List.getElem?_map, List.getElem?_range h]
 rfl
theorem metR_set {n : Nat} {l : List Nat} {k : Nat} : (metR n l).set k (.bool true) = metR n (l ++ [k]) := by
 refine List.ext_getElem (by simp [metR]) fun i h1 h2 => ?_
 rw [List.getElem_set]
 simp only [metR, List.getElem_map, List.getElem_range, List.mem_append, List.mem_singleton]
 split
 ·rename_i e; subst e; simp
 ·rename_i e
  have : ¬ i = k := fun h => e h.symm
  simp [this]
theorem metR_nil (n : Nat) : metR n [] = List.replicate (n * 1) (.bool false) := by
 refine List.ext_getElem (by simp [metR]) fun i h1 h2 => ?_
 simp [metR]
def sucJ (a b : Nat) (l : List Nat) (j : Nat) : List Nat := if j = 0 then l else if j = 1 then addN l a else addN (addN l a) b
set_option maxRecDepth 20000 in
set_option maxHeartbeats 8000000 in
theorem reached_any (m : Scm) (B : Nat) (w0 : World) (H : ScM w0 B m) (h : ScOk (scP m)) : Ret Try.prog 121 [.agg (scL m).toArray] w0 fun v w' => ∃ A c, v = .slice A (reachP (scP m)).length c ∧ Chg No w0 w' ∧ w'.ownsRow w0.heap.size 3 1 (.slice A (reachP (scP m)).length c) (reachP (scP m)).length (iL (iN (reachP (scP m)))) := by
 have n1 : 1 ≤ m.N.l.length := h.n1
 have n2 : m.N.l.length ≤ 16384 := h.n2
 have hst : (scP m).nx = m.N.l := rfl
 refine enter Try.func121 rfl Try.ntmps121 rfl ?_
 refine go TQ_ok 200 rfl ?_
 refine bx rfl rfl rfl (cs := scL m) rfl ?_
 intro g1 u1 hg1 hs1 q1 B1
 have q := q1
 refine go TQ_ok 200 rfl ?_
 refine row TQ_ok rfl rfl rfl rfl rfl rfl (cs := [I 0]) rfl ?_
 intro g3 w hg3 hs3 qk B3 hl3
 have o3 := B3.own hl3 (by decide)
 have B1 := B1.no qk
 have q := q.trans qk
 refine go TQ_ok 200 rfl ?_
 repeat ((first | refine ldA TQ_ok rfl rfl rfl rfl rfl (Bk.all B1) ?_ | refine ld TQ_ok rfl rfl rfl rfl (Bk.get B1 rfl) ?_ | refine gT rfl rfl rfl rfl ?_ | refine gF rfl rfl rfl rfl ?_ | refine condT rfl rfl ?_ | refine condF rfl rfl ?_); refine go TQ_ok 200 rfl ?_)
 refine mkB TQ_ok rfl rfl rfl rfl rfl m.N.l.length rfl (z := .bool false) (by kernel_rfl) (v := .bool false) rfl (by decide) (by unfold maxLen; omega) (by omega) ?_
 intro gm w hgm hsm qk Bm
 have o3 := own_no o3 qk
 have l1 := B1.lt
 have B1 := B1.no qk
 have q := q.trans qk
 refine go TQ_ok 200 rfl ?_
 refine idx TQ_ok rfl rfl rfl rfl rfl 0 rfl (by omega) ?_
 refine go TQ_ok 200 rfl ?_
 refine st TQ_ok rfl rfl rfl rfl (v := .bool true) rfl rfl Bm (by rw [lenL_eq]; simp; omega) ?_
 intro w qk Bm hzm
 have Bm : Bk w gm 4 (metR m.N.l.length [0]) := by
  rw [← metR_nil] at Bm
  exact (metR_set (l := [])) ▸ Bm
 have o3 := own_keep o3 qk (fun k e hh => by simp [Value.ownBlock] at e; omega)
 have B1 := B1.keep qk (by omega)
 have q := q.step qk (fun k hk e => by omega)
 have u13 : g1 < g3 := by omega
 have u3m : g3 < gm := by omega
 have hw0 : w0.heap.size ≤ g1 := by omega
 have own3 : w.ownsRow w0.heap.size 3 1 (.slice (some ⟨g3, 0, none⟩) [0].length 1) [0].length (iL (iN [0])) := own_base o3 (by omega)
 have hne3 : ∀ k, (Value.slice (some ⟨g3, 0, none⟩) 1 1).ownBlock = some k → k ≠ g1 ∧ k ≠ gm := fun k e => by simp [Value.ownBlock] at e; omega
 clear hg3 hs3 hgm hsm hzm o3 hg1 hs1
 refine go TQ_ok 200 rfl ?_
 refine loop [1, 3, 4, 5] (fun x : Nat × List Nat × Option Addr × Nat => [.pointer (some ⟨g1, 0, none⟩), .slice x.2.2.1 x.2.1.length x.2.2.2, .slice (some ⟨gm, 0, none⟩) m.N.l.length m.N.l.length, .int .i64 (x.1 : Int)])
  (fun x w' => x.1 ≤ x.2.1.length ∧ Among m.N.l.length x.2.1 ∧ reachR (scP m) (m.N.l.length - x.1) x.1 x.2.1 = reachP (scP m) ∧ Chg No w0 w' ∧ Bk w' g1 77 (scL m) ∧ Bk w' gm 4 (metR m.N.l.length x.2.1) ∧ w'.ownsRow w0.heap.size 3 1 (.slice x.2.2.1 x.2.1.length x.2.2.2) x.2.1.length (iL (iN x.2.1)) ∧ ∀ k, (Value.slice x.2.2.1 x.2.1.length x.2.2.2).ownBlock = some k → k ≠ g1 ∧ k ≠ gm)
  (fun x => m.N.l.length - x.1) (0, [0], some ⟨g3, 0, none⟩, 1) (fun _ => rfl) rfl ⟨by simp, ⟨by simp, by simp; omega⟩, rfl, q, B1, Bm, own3, hne3⟩ ?_
 rintro ⟨i, l, A, c⟩ τ w ⟨hi, ham, hrr, q, B1, Bm, own, hne⟩
 simp only at hi ham hrr Bm own hne
 dsimp only
 have hll := ham.len
 refine go TQ_ok 200 rfl ?_
 refine condD rfl (fun hlt => ?_) (fun hlt => ?_)
 ·have hlt : i < l.length := by have : (i : Int) < (l.length : Int) := hlt; omega
  obtain ⟨x, hx⟩ := getA_of hlt
  have hxn := ham.lt x (List.mem_of_getElem? hx)
  obtain ⟨p, hp⟩ := getA_of (l := m.N.l) hxn
  have hpok := h.nx p (List.mem_of_getElem? hp)
  have hpn : nxA (scP m) x = (p.1.toNat, p.2.toNat) := by unfold nxA; rw [hst, hp]
  have H1 := H.no q
  obtain ⟨b1, o1, hA1, hb1, hc1⟩ := Sl.el H1.n nV_len hp
  have S2 : Sl w w.heap.size 1 A (iN l).length (iL (iN l)) := by rw [show (iN l).length = l.length by simp [iN]]; exact own_sl own
  obtain ⟨b2, o2, hA2, hb2, hc2⟩ := S2.elI (j := i) (x := (x : Int)) (by unfold iN; rw [List.getElem?_map, hx]; rfl)
  have hBB := H1.n.2.1
  refine go TQ_ok 200 rfl ?_
  refine draw mixed (fun w' => Chg No w w') ([0,1,2,3,4,5,6,7,8].map (fun i => (i, true))) rfl (by kernel_rfl) (Chg.drew _) ?_
  refine goH TQ_ok 200 rfl ?_
  repeat (first | (refine quietH rfl (fun w' hS => r_load TQ_ok rfl rfl rfl (Bk.get (B1.no hS) rfl)) ?_; refine goH TQ_ok 200 rfl ?_))
  rw [hA2]
  refine quietH rfl (fun w' hS => r_idx TQ_ok rfl rfl rfl rfl i rfl hlt) ?_
  refine goH TQ_ok 200 rfl ?_
  refine quietH rfl (fun w' hS => r_load TQ_ok rfl rfl rfl ((hS.cell (a := ⟨b2, o2 + i * 1, none⟩) hb2 (fun h => h)).trans hc2)) ?_
  rw [← hA2]
  refine goH TQ_ok 200 rfl ?_
  rw [hA1]
  refine quietH rfl (fun w' hS => r_idx TQ_ok rfl rfl rfl rfl x rfl hxn) ?_
  refine goH TQ_ok 200 rfl ?_
  refine quietH rfl (fun w' hS => r_loadArr TQ_ok rfl rfl rfl rfl (hc1.keep (by omega) hS (fun h => h))) ?_
  rw [← hA1]
  refine goH TQ_ok 200 rfl ?_
  refine endH ?_
  have B1 := B1.no (Chg.drew w)
  have Bm := Bm.no (Chg.drew w)
  have own := own_no own (Chg.drew w)
  have q := q.trans (Chg.drew w)
  generalize w.drew = w2 at *
  have hrs : reachR (scP m) (m.N.l.length - i) i l = reachR (scP m) (m.N.l.length - (i + 1)) (i + 1) (sucJ p.1.toNat p.2.toNat l 2) := by
   rw [show m.N.l.length - i = (m.N.l.length - (i + 1)) + 1 by omega]
   show (match l[i]? with | none => l | some x => reachR (scP m) (m.N.l.length - (i + 1)) (i + 1) (addN (addN l (nxA (scP m) x).1) (nxA (scP m) x).2)) = _
   rw [hx]
   show reachR _ _ _ (addN (addN l (nxA (scP m) x).1) (nxA (scP m) x).2) = _
   rw [hpn]
   rfl
  have ha1 := ham.add (k := p.1.toNat) (by have := hpok.1; have e : ((scP m).nx.length : Int) = m.N.l.length := rfl; omega)
  have ha2 := ha1.add (k := p.2.toNat) (by have := hpok.2; have e : ((scP m).nx.length : Int) = m.N.l.length := rfl; omega)
  have hams : ∀ j, Among m.N.l.length (sucJ p.1.toNat p.2.toNat l j) := fun j => by
   unfold sucJ
   split
   ·exact ham
   ·split
    ·exact ha1
    ·exact ha2
  have hil : ∀ j, i < (sucJ p.1.toNat p.2.toNat l j).length := fun j => by
   have e1 := (List.getElem?_eq_some_iff.1 (Go.Camp.addN_get (k := p.1.toNat) hx)).1
   have e2 := (List.getElem?_eq_some_iff.1 (Go.Camp.addN_get (k := p.2.toNat) (Go.Camp.addN_get (k := p.1.toNat) hx))).1
   unfold sucJ
   split
   ·exact hlt
   ·split
    ·exact e1
    ·exact e2
  obtain ⟨F, hF⟩ : ∃ F : Nat → List Nat, F = sucJ p.1.toNat p.2.toNat l := ⟨_, rfl⟩
  have hF0 : l = F 0 := by rw [hF]; rfl
  rw [← hF] at hrs hams hil
  refine go TQ_ok 200 rfl ?_
  refine loop [1, 3, 4, 5, 28, 29] (fun x : Nat × List Nat × Option Addr × Nat => [.pointer (some ⟨g1, 0, none⟩), .slice x.2.2.1 x.2.1.length x.2.2.2, .slice (some ⟨gm, 0, none⟩) m.N.l.length m.N.l.length, .int .i64 (i : Int), .agg (nV p).toArray, .int .i64 (x.1 : Int)])
   (fun x w' => x.1 ≤ 2 ∧ x.2.1 = F x.1 ∧ Chg No w0 w' ∧ Bk w' g1 77 (scL m) ∧ Bk w' gm 4 (metR m.N.l.length x.2.1) ∧ w'.ownsRow w0.heap.size 3 1 (.slice x.2.2.1 x.2.1.length x.2.2.2) x.2.1.length (iL (iN x.2.1)) ∧ ∀ k, (Value.slice x.2.2.1 x.2.1.length x.2.2.2).ownBlock = some k → k ≠ g1 ∧ k ≠ gm)
   (fun x => 2 - x.1) (0, l, A, c) (fun _ => rfl) rfl ⟨by simp, hF0, q, B1, Bm, own, hne⟩ ?_
  rintro ⟨j, l2, A2, c2⟩ τ w3 ⟨hj, hl2, q, B1, Bm, own, hne⟩
  simp only at hj hl2 Bm own hne
  dsimp only
  have ham2 := hams j
  have hil2 := hil j
  rw [← hl2] at ham2 hil2
  have hll2 := ham2.len
  refine go TQ_ok 200 rfl ?_
  refine condD rfl (fun hlt => ?_) (fun hlt => ?_)
  ·have hlt : j < 2 := by have : (j : Int) < 2 := hlt; omega
   obtain hj' | hj' : j = 0 ∨ j = 1 := by omega
   ·skip
    subst hj'
    refine go TQ_ok 200 rfl ?_
    refine ix1 TQ_ok rfl rfl rfl rfl rfl 0 rfl (by decide) rfl ?_
    obtain ⟨y, hy⟩ : ∃ y : Nat, p.1 = (y : Int) := ⟨(p.1).toNat, by have := hpok.1; have := hpok.2; omega⟩
    have hyn : y < m.N.l.length := by have := hpok.1; have := hpok.2; have e : ((scP m).nx.length : Int) = m.N.l.length := rfl; omega
    have hsj : F (0 + 1) = addN l2 y := by
     rw [hl2, hF, show y = (p.1).toNat by omega]
     rfl
    rw [hy]
    refine go TQ_ok 200 rfl ?_
    refine idx TQ_ok rfl rfl rfl rfl rfl y rfl hyn ?_
    refine go TQ_ok 200 rfl ?_
    have hgm : (metR m.N.l.length l2)[0 + y * 1]? = some (.bool (decide (y ∈ l2))) := by rw [show 0 + y * 1 = y by omega]; exact metR_get hyn
    refine ld TQ_ok rfl rfl rfl rfl (Bm.getE hgm) ?_
    by_cases hin : y ∈ l2
    ·rw [decide_eq_true hin]
     refine go TQ_ok 200 rfl ?_
     repeat (first | (refine gT rfl rfl rfl rfl ?_; refine go TQ_ok 200 rfl ?_) | (refine gF rfl rfl rfl rfl ?_; refine go TQ_ok 200 rfl ?_) | (refine condT rfl rfl ?_; refine go TQ_ok 200 rfl ?_) | (refine condF rfl rfl ?_; refine go TQ_ok 200 rfl ?_))
     exact round ⟨(0 + 1, l2, A2, c2), rfl, ⟨by simp, by show l2 = _; rw [hsj]; unfold addN; rw [if_pos hin], q, B1, Bm, own, hne⟩, by simp⟩
    ·rw [decide_eq_false hin]
     refine go TQ_ok 200 rfl ?_
     repeat (first | (refine gT rfl rfl rfl rfl ?_; refine go TQ_ok 200 rfl ?_) | (refine gF rfl rfl rfl rfl ?_; refine go TQ_ok 200 rfl ?_) | (refine condT rfl rfl ?_; refine go TQ_ok 200 rfl ?_) | (refine condF rfl rfl ?_; refine go TQ_ok 200 rfl ?_))
     refine idx TQ_ok rfl rfl rfl rfl rfl y rfl hyn ?_
     refine go TQ_ok 200 rfl ?_
     refine st TQ_ok rfl rfl rfl rfl (v := .bool true) rfl rfl Bm (by rw [lenL_eq, metR_len]; simp; omega) ?_
     intro w4 qk Bm hz4
     have Bm : Bk w4 gm 4 (metR m.N.l.length (l2 ++ [y])) := by
      rw [← metR_set]
      rw [show 0 + y * 1 = y by omega] at Bm
      exact Bm
     have l1 := B1.lt
     have B1 := B1.keep qk (by omega)
     have own := own_keep own qk (fun k e hh => (hne k e).2 hh)
     have hq1 := q.size
     have q := q.step qk (fun k hk e => by omega)
     have lm := Bm.lt
     refine go TQ_ok 200 rfl ?_
     have e63 : l2.length + 1 ≤ 16385 := by omega
     have eB := q.size
     refine app1 TQ_ok rfl rfl rfl rfl rfl rfl (cs := [I (y : Int)]) rfl rfl rfl rfl (fun _ => rfl) (fun _ => rfl) (fun _ => rfl) own (Nat.le_trans e63 (by decide)) (by show (l2.length + 1) * 8 ≤ 140737488355328; omega) eB ?_
     intro gx A5 c5 w5 own5 q5 hs5 hown
     have B1 := B1.keep q5 (fun e => (hne _ e).1 rfl)
     have Bm := Bm.keep q5 (fun e => (hne _ e).2 rfl)
     have q := q.step q5 (fun k hk e => by have := own_ge own e; omega)
     refine go TQ_ok 200 rfl ?_
     rw [show l2.length + 1 = (l2 ++ [y]).length by simp]
     refine round ⟨(0 + 1, l2 ++ [y], A5, c5), rfl, ⟨by simp, by show l2 ++ [y] = _; rw [hsj]; unfold addN; rw [if_neg hin], q, B1, Bm, ?_, ?_⟩, by simp⟩
     ·show w5.ownsRow w0.heap.size 3 1 (.slice A5 (l2 ++ [y]).length c5) (l2 ++ [y]).length (iL (iN (l2 ++ [y])))
      rw [iN_snoc, List.length_append]
      exact own5
     ·intro k e
      have e : (Value.slice A5 (l2.length + 1) c5).ownBlock = some k := by
       have h1 : (l2 ++ [y]).length = l2.length + 1 := by simp
       rw [← h1]; exact e
      rcases hown with hh | hh
      ·exact hne k (hh ▸ e)
      ·rw [hh] at e
       simp only [Option.some.injEq] at e
       omega
   ·skip
    subst hj'
    refine go TQ_ok 200 rfl ?_
    refine ix1 TQ_ok rfl rfl rfl rfl rfl 1 rfl (by decide) rfl ?_
    obtain ⟨y, hy⟩ : ∃ y : Nat, p.2 = (y : Int) := ⟨(p.2).toNat, by have := hpok.1; have := hpok.2; omega⟩
    have hyn : y < m.N.l.length := by have := hpok.1; have := hpok.2; have e : ((scP m).nx.length : Int) = m.N.l.length := rfl; omega
    have hsj : F (1 + 1) = addN l2 y := by
     rw [hl2, hF, show y = (p.2).toNat by omega]
     rfl
    rw [hy]
    refine go TQ_ok 200 rfl ?_
    refine idx TQ_ok rfl rfl rfl rfl rfl y rfl hyn ?_
    refine go TQ_ok 200 rfl ?_
    have hgm : (metR m.N.l.length l2)[0 + y * 1]? = some (.bool (decide (y ∈ l2))) := by rw [show 0 + y * 1 = y by omega]; exact metR_get hyn
    refine ld TQ_ok rfl rfl rfl rfl (Bm.getE hgm) ?_
    by_cases hin : y ∈ l2
    ·rw [decide_eq_true hin]
     refine go TQ_ok 200 rfl ?_
     repeat (first | (refine gT rfl rfl rfl rfl ?_; refine go TQ_ok 200 rfl ?_) | (refine gF rfl rfl rfl rfl ?_; refine go TQ_ok 200 rfl ?_) | (refine condT rfl rfl ?_; refine go TQ_ok 200 rfl ?_) | (refine condF rfl rfl ?_; refine go TQ_ok 200 rfl ?_))
     exact round ⟨(1 + 1, l2, A2, c2), rfl, ⟨by simp, by show l2 = _; rw [hsj]; unfold addN; rw [if_pos hin], q, B1, Bm, own, hne⟩, by simp⟩
    ·rw [decide_eq_false hin]
     refine go TQ_ok 200 rfl ?_
     repeat (first | (refine gT rfl rfl rfl rfl ?_; refine go TQ_ok 200 rfl ?_) | (refine gF rfl rfl rfl rfl ?_; refine go TQ_ok 200 rfl ?_) | (refine condT rfl rfl ?_; refine go TQ_ok 200 rfl ?_) | (refine condF rfl rfl ?_; refine go TQ_ok 200 rfl ?_))
     refine idx TQ_ok rfl rfl rfl rfl rfl y rfl hyn ?_
     refine go TQ_ok 200 rfl ?_
     refine st TQ_ok rfl rfl rfl rfl (v := .bool true) rfl rfl Bm (by rw [lenL_eq, metR_len]; simp; omega) ?_
     intro w4 qk Bm hz4
     have Bm : Bk w4 gm 4 (metR m.N.l.length (l2 ++ [y])) := by
      rw [← metR_set]
      rw [show 0 + y * 1 = y by omega] at Bm
      exact Bm
     have l1 := B1.lt
     have B1 := B1.keep qk (by omega)
     have own := own_keep own qk (fun k e hh => (hne k e).2 hh)
     have hq1 := q.size
     have q := q.step qk (fun k hk e => by omega)
     have lm := Bm.lt
     refine go TQ_ok 200 rfl ?_
     have e63 : l2.length + 1 ≤ 16385 := by omega
     have eB := q.size
     refine app1 TQ_ok rfl rfl rfl rfl rfl rfl (cs := [I (y : Int)]) rfl rfl rfl rfl (fun _ => rfl) (fun _ => rfl) (fun _ => rfl) own (Nat.le_trans e63 (by decide)) (by show (l2.length + 1) * 8 ≤ 140737488355328; omega) eB ?_
     intro gx A5 c5 w5 own5 q5 hs5 hown
     have B1 := B1.keep q5 (fun e => (hne _ e).1 rfl)
     have Bm := Bm.keep q5 (fun e => (hne _ e).2 rfl)
     have q := q.step q5 (fun k hk e => by have := own_ge own e; omega)
     refine go TQ_ok 200 rfl ?_
     rw [show l2.length + 1 = (l2 ++ [y]).length by simp]
     refine round ⟨(1 + 1, l2 ++ [y], A5, c5), rfl, ⟨by simp, by show l2 ++ [y] = _; rw [hsj]; unfold addN; rw [if_neg hin], q, B1, Bm, ?_, ?_⟩, by simp⟩
     ·show w5.ownsRow w0.heap.size 3 1 (.slice A5 (l2 ++ [y]).length c5) (l2 ++ [y]).length (iL (iN (l2 ++ [y])))
      rw [iN_snoc, List.length_append]
      exact own5
     ·intro k e
      have e : (Value.slice A5 (l2.length + 1) c5).ownBlock = some k := by
       have h1 : (l2 ++ [y]).length = l2.length + 1 := by simp
       rw [← h1]; exact e
      rcases hown with hh | hh
      ·exact hne k (hh ▸ e)
      ·rw [hh] at e
       simp only [Option.some.injEq] at e
       omega
  ·have hj2 : j = 2 := by have : ¬ (j : Int) < 2 := hlt; omega
   subst hj2
   refine go TQ_ok 200 rfl ?_
   rw [w64_id (x := (i : Int) + 1) (by omega) (by omega)]
   refine round ⟨(i + 1, l2, A2, c2), rfl, ⟨by simp only; omega, ham2, ?_, q, B1, Bm, own, hne⟩, by simp only; omega⟩
   simp only
   rw [hl2, ← hrs]
   exact hrr
 ·have hil : i = l.length := by have : ¬ (i : Int) < (l.length : Int) := hlt; omega
  have hfin : l = reachP (scP m) := by
   rw [← hrr]
   cases hf : m.N.l.length - i with
   | zero => rfl
   | succ f =>
    have : l[i]? = none := List.getElem?_eq_none (by omega)
    show l = (match l[i]? with | none => l | some x => _)
    rw [this]
  refine go TQ_ok 200 rfl ?_
  rw [← hfin]
  exact ret (ret1 (v := .slice _ _ _) Try.results121 rfl ⟨A, c, rfl, q, own⟩)
end Go.Proofs.Yteenhfnamjbaiaa
namespace Go.Proofs.Yteenhfnamjbaiaa
open Go.Ev Go.Proofs
open Go.Camp (Sc ScOk nxA addN reachR reachP Among alA key2)
attribute [local irreducible] At AtH
theorem nx_at {m : Scm} (h : ScOk (scP m)) {x : Nat} (hx : x < m.N.l.length) : m.N.l[x]? = some (((nxA (scP m) x).1 : Int), ((nxA (scP m) x).2 : Int)) ∧ (nxA (scP m) x).1 < m.N.l.length ∧ (nxA (scP m) x).2 < m.N.l.length := by
 obtain ⟨p, hp⟩ := getA_of (l := m.N.l) hx
 have hst : (scP m).nx = m.N.l := rfl
 have hpn : nxA (scP m) x = (p.1.toNat, p.2.toNat) := by unfold nxA; rw [hst, hp]
 have hpok := h.nx p (List.mem_of_getElem? hp)
 have e : ((scP m).nx.length : Int) = m.N.l.length := rfl
 have := h.n1
 rw [hpn]
 refine ⟨?_, by show p.1.toNat < _; omega, by show p.2.toNat < _; omega⟩
 rw [hp]
 obtain ⟨a, b⟩ := p
 simp only at hpok ⊢
 rw [show ((a.toNat : Nat) : Int) = a by omega, show ((b.toNat : Nat) : Int) = b by omega]
theorem al_at {m : Scm} (h : ScOk (scP m)) {x : Nat} (hx : x < m.N.l.length) : m.O.l[x]? = some (alA (scP m) x) := by
 have := h.al
 obtain ⟨p, hp⟩ := getA_of (l := m.O.l) (i := x) (by show x < m.O.l.length; have e : m.O.l.length = m.N.l.length := this; omega)
 rw [hp]
 unfold alA
 show _ = some (((m.O.l)[x]?).getD _)
 rw [hp]
 rfl
/-- a slice of numbers in a variable -/
structure Vr (w : World) (B g : Nat) (A : Option Addr) (c : Nat) (l : List Nat) : Prop where
 b : Bk w g 25 [.slice A l.length c]
 s : Sl w B 1 A l.length (iL (iN l))
theorem Vr.no {w w' : World} {B g c : Nat} {A : Option Addr} {l : List Nat} (h : Vr w B g A c l) (q : Chg No w w') : Vr w' B g A c l := ⟨h.b.no q, h.s.no q⟩
theorem Vr.el {w : World} {B g c : Nat} {A : Option Addr} {l : List Nat} (h : Vr w B g A c l) {i x : Nat} (hx : l[i]? = some x) : ∃ b o, A = some ⟨b, o, none⟩ ∧ b < B ∧ w.cell? ⟨b, o + i * 1, none⟩ = some (I (x : Int)) := by
 have S2 : Sl w B 1 A (iN l).length (iL (iN l)) := by rw [show (iN l).length = l.length by simp [iN]]; exact h.s
 exact S2.elI (j := i) (x := (x : Int)) (by unfold iN; rw [List.getElem?_map, hx]; rfl)
set_option maxRecDepth 20000 in
set_option maxHeartbeats 8000000 in
theorem key1_any (m : Scm) (B g1 g3 : Nat) (A : Option Addr) (c : Nat) (l : List Nat) (i x : Nat) (w0 : World) (H : ScM w0 B m) (h : ScOk (scP m)) (B1 : Bk w0 g1 77 (scL m)) (V3 : Vr w0 B g3 A c l) (hx : l[i]? = some x) (hxn : x < m.N.l.length) :
  Ret Try.prog 123 [I (i : Int), .pointer (some ⟨g1, 0, none⟩), .pointer (some ⟨g3, 0, none⟩)] w0 fun v w' => v = ekB (alA (scP m) x) ∧ Chg No w0 w' := by
 have hil := (List.getElem?_eq_some_iff.1 hx).1
 have hal := al_at h hxn
 have hol : m.O.l.length = m.N.l.length := h.al
 refine enter Try.func123 rfl Try.ntmps123 rfl ?_
 refine go TQ_ok 200 rfl ?_
 refine nw rfl rfl (z := .agg #[.bool false, .bool false]) (by kernel_rfl) (cs := [.bool false, .bool false]) rfl ?_
 intro g4 w hg4 hs4 q B4
 have l1 := B1.lt
 have l3 := V3.b.lt
 have B1 := B1.no q
 have V3 := V3.no q
 have B3 := V3.b
 have H1 := H.no q
 have hBB := H.n.2.1
 obtain ⟨b2, o2, hA2, hb2, hc2⟩ := V3.el hx
 obtain ⟨b1, o1, hA1, hb1, hc1⟩ := Sl.el H1.o bV_len hal
 refine go TQ_ok 200 rfl ?_
 refine draw mixed (fun w' => Chg (fun k => k = g4) w w') ([0,1,2,3,4,5,6,7].map (fun i => (i, true)) ++ [(8, false)]) rfl (by kernel_rfl) ((Chg.drew _).mono fun _ _ h => h.elim) ?_
 refine goH TQ_ok 200 rfl ?_
 repeat (first | (refine quietH rfl (fun w' hS => r_load TQ_ok rfl rfl rfl (Bk.get (B1.keep hS (by omega)) rfl)) ?_; refine goH TQ_ok 200 rfl ?_) | (refine quietH rfl (fun w' hS => r_load TQ_ok rfl rfl rfl (Bk.get (B3.keep hS (by omega)) rfl)) ?_; refine goH TQ_ok 200 rfl ?_))
 rw [hA2]
 refine quietH rfl (fun w' hS => r_idx TQ_ok rfl rfl rfl rfl i rfl hil) ?_
 refine goH TQ_ok 200 rfl ?_
 refine quietH rfl (fun w' hS => r_load TQ_ok rfl rfl rfl ((hS.cell (a := ⟨b2, o2 + i * 1, none⟩) (by show b2 < _; omega) (by show ¬ b2 = g4; omega)).trans hc2)) ?_
 rw [← hA2]
 refine goH TQ_ok 200 rfl ?_
 rw [hA1]
 refine quietH rfl (fun w' hS => r_idx TQ_ok rfl rfl rfl rfl x rfl (by omega)) ?_
 refine goH TQ_ok 200 rfl ?_
 refine quietH rfl (fun w' hS => r_loadArr TQ_ok rfl rfl rfl rfl (hc1.keep (by omega) hS (by omega))) ?_
 rw [← hA1]
 refine goH TQ_ok 200 rfl ?_
 refine stArrE TQ_ok rfl rfl rfl rfl (vs := bV (alA (scP m) x)) rfl rfl rfl (B4.no (Chg.drew _)) rfl ?_
 intro w2 qk B4 hz
 have B4 : Bk w2 g4 125 (bV (alA (scP m) x)) := B4
 have q2 : Chg (fun k => k = g4) w w2 := ((Chg.drew w).mono fun _ _ h => h.elim).trans qk
 refine ⟨q2, ?_⟩
 refine goH TQ_ok 200 rfl ?_
 refine endH ?_
 refine go TQ_ok 200 rfl ?_
 exact ret (retR1 Try.results123 (resArr TQ_ok rfl rfl rfl B4.all) ⟨rfl, q.step q2 (fun k hk e => by omega)⟩)
theorem getD_at {l : List Nat} {k : Nat} (h : k < l.length) : l[k]? = some (l.getD k 0) := by
 rw [List.getD_eq_getElem?_getD, List.getElem?_eq_getElem h]
 rfl
set_option maxRecDepth 20000 in
set_option maxHeartbeats 8000000 in
theorem key2_any (m : Scm) (B g1 g3 g5 g4 : Nat) (A A5 A4 : Option Addr) (c c5 c4 : Nat) (l cls ofv : List Nat) (i x y : Nat) (w0 : World) (H : ScM w0 B m) (h : ScOk (scP m)) (B1 : Bk w0 g1 77 (scL m)) (V3 : Vr w0 B g3 A c l) (V5 : Vr w0 B g5 A5 c5 cls) (V4 : Vr w0 B g4 A4 c4 ofv) (hx : l[i]? = some x) (hy : cls[i]? = some y) (hxn : x < m.N.l.length) (hof : ofv.length = m.N.l.length) :
  Ret Try.prog 125 [I (i : Int), .pointer (some ⟨g1, 0, none⟩), .pointer (some ⟨g3, 0, none⟩), .pointer (some ⟨g5, 0, none⟩), .pointer (some ⟨g4, 0, none⟩)] w0 fun v w' => v = ek3 (key2 (scP m) ofv x y) ∧ Chg No w0 w' := by
 have hil := (List.getElem?_eq_some_iff.1 hx).1
 have hil2 := (List.getElem?_eq_some_iff.1 hy).1
 obtain ⟨hnx, hn1, hn2⟩ := nx_at h hxn
 have hk2 : key2 (scP m) ofv x y = (y, ofv.getD (nxA (scP m) x).1 0, ofv.getD (nxA (scP m) x).2 0) := rfl
 rw [hk2]
 generalize nxA (scP m) x = p at *
 obtain ⟨p1, p2⟩ := p
 simp only at hnx hn1 hn2 ⊢
 have hf1 := getD_at (l := ofv) (k := p1) (by omega)
 have hf2 := getD_at (l := ofv) (k := p2) (by omega)
 generalize ofv.getD p1 0 = z1 at *
 generalize ofv.getD p2 0 = z2 at *
 refine enter Try.func125 rfl Try.ntmps125 rfl ?_
 refine go TQ_ok 200 rfl ?_
 refine nw rfl rfl (z := .agg #[I 0, I 0, I 0]) (by kernel_rfl) (cs := [I 0, I 0, I 0]) rfl ?_
 intro g6 w hg6 hs6 q B6
 have l1 := B1.lt
 have l3 := V3.b.lt
 have l4 := V4.b.lt
 have l5 := V5.b.lt
 have B1 := B1.no q
 have V3 := V3.no q
 have V4 := V4.no q
 have V5 := V5.no q
 have B3 := V3.b
 have H1 := H.no q
 have hBB := H.n.2.1
 obtain ⟨b2, o2, hA2, hb2, hc2⟩ := V3.el hx
 obtain ⟨b1, o1, hA1, hb1, hc1⟩ := Sl.el H1.n nV_len hnx
 refine go TQ_ok 200 rfl ?_
 refine draw mixed (fun w' => Chg No w w') ([0,1,2,3,4,5,6,7].map (fun i => (i, true)) ++ [(8, false)] ++ [(9, false)]) rfl (by kernel_rfl) (Chg.drew _) ?_
 refine goH TQ_ok 200 rfl ?_
 repeat (first | (refine quietH rfl (fun w' hS => r_load TQ_ok rfl rfl rfl (Bk.get (B1.no hS) rfl)) ?_; refine goH TQ_ok 200 rfl ?_) | (refine quietH rfl (fun w' hS => r_load TQ_ok rfl rfl rfl (Bk.get (B3.no hS) rfl)) ?_; refine goH TQ_ok 200 rfl ?_))
 rw [hA2]
 refine quietH rfl (fun w' hS => r_idx TQ_ok rfl rfl rfl rfl i rfl hil) ?_
 refine goH TQ_ok 200 rfl ?_
 refine quietH rfl (fun w' hS => r_load TQ_ok rfl rfl rfl ((hS.cell (a := ⟨b2, o2 + i * 1, none⟩) (by show b2 < _; omega) (fun h => h)).trans hc2)) ?_
 rw [← hA2]
 refine goH TQ_ok 200 rfl ?_
 rw [hA1]
 refine quietH rfl (fun w' hS => r_idx TQ_ok rfl rfl rfl rfl x rfl (by omega)) ?_
 refine goH TQ_ok 200 rfl ?_
 refine quietH rfl (fun w' hS => r_loadArr TQ_ok rfl rfl rfl rfl (hc1.keep (by omega) hS (fun h => h))) ?_
 rw [← hA1]
 refine goH TQ_ok 200 rfl ?_
 have hdw : w.drew.heap.size = w.heap.size := rfl
 refine nwE rfl rfl (z := .agg #[I 0, I 0]) (by kernel_rfl) (cs := [I 0, I 0]) rfl ?_
 intro g7 w2 hg7 hs7 qk B7
 have q2 : Chg No w w2 := (Chg.drew w).trans qk
 refine ⟨q2, ?_⟩
 refine goH TQ_ok 200 rfl ?_
 refine stArrE TQ_ok rfl rfl rfl rfl (vs := nV ((p1 : Int), (p2 : Int))) rfl rfl rfl B7 rfl ?_
 intro w3 qk B7 hz
 have B7 : Bk w3 g7 124 (nV ((p1 : Int), (p2 : Int))) := B7
 have q2 := q2.step qk (fun k hk e => by omega)
 refine ⟨q2, ?_⟩
 refine goH TQ_ok 200 rfl ?_
 refine endH ?_
 have B6 := B6.no q2
 have V4 := V4.no q2
 have V5 := V5.no q2
 have q := q.trans q2
 have B5 := V5.b
 have B4 := V4.b
 obtain ⟨b5, o5, hA5, hb5, hc5⟩ := V5.el hy
 obtain ⟨b4, o4, hA4, hb4, hc4⟩ := V4.el hf1
 obtain ⟨b4', o4', hA4', hb4', hc4'⟩ := V4.el hf2
 rw [hA4] at hA4'
 injection hA4' with hA4'
 injection hA4' with e1 e2 _
 subst e1
 subst e2
 have l6 := B6.lt
 have l7 := B7.lt
 refine go TQ_ok 200 rfl ?_
 refine draw mixed (fun w' => Chg (fun k => k = g6) w3 w') ([0,1,2,3,4,5,6,7,8,9,10,11,12,13,14].map (fun i => (i, true)) ++ [(15, false)]) rfl (by kernel_rfl) ((Chg.drew _).mono fun _ _ h => h.elim) ?_
 refine goH TQ_ok 200 rfl ?_
 repeat (first | (refine quietH rfl (fun w' hS => r_load TQ_ok rfl rfl rfl (Bk.get (B5.keep hS (by omega)) rfl)) ?_; refine goH TQ_ok 200 rfl ?_))
 rw [hA5]
 refine quietH rfl (fun w' hS => r_idx TQ_ok rfl rfl rfl rfl i rfl hil2) ?_
 refine goH TQ_ok 200 rfl ?_
 refine quietH rfl (fun w' hS => r_load TQ_ok rfl rfl rfl ((hS.cell (a := ⟨b5, o5 + i * 1, none⟩) (by show b5 < _; omega) (by show ¬ b5 = g6; omega)).trans hc5)) ?_
 rw [← hA5]
 refine goH TQ_ok 200 rfl ?_
 repeat (first | (refine quietH rfl (fun w' hS => r_load TQ_ok rfl rfl rfl (Bk.get (B4.keep hS (by omega)) rfl)) ?_; refine goH TQ_ok 200 rfl ?_))
 refine goH TQ_ok 200 rfl ?_
 refine quietH rfl (fun w' hS => r_idxA TQ_ok rfl rfl rfl rfl 0 rfl (by decide)) ?_
 refine goH TQ_ok 200 rfl ?_
 refine quietH rfl (fun w' hS => r_load TQ_ok rfl rfl rfl ((B7.keep hS (by omega)).get (i := 0) rfl)) ?_
 refine goH TQ_ok 200 rfl ?_
 rw [hA4]
 refine quietH rfl (fun w' hS => r_idx TQ_ok rfl rfl rfl rfl p1 rfl (by omega)) ?_
 refine goH TQ_ok 200 rfl ?_
 refine quietH rfl (fun w' hS => r_load TQ_ok rfl rfl rfl ((hS.cell (a := ⟨b4, o4 + p1 * 1, none⟩) (by show b4 < _; omega) (by show ¬ b4 = g6; omega)).trans hc4)) ?_
 rw [← hA4]
 refine goH TQ_ok 200 rfl ?_
 repeat (first | (refine quietH rfl (fun w' hS => r_load TQ_ok rfl rfl rfl (Bk.get (B4.keep hS (by omega)) rfl)) ?_; refine goH TQ_ok 200 rfl ?_))
 refine goH TQ_ok 200 rfl ?_
 refine quietH rfl (fun w' hS => r_idxA TQ_ok rfl rfl rfl rfl 1 rfl (by decide)) ?_
 refine goH TQ_ok 200 rfl ?_
 refine quietH rfl (fun w' hS => r_load TQ_ok rfl rfl rfl ((B7.keep hS (by omega)).get (i := 1) rfl)) ?_
 refine goH TQ_ok 200 rfl ?_
 rw [hA4]
 refine quietH rfl (fun w' hS => r_idx TQ_ok rfl rfl rfl rfl p2 rfl (by omega)) ?_
 refine goH TQ_ok 200 rfl ?_
 refine quietH rfl (fun w' hS => r_load TQ_ok rfl rfl rfl ((hS.cell (a := ⟨b4, o4 + p2 * 1, none⟩) (by show b4 < _; omega) (by show ¬ b4 = g6; omega)).trans hc4')) ?_
 rw [← hA4]
 refine goH TQ_ok 200 rfl ?_
 refine quietH rfl (fun w' hS => r_bldA TQ_ok rfl rfl (z := .agg #[I 0, I 0, I 0]) (by kernel_rfl) (cs := tV (y, z1, z2)) rfl) ?_
 refine goH TQ_ok 200 rfl ?_
 refine stArrE TQ_ok rfl rfl rfl rfl (vs := tV (y, z1, z2)) rfl rfl rfl (B6.no (Chg.drew _)) rfl ?_
 intro w4 qk B6 hz4
 have B6 : Bk w4 g6 208 (tV (y, z1, z2)) := B6
 have q4 : Chg (fun k => k = g6) w3 w4 := ((Chg.drew w3).mono fun _ _ h => h.elim).trans qk
 refine ⟨q4, ?_⟩
 refine goH TQ_ok 200 rfl ?_
 refine endH ?_
 refine go TQ_ok 200 rfl ?_
 exact ret (retR1 Try.results125 (resArr TQ_ok rfl rfl rfl B6.all) ⟨rfl, q.step q4 (fun k hk e => by omega)⟩)
end Go.Proofs.Yteenhfnamjbaiaa
namespace Go.Proofs.Yteenhfnamjbaiaa
open Go.Ev Go.Proofs
open Go.Camp (Sc ScOk nxA addN reachR reachP Among alA key2 clsP ofU keys2 smR smE smallP nxU alU clsOk more_cls ofU_len keys2_len)
attribute [local irreducible] At AtH
theorem ScM.more {w : World} {B B' : Nat} {m : Scm} (h : ScM w B m) (h1 : B ≤ B') (h2 : B' ≤ w.heap.size) : ScM w B' m := ⟨h.n.more h1 h2, h.o.more h1 h2, h.ln, h.lo⟩
theorem Vr.more {w : World} {B B' g c : Nat} {A : Option Addr} {l : List Nat} (h : Vr w B g A c l) (h1 : B ≤ B') (h2 : B' ≤ w.heap.size) : Vr w B' g A c l := ⟨h.b, h.s.more h1 h2⟩
theorem getD_le {l : List Nat} (h : ∀ z ∈ l, z ≤ 16384) (k : Nat) : l.getD k 0 ≤ 16384 := by
 rw [List.getD_eq_getElem?_getD]
 cases hk : l[k]? with
 | none => exact Nat.zero_le _
 | some z => exact h z (List.mem_of_getElem? hk)
theorem keys2_get {s : Sc} {S cls o : List Nat} {i : Nat} {k : K3} (h : (keys2 s S cls o)[i]? = some k) : ∃ x y, S[i]? = some x ∧ cls[i]? = some y ∧ k = key2 s o x y := by
 unfold keys2 at h
 rw [List.getElem?_map, Option.map_eq_some_iff] at h
 obtain ⟨⟨x, y⟩, h1, h2⟩ := h
 rw [List.getElem?_zip_eq_some] at h1
 exact ⟨x, y, h1.1, h1.2, h2.symm⟩
theorem Vr.keep {w w' : World} {B g c : Nat} {A : Option Addr} {l : List Nat} {M : Nat → Prop} (h : Vr w B g A c l) (q : Chg M w w') (h1 : ¬ M g) (h2 : ∀ k, k < B → ¬ M k) : Vr w' B g A c l := ⟨h.b.keep q h1, h.s.keep q h2⟩
def bs92 : F3.Tr := .fork3 [(0, true), (2, true)] (.fork [(1, false)] (.fin [(3, false), (4, true), (5, false), (6, false)]) (.fin [(5, false), (3, false), (4, true), (6, false)])) (.fork [(3, false)] (.fin [(1, false), (4, true), (5, false), (6, false)]) (.fin [(5, false), (1, false), (4, true), (6, false)])) (.fork [(5, false)] (.fin [(1, false), (3, false), (4, true), (6, false)]) (.fin [(3, false), (1, false), (4, true), (6, false)]))
def foJ {α : Type} (f : Nat → α) (S cls : List Nat) (b : List α) (j : Nat) : List α := ((S.zip cls).take j).foldl (fun l xc => l.set xc.2 (f xc.1)) b
theorem foJ_len {α : Type} (f : Nat → α) (S cls : List Nat) (b : List α) (j : Nat) : (foJ f S cls b j).length = b.length := by
 unfold foJ
 generalize (S.zip cls).take j = L
 induction L generalizing b with
 | nil => rfl
 | cons a l ih => rw [List.foldl_cons, ih]; simp
theorem foJ_succ {α : Type} {f : Nat → α} {S cls : List Nat} {b : List α} {j x y : Nat} (hx : S[j]? = some x) (hy : cls[j]? = some y) : foJ f S cls b (j + 1) = (foJ f S cls b j).set y (f x) := by
 unfold foJ
 have h : (S.zip cls)[j]? = some (x, y) := by rw [List.getElem?_zip_eq_some]; exact ⟨hx, hy⟩
 rw [List.take_add_one, h, List.foldl_append]
 rfl
theorem foJ_all {α : Type} {f : Nat → α} {S cls : List Nat} {b : List α} (h : cls.length = S.length) : foJ f S cls b S.length = (S.zip cls).foldl (fun l xc => l.set xc.2 (f xc.1)) b := by
 unfold foJ
 rw [List.take_of_length_le (by simp [h])]
theorem flat_set {α : Type} {f : α → List Value} (hf : ∀ x, (f x).length = 2) : ∀ (l : List α) (i : Nat) (x : α), i < l.length → (l.flatMap f).take (0 + i * 2) ++ f x ++ (l.flatMap f).drop (0 + i * 2 + (f x).length) = (l.set i x).flatMap f := by
 intro l
 induction l with
 | nil => intro i x h; simp at h
 | cons a l ih =>
  intro i x h
  cases i with
  | zero =>
   rw [List.set_cons_zero, List.flatMap_cons, List.flatMap_cons, hf, Nat.zero_mul, Nat.zero_add, Nat.zero_add, List.take_zero, List.nil_append, List.drop_left' (hf a)]
  | succ i =>
   have := ih i x (by simpa using h)
   rw [List.set_cons_succ, List.flatMap_cons, List.flatMap_cons, ← this, hf, show 0 + (i + 1) * 2 = (f a).length + (0 + i * 2) by rw [hf]; omega, List.take_length_add_append, Nat.add_assoc, List.drop_length_add_append]
   simp
theorem flat_rep {α : Type} {f : α → List Value} {x : α} {v : Value} (hf : f x = [v, v]) (n : Nat) : (List.replicate n x).flatMap f = List.replicate (n * 2) v := by
 induction n with
 | zero => rfl
 | succ n ih => rw [List.replicate_succ, List.flatMap_cons, ih, hf, show (n + 1) * 2 = n * 2 + 1 + 1 by omega]; rfl
/-- where the search for classes stands -/
structure SI (m : Scm) (B b3 g1 g2 g3 g4 g5 gof : Nat) (A3 : Option Addr) (c3 : Nat) (w : World) (many : Nat) (cls ofv : List Nat) (gc : Nat) : Prop where
 cl : cls.length = (reachP (scP m)).length
 cov : ∀ c, c < many → c ∈ cls
 lt : ∀ c ∈ cls, c < many
 ol : ofv.length = m.N.l.length
 ob : ∀ z ∈ ofv, z ≤ 16384
 ms : many ≤ (reachP (scP m)).length
 b1 : Bk w g1 77 (scL m)
 b2 : Bk w g2 77 [.slice none 0 0, .slice none 0 0]
 v3 : Vr w b3 g3 A3 c3 (reachP (scP m))
 b4 : Bk w g4 25 [.slice (some ⟨gof, 0, none⟩) m.N.l.length m.N.l.length]
 b5 : Bk w g5 25 [.slice (some ⟨gc, 0, none⟩) (reachP (scP m)).length (reachP (scP m)).length]
 bo : Bk w gof 3 (iL (iN ofv))
 bc : Bk w gc 3 (iL (iN cls))
 ne : gc ≠ g1 ∧ gc ≠ g2 ∧ gc ≠ g3 ∧ gc ≠ g4 ∧ gc ≠ g5 ∧ gc ≠ gof ∧ b3 ≤ gc
structure SP (w0 : World) (B b3 g1 g2 g3 g4 g5 gof : Nat) : Prop where
 p0 : B ≤ w0.heap.size
 p1 : w0.heap.size ≤ g1
 p2 : g1 < g2
 p3 : g2 < b3
 p4 : b3 ≤ g3
 p5 : g3 < gof
 p6 : gof < g4
 p7 : g4 < g5
theorem iN_get {l : List Nat} {i x : Nat} (h : l[i]? = some x) : (iL (iN l))[i]? = some (I (x : Int)) := by
 simp [iL, iN, h]
theorem iN_set {l : List Nat} {i x : Nat} : (iL (iN l)).set i (I (x : Int)) = iL (iN (l.set i x)) := by
 simp [iL, iN, List.map_set]
/-- the part of an update of the classes of states -/
def ofJ (S cls ofv : List Nat) (j : Nat) : List Nat := ((S.zip cls).take j).foldl (fun o xc => o.set xc.1 xc.2) ofv
theorem ofJ_len (S cls ofv : List Nat) (j : Nat) : (ofJ S cls ofv j).length = ofv.length := by
 unfold ofJ
 generalize (S.zip cls).take j = L
 induction L generalizing ofv with
 | nil => rfl
 | cons a l ih => rw [List.foldl_cons, ih]; simp
theorem ofJ_succ {S cls ofv : List Nat} {j x y : Nat} (hx : S[j]? = some x) (hy : cls[j]? = some y) : ofJ S cls ofv (j + 1) = (ofJ S cls ofv j).set x y := by
 unfold ofJ
 have h : (S.zip cls)[j]? = some (x, y) := by rw [List.getElem?_zip_eq_some]; exact ⟨hx, hy⟩
 rw [List.take_add_one, h, List.foldl_append]
 rfl
theorem ofJ_all {S cls ofv : List Nat} (h : cls.length = S.length) : ofJ S cls ofv S.length = ofU S cls ofv := by
 unfold ofJ ofU
 rw [List.take_of_length_le (by simp [h])]
section
variable {m : Scm} {B b3 g1 g2 g3 g4 g5 gof : Nat} {A3 : Option Addr} {c3 : Nat} {w w' : World} {many : Nat} {cls ofv : List Nat} {gc : Nat}
theorem SI.no (h : SI m B b3 g1 g2 g3 g4 g5 gof A3 c3 w many cls ofv gc) (q : Chg No w w') : SI m B b3 g1 g2 g3 g4 g5 gof A3 c3 w' many cls ofv gc :=
 ⟨h.cl, h.cov, h.lt, h.ol, h.ob, h.ms, h.b1.no q, h.b2.no q, h.v3.no q, h.b4.no q, h.b5.no q, h.bo.no q, h.bc.no q, h.ne⟩
end
set_option maxRecDepth 20000 in
set_option maxHeartbeats 16000000 in
theorem smallest_any (m : Scm) (B : Nat) (w0 : World) (H : ScM w0 B m) (h : ScOk (scP m)) : Ret Try.prog 92 [.agg (scL m).toArray] w0 fun v w' => ∃ gx go : Nat, v = .agg #[.slice (some ⟨gx, 0, none⟩) (smE (scP m)).2.2 (smE (scP m)).2.2, .slice (some ⟨go, 0, none⟩) (smE (scP m)).2.2 (smE (scP m)).2.2] ∧ Chg No w0 w' ∧ w0.heap.size ≤ gx ∧ w0.heap.size ≤ go ∧
  Bk w' gx 124 ((smallP (scP m)).nx.flatMap nV) ∧ Bk w' go 125 ((smallP (scP m)).al.flatMap bV) := by
 have n1 : 1 ≤ m.N.l.length := h.n1
 have n2 : m.N.l.length ≤ 16384 := h.n2
 have ham := Go.Camp.reach_among h
 have hSn : (reachP (scP m)).length ≤ m.N.l.length := ham.len
 have hBB := H.n.2.1
 refine enter Try.func92 rfl Try.ntmps92 rfl ?_
 refine go TQ_ok 200 rfl ?_
 refine bx rfl rfl rfl (cs := scL m) rfl ?_
 intro g1 u1 hg1 hs1 q1 B1
 have q := q1
 refine go TQ_ok 200 rfl ?_
 refine nw rfl rfl (z := .agg #[.slice none 0 0, .slice none 0 0]) (by kernel_rfl) (cs := [.slice none 0 0, .slice none 0 0]) rfl ?_
 intro g2 w hg2 hs2 qk B2
 have B1 := B1.no qk
 have q := q.trans qk
 refine go TQ_ok 200 rfl ?_
 repeat ((first | refine ldA TQ_ok rfl rfl rfl rfl rfl (Bk.all B1) ?_ | refine ldA TQ_ok rfl rfl rfl rfl rfl (Bk.all B2) ?_ | refine ld TQ_ok rfl rfl rfl rfl (Bk.get B1 rfl) ?_ | refine ld TQ_ok rfl rfl rfl rfl (Bk.get B2 rfl) ?_ | refine gT rfl rfl rfl rfl ?_ | refine gF rfl rfl rfl rfl ?_ | refine condT rfl rfl ?_ | refine condF rfl rfl ?_); refine go TQ_ok 200 rfl ?_)
 refine call rfl rfl rfl (ok _ (by decide) rfl) (reached_any m B _ (H.no q) h) ?_
 rintro v w ⟨A3, c3, rfl, qk, own3⟩
 have l1 := B1.lt
 have l2 := B2.lt
 have B1 := B1.no qk
 have B2 := B2.no qk
 have q := q.trans qk
 have S3 := own_sl own3
 have hb3 : g2 < w.heap.size := B2.lt
 obtain ⟨b3, hb3e⟩ : ∃ b, b = w.heap.size := ⟨_, rfl⟩
 rw [← hb3e] at S3
 refine go TQ_ok 200 rfl ?_
 refine nw rfl rfl (z := .slice none 0 0) (by kernel_rfl) (cs := [.slice none 0 0]) rfl ?_
 intro g3 w hg3 hs3 qk B3
 have B1 := B1.no qk
 have B2 := B2.no qk
 have q := q.trans qk
 have S3 := S3.no qk
 have lq3 := q.size
 refine go TQ_ok 200 rfl ?_
 refine st TQ_ok rfl rfl rfl rfl (v := .slice A3 (reachP (scP m)).length c3) rfl rfl B3 rfl ?_
 intro w qk B3 hz3
 have B3 : Bk w g3 25 [.slice A3 (reachP (scP m)).length c3] := B3
 have S3 := S3.keep qk (fun k hk e => by omega)
 have B1 := B1.keep qk (by omega)
 have B2 := B2.keep qk (by omega)
 have q := q.step qk (fun k hk e => by omega)
 have V3 : Vr w b3 g3 A3 c3 (reachP (scP m)) := ⟨B3, S3⟩
 refine go TQ_ok 200 rfl ?_
 repeat ((first | refine ldA TQ_ok rfl rfl rfl rfl rfl (Bk.all B1) ?_ | refine ldA TQ_ok rfl rfl rfl rfl rfl (Bk.all B2) ?_ | refine ldA TQ_ok rfl rfl rfl rfl rfl (Bk.all B3) ?_ | refine ld TQ_ok rfl rfl rfl rfl (Bk.get B1 rfl) ?_ | refine ld TQ_ok rfl rfl rfl rfl (Bk.get B2 rfl) ?_ | refine ld TQ_ok rfl rfl rfl rfl (Bk.get B3 rfl) ?_ | refine gT rfl rfl rfl rfl ?_ | refine gF rfl rfl rfl rfl ?_ | refine condT rfl rfl ?_ | refine condF rfl rfl ?_); refine go TQ_ok 200 rfl ?_)
 refine mkB TQ_ok rfl rfl rfl rfl rfl m.N.l.length rfl (z := I 0) (by kernel_rfl) (v := I 0) rfl (by decide) (by unfold maxLen; omega) (by omega) ?_
 intro gof w hgof hsof qk Bo
 have B1 := B1.no qk
 have B2 := B2.no qk
 have B3 := B3.no qk
 have q := q.trans qk
 have V3 := V3.no qk
 rw [← iN_rep] at Bo
 refine go TQ_ok 200 rfl ?_
 refine nw rfl rfl (z := .slice none 0 0) (by kernel_rfl) (cs := [.slice none 0 0]) rfl ?_
 intro g4 w hg4 hs4 qk B4
 have B1 := B1.no qk
 have B2 := B2.no qk
 have B3 := B3.no qk
 have Bo := Bo.no qk
 have q := q.trans qk
 have V3 := V3.no qk
 refine go TQ_ok 200 rfl ?_
 have lq4 := q.size
 refine st TQ_ok rfl rfl rfl rfl (v := .slice (some ⟨gof, 0, none⟩) m.N.l.length m.N.l.length) rfl rfl B4 rfl ?_
 intro w qk B4 hz4
 have B4 : Bk w g4 25 [.slice (some ⟨gof, 0, none⟩) m.N.l.length m.N.l.length] := B4
 have u1 : g1 < g2 := by omega
 have u2 : g2 < b3 := by omega
 have u3 : b3 ≤ g3 := by omega
 have u4 : g3 < gof := by omega
 have u5 : gof < g4 := by omega
 have u0 : w0.heap.size ≤ g1 := by omega
 have B1 := B1.keep qk (by omega)
 have B2 := B2.keep qk (by omega)
 have Bo := Bo.keep qk (by omega)
 have V3 := V3.keep qk (by omega) (fun k hk e => by omega)
 have q := q.step qk (fun k hk e => by omega)
 have B3 := V3.b
 clear own3 hg1 hs1 hg2 hs2 hg3 hs3 hz3 hgof hsof hg4 hs4 hz4 hb3e hb3 l1 l2
 refine go TQ_ok 200 rfl ?_
 repeat ((first | refine ldA TQ_ok rfl rfl rfl rfl rfl (Bk.all B1) ?_ | refine ldA TQ_ok rfl rfl rfl rfl rfl (Bk.all B2) ?_ | refine ldA TQ_ok rfl rfl rfl rfl rfl (Bk.all B3) ?_ | refine ldA TQ_ok rfl rfl rfl rfl rfl (Bk.all B4) ?_ | refine ldA TQ_ok rfl rfl rfl rfl rfl (Bk.all Bo) ?_ | refine ld TQ_ok rfl rfl rfl rfl (Bk.get B1 rfl) ?_ | refine ld TQ_ok rfl rfl rfl rfl (Bk.get B2 rfl) ?_ | refine ld TQ_ok rfl rfl rfl rfl (Bk.get B3 rfl) ?_ | refine ld TQ_ok rfl rfl rfl rfl (Bk.get B4 rfl) ?_ | refine ld TQ_ok rfl rfl rfl rfl (Bk.get Bo rfl) ?_ | refine gT rfl rfl rfl rfl ?_ | refine gF rfl rfl rfl rfl ?_ | refine condT rfl rfl ?_ | refine condF rfl rfl ?_); refine go TQ_ok 200 rfl ?_)
 have X := classesB_any ((reachP (scP m)).map (alA (scP m))) 123 [.pointer (some ⟨g1, 0, none⟩), .pointer (some ⟨g3, 0, none⟩)] w (by simp; omega) (ok _ (by decide) rfl) (fun k _ => kB k) (fun i k w' hk qk => by
  rw [List.getElem?_map, Option.map_eq_some_iff] at hk
  obtain ⟨x, hx, rfl⟩ := hk
  exact key1_any m b3 g1 g3 A3 c3 (reachP (scP m)) i x w' (((H.no q).no qk).more (by omega) (V3.s.no qk).2.1) h (B1.no qk) (V3.no qk) hx (ham.lt x (List.mem_of_getElem? hx)))
 rw [List.length_map] at X
 refine call rfl rfl rfl (ok _ (by decide) rfl) X ?_
 clear X
 rintro v w ⟨gc, rfl, qk, hgc, Bc⟩
 have hN := clsOk ((reachP (scP m)).map (alA (scP m)))
 rw [List.length_map] at hN
 have hlc := hN.1.len
 rw [List.length_map] at hlc
 have hse : smR (scP m) (reachP (scP m)) (m.N.l.length + 1) (clsP ((reachP (scP m)).map (alA (scP m)))).1.length (clsP ((reachP (scP m)).map (alA (scP m)))).2 (List.replicate m.N.l.length 0) = smE (scP m) := rfl
 generalize clsP ((reachP (scP m)).map (alA (scP m))) = N at *
 have V3 := V3.no qk
 have l4 := B4.lt
 have B1 := B1.no qk
 have B2 := B2.no qk
 have B3 := B3.no qk
 have B4 := B4.no qk
 have Bo := Bo.no qk
 have q := q.trans qk
 refine go TQ_ok 200 rfl ?_
 refine nw rfl rfl (z := .slice none 0 0) (by kernel_rfl) (cs := [.slice none 0 0]) rfl ?_
 intro g5 w hg5 hs5 qk B5
 have V3 := V3.no qk
 have lc := Bc.lt
 have B1 := B1.no qk
 have B2 := B2.no qk
 have B3 := B3.no qk
 have B4 := B4.no qk
 have Bo := Bo.no qk
 have Bc := Bc.no qk
 have q := q.trans qk
 refine go TQ_ok 200 rfl ?_
 have lq5 := q.size
 refine st TQ_ok rfl rfl rfl rfl (v := .slice (some ⟨gc, 0, none⟩) (reachP (scP m)).length (reachP (scP m)).length) rfl rfl B5 rfl ?_
 intro w qk B5 hz5
 have B5 : Bk w g5 25 [.slice (some ⟨gc, 0, none⟩) (reachP (scP m)).length (reachP (scP m)).length] := B5
 have u6 : g4 < g5 := by omega
 have uc : g4 < gc ∧ gc < g5 := by omega
 have hI : SI m B b3 g1 g2 g3 g4 g5 gof A3 c3 w N.1.length N.2 (List.replicate m.N.l.length 0) gc := by
  refine ⟨hN.2, hN.1.cov, hN.1.lt, by simp, fun z hz => by have := (List.mem_replicate.1 hz).2; omega, hlc, B1.keep qk (by omega), B2.keep qk (by omega), V3.keep qk (by omega) (fun k hk e => by omega), B4.keep qk (by omega), B5, Bo.keep qk (by omega), Bc.keep qk (by omega), by omega⟩
 have q := q.step qk (fun k hk e => by omega)
 have hP : SP w0 B b3 g1 g2 g3 g4 g5 gof := ⟨hBB, u0, u1, u2, u3, u4, u5, u6⟩
 clear B1 B2 B3 B4 B5 Bo Bc V3 hg5 hs5 hz5 lc l4 lq5 uc hgc
 refine go TQ_ok 200 rfl ?_
 refine loop [1, 2, 3, 4, 5, 6] (fun x : Nat × List Nat × List Nat × Nat × Nat => [.pointer (some ⟨g1, 0, none⟩), .pointer (some ⟨g2, 0, none⟩), .pointer (some ⟨g3, 0, none⟩), .pointer (some ⟨g4, 0, none⟩), .pointer (some ⟨g5, 0, none⟩), .int .i64 (x.1 : Int)])
  (fun x w' => SI m B b3 g1 g2 g3 g4 g5 gof A3 c3 w' x.1 x.2.1 x.2.2.1 x.2.2.2.1 ∧ m.N.l.length - x.1 < x.2.2.2.2 ∧ smR (scP m) (reachP (scP m)) x.2.2.2.2 x.1 x.2.1 x.2.2.1 = smE (scP m) ∧ Chg No w0 w')
  (fun x => x.2.2.2.2) (N.1.length, N.2, List.replicate m.N.l.length 0, gc, m.N.l.length + 1) (fun _ => rfl) rfl ⟨hI, by simp only; omega, hse, q⟩ ?_
 clear hI hse hN hlc q
 rintro ⟨many, cls, ofv, gc, f⟩ τ w ⟨hI, hf, hse, q⟩
 simp only at hI hf hse
 dsimp only
 have p0 := hP.p0; have p1 := hP.p1; have p2 := hP.p2; have p3 := hP.p3; have p4 := hP.p4; have p5 := hP.p5; have p6 := hP.p6; have p7 := hP.p7
 have hlb := hI.lt
 have hcl := hI.cl
 obtain ⟨X, hX0, hXk⟩ : ∃ X : World → Prop, X w ∧ ∀ A B, X A → Chg (fun k => k = gof) A B → X B := ⟨fun _ => True, trivial, fun _ _ _ _ => trivial⟩
 have B3 := hI.v3.b
 refine go TQ_ok 200 rfl ?_
 repeat ((first | refine ldA TQ_ok rfl rfl rfl rfl rfl (Bk.all B3) ?_ | refine ld TQ_ok rfl rfl rfl rfl (Bk.get B3 rfl) ?_ | refine gT rfl rfl rfl rfl ?_ | refine gF rfl rfl rfl rfl ?_ | refine condT rfl rfl ?_ | refine condF rfl rfl ?_); refine go TQ_ok 200 rfl ?_)
 refine loop [1, 2, 3, 4, 5, 6, 30, 31, 32] (fun j : Nat => [.pointer (some ⟨g1, 0, none⟩), .pointer (some ⟨g2, 0, none⟩), .pointer (some ⟨g3, 0, none⟩), .pointer (some ⟨g4, 0, none⟩), .pointer (some ⟨g5, 0, none⟩), .int .i64 (many : Int),   .slice A3 (reachP (scP m)).length c3, .int .i64 ((reachP (scP m)).length : Int), .int .i64 (j : Int)])
  (fun j w' => j ≤ (reachP (scP m)).length ∧ SI m B b3 g1 g2 g3 g4 g5 gof A3 c3 w' many cls (ofJ (reachP (scP m)) cls ofv j) gc ∧ Chg No w0 w' ∧ X w') (fun j => (reachP (scP m)).length - j) 0 (fun _ => rfl) rfl ⟨Nat.zero_le _, hI, q, hX0⟩ ?_
 rintro j τ w ⟨hj, hI, q, hX0⟩
 refine go TQ_ok 200 rfl ?_
 refine condD rfl (fun hlt => ?_) (fun hlt => ?_)
 ·have hlt : j < (reachP (scP m)).length := by have : (j : Int) < ((reachP (scP m)).length : Int) := hlt; omega
  obtain ⟨x, hx⟩ := getA_of hlt
  obtain ⟨y, hy⟩ := getA_of (l := cls) (i := j) (by omega)
  have hxn := ham.lt x (List.mem_of_getElem? hx)
  have hxn : x < m.N.l.length := hxn
  obtain ⟨b2, o2, hA2, hb2, hc2⟩ := hI.v3.el hx
  refine go TQ_ok 200 rfl ?_
  rw [hA2]
  refine idx TQ_ok rfl rfl rfl rfl rfl j rfl hlt ?_
  refine go TQ_ok 200 rfl ?_
  refine ld TQ_ok rfl rfl rfl rfl (hc2) ?_
  refine go TQ_ok 200 rfl ?_
  rw [← hA2]
  refine go TQ_ok 200 rfl ?_
  have hol := hI.ol
  have hne := hI.ne
  have hgc := hI.bc.lt
  have hg5 := hI.b5.lt
  refine draw mixed (fun w' => Chg (fun k => k = gof) w w') ([0,1,2,3,4,5,6].map (fun i => (i, true)) ++ [(7, false)]) rfl (by kernel_rfl) ((Chg.drew _).mono fun _ _ h => h.elim) ?_
  refine goH TQ_ok 200 rfl ?_
  repeat (first | (refine quietH rfl (fun w' hS => r_load TQ_ok rfl rfl rfl (Bk.get (hI.b4.keep hS (by omega)) rfl)) ?_; refine goH TQ_ok 200 rfl ?_) | (refine quietH rfl (fun w' hS => r_load TQ_ok rfl rfl rfl (Bk.get (hI.b5.keep hS (by omega)) rfl)) ?_; refine goH TQ_ok 200 rfl ?_))
  refine quietH rfl (fun w' hS => r_idx TQ_ok rfl rfl rfl rfl j rfl hlt) ?_
  refine goH TQ_ok 200 rfl ?_
  refine quietH rfl (fun w' hS => r_load TQ_ok rfl rfl rfl ((hI.bc.keep hS (by omega)).getE (i := 0 + j * 1) (by rw [show 0 + j * 1 = j by omega]; exact iN_get hy))) ?_
  refine goH TQ_ok 200 rfl ?_
  refine quietH rfl (fun w' hS => r_idx TQ_ok rfl rfl rfl rfl x rfl hxn) ?_
  refine goH TQ_ok 200 rfl ?_
  refine storeE TQ_ok rfl rfl rfl rfl (v := I (y : Int)) rfl rfl (hI.bo.no (Chg.drew _)) (by rw [lenL_eq, iN_len]; simp; omega) ?_
  intro w2 qk Bo hz
  have Bo : Bk w2 gof 3 (iL (iN (ofJ (reachP (scP m)) cls ofv (j + 1)))) := by
   rw [ofJ_succ hx hy, ← iN_set]
   rw [show 0 + x * 1 = x by omega] at Bo
   exact Bo
  have q2 : Chg (fun k => k = gof) w w2 := ((Chg.drew w).mono fun _ _ h => h.elim).trans qk
  refine ⟨q2, ?_⟩
  refine goH TQ_ok 200 rfl ?_
  refine endH ?_
  refine go TQ_ok 200 rfl ?_
  rw [w64_id (x := (j : Int) + 1) (by omega) (by omega)]
  refine round ⟨j + 1, rfl, ⟨by omega, ⟨hI.cl, hI.cov, hI.lt, by rw [ofJ_len] at hol ⊢; exact hol, fun z hz => by
   rw [ofJ_succ hx hy] at hz
   rcases List.mem_or_eq_of_mem_set hz with hz | rfl
   ·exact hI.ob z hz
   ·have := hlb z (List.mem_of_getElem? hy)
    have := hI.ms
    omega, hI.ms, hI.b1.keep q2 (by omega), hI.b2.keep q2 (by omega), hI.v3.keep q2 (by omega) (fun k hk e => by omega), hI.b4.keep q2 (by omega), hI.b5.keep q2 (by omega), Bo, hI.bc.keep q2 (by omega), hne⟩, q.step q2 (fun k hk e => by omega), hXk _ _ hX0 q2⟩, by omega⟩
 obtain rfl : j = (reachP (scP m)).length := by have : ¬ (j : Int) < ((reachP (scP m)).length : Int) := hlt; omega
 rw [ofJ_all hcl] at hI
 have B3 := hI.v3.b
 refine go TQ_ok 200 rfl ?_
 repeat ((first | refine ldA TQ_ok rfl rfl rfl rfl rfl (Bk.all B3) ?_ | refine ld TQ_ok rfl rfl rfl rfl (Bk.get B3 rfl) ?_ | refine gT rfl rfl rfl rfl ?_ | refine gF rfl rfl rfl rfl ?_ | refine condT rfl rfl ?_ | refine condF rfl rfl ?_); refine go TQ_ok 200 rfl ?_)
 have hkl := keys2_len (s := scP m) (o := ofU (reachP (scP m)) cls ofv) hcl
 have X := classes3_any (keys2 (scP m) (reachP (scP m)) cls (ofU (reachP (scP m)) cls ofv)) 125 [.pointer (some ⟨g1, 0, none⟩), .pointer (some ⟨g3, 0, none⟩), .pointer (some ⟨g5, 0, none⟩), .pointer (some ⟨g4, 0, none⟩)] w (by omega) (ok _ (by decide) rfl) (fun k hk => by
  obtain ⟨i, hi⟩ := List.getElem?_of_mem hk
  obtain ⟨x, y, hx, hy, rfl⟩ := keys2_get hi
  have h1 := hlb y (List.mem_of_getElem? hy)
  have h2 := hI.ms
  have h3 := getD_le hI.ob (nxA (scP m) x).1
  have h4 := getD_le hI.ob (nxA (scP m) x).2
  exact k3 _ ⟨by show y ≤ _; omega, by show (ofU (reachP (scP m)) cls ofv).getD _ 0 ≤ _; omega, by show (ofU (reachP (scP m)) cls ofv).getD _ 0 ≤ _; omega⟩) (fun i k w' hk qk => by
  obtain ⟨x, y, hx, hy, rfl⟩ := keys2_get hk
  have hJ := hI.no qk
  have hsz := hJ.v3.s.2.1
  have hHs := ((H.no q).no qk).n.2.1
  refine key2_any m w'.heap.size g1 g3 g5 g4 A3 (some ⟨gc, 0, none⟩) (some ⟨gof, 0, none⟩) c3 (reachP (scP m)).length m.N.l.length (reachP (scP m)) cls (ofU (reachP (scP m)) cls ofv) i x y w' (((H.no q).no qk).more hHs (Nat.le_refl _)) h hJ.b1 (hJ.v3.more hsz (Nat.le_refl _)) ⟨?_, ?_⟩ ⟨?_, ?_⟩ hx hy (ham.lt x (List.mem_of_getElem? hx)) hI.ol
  ·rw [hcl]; exact hJ.b5
  ·exact hJ.bc.sl (by rw [iN_len, Nat.mul_one])
  ·rw [hI.ol]; exact hJ.b4
  ·exact hJ.bo.sl (by rw [iN_len, Nat.mul_one]))
 rw [hkl] at X
 refine call rfl rfl rfl (ok _ (by decide) rfl) X ?_
 clear X
 rintro v w2 ⟨gc2, rfl, qk, hgc2, Bc2⟩
 have hN := clsOk (keys2 (scP m) (reachP (scP m)) cls (ofU (reachP (scP m)) cls ofv))
 have hmc := more_cls (s := scP m) (o := ofU (reachP (scP m)) cls ofv) hcl hI.cov
 have hlc := hN.1.len
 rw [hkl] at hN hlc
 cases f with
 | zero => omega
 | succ f =>
 simp only [smR] at hse
 generalize clsP (keys2 (scP m) (reachP (scP m)) cls (ofU (reachP (scP m)) cls ofv)) = N at *
 have hI2 := hI.no qk
 have q := q.trans qk
 have l1 := hI.b1.lt
 have l2 := hI.b2.lt
 have l3 := hI.v3.b.lt
 have l4 := hI.b4.lt
 have l5 := hI.b5.lt
 have lo := hI.bo.lt
 refine go TQ_ok 200 rfl ?_
 refine st TQ_ok rfl rfl rfl rfl (v := .slice (some ⟨gc2, 0, none⟩) (reachP (scP m)).length (reachP (scP m)).length) rfl rfl hI2.b5 rfl ?_
 intro w3 qk B5 hz5
 have q := q.step qk (fun k hk e => by omega)
 have hI3 : SI m B b3 g1 g2 g3 g4 g5 gof A3 c3 w3 N.1.length N.2 (ofU (reachP (scP m)) cls ofv) gc2 :=
  ⟨hN.2, hN.1.cov, hN.1.lt, hI2.ol, hI2.ob, hlc, hI2.b1.keep qk (by omega), hI2.b2.keep qk (by omega), hI2.v3.keep qk (by omega) (fun k hk e => by omega), hI2.b4.keep qk (by omega), B5, hI2.bo.keep qk (by omega), Bc2.keep qk (by omega), by omega⟩
 refine go TQ_ok 200 rfl ?_
 by_cases he : N.1.length = many
 case neg =>
  have e : ((N.1.length : Int) == (many : Int)) = false := by simp; omega
  rw [e]
  refine go TQ_ok 200 rfl ?_
  repeat (first | (refine gT rfl rfl rfl rfl ?_; refine go TQ_ok 200 rfl ?_) | (refine gF rfl rfl rfl rfl ?_; refine go TQ_ok 200 rfl ?_) | (refine condT rfl rfl ?_; refine go TQ_ok 200 rfl ?_) | (refine condF rfl rfl ?_; refine go TQ_ok 200 rfl ?_))
  rw [if_neg he] at hse
  exact round ⟨(N.1.length, N.2, ofU (reachP (scP m)) cls ofv, gc2, f), rfl, ⟨hI3, by simp only; omega, hse, q⟩, by simp only; omega⟩
 have e : ((N.1.length : Int) == (many : Int)) = true := by simp [he]
 rw [e]
 rw [if_pos he] at hse
 rw [he] at hI3
 obtain ⟨hs1, hs2⟩ : N.2 = (smE (scP m)).1 ∧ ofU (reachP (scP m)) cls ofv = (smE (scP m)).2.1 := by rw [← hse]; exact ⟨rfl, rfl⟩
 have hs3 : many = (smE (scP m)).2.2 := by rw [← hse]
 refine go TQ_ok 200 rfl ?_
 repeat (first | (refine gT rfl rfl rfl rfl ?_; refine go TQ_ok 200 rfl ?_) | (refine gF rfl rfl rfl rfl ?_; refine go TQ_ok 200 rfl ?_) | (refine condT rfl rfl ?_; refine go TQ_ok 200 rfl ?_) | (refine condF rfl rfl ?_; refine go TQ_ok 200 rfl ?_))
 clear hmc hlc hI2 hse B5 l1 l2 l3 l4 l5 lo
 obtain ⟨cls2, hcls2⟩ : ∃ c, c = N.2 := ⟨_, rfl⟩
 obtain ⟨ofv2, hofv2⟩ : ∃ c, c = ofU (reachP (scP m)) cls ofv := ⟨_, rfl⟩
 rw [← hcls2, ← hofv2] at hI3
 rw [← hcls2] at hs1
 rw [← hofv2] at hs2
 clear hcls2 hofv2
 refine join [1, 2, 3, 4, 5, 6, 11] (fun x : Nat × Nat × Nat => [.pointer (some ⟨g1, 0, none⟩), .pointer (some ⟨g2, 0, none⟩), .pointer (some ⟨g3, 0, none⟩), .pointer (some ⟨g4, 0, none⟩), .pointer (some ⟨g5, 0, none⟩), .int .i64 (many : Int), .pointer (some ⟨x.2.2, 0, none⟩)])
  (fun x w' => Chg No w3 w' ∧ Bk w' x.1 124 (List.replicate (many * 2) (I 0)) ∧ Bk w' x.2.1 125 (List.replicate (many * 2) (.bool false)) ∧ Bk w' x.2.2 77 [.slice (some ⟨x.1, 0, none⟩) many many, .slice (some ⟨x.2.1, 0, none⟩) many many] ∧ w3.heap.size ≤ x.1 ∧ w3.heap.size ≤ x.2.1 ∧ w3.heap.size ≤ x.2.2 ∧ x.1 ≠ x.2.1 ∧ x.1 ≠ x.2.2 ∧ x.2.1 ≠ x.2.2) (fun _ => rfl) ?_ ?_
 ·have hdw : w3.drew.heap.size = w3.heap.size := rfl
  refine F3.drawT mixed (fun w' => Chg No w3 w') bs92 (by kernel_rfl) (Chg.drew _) ?_
  have qd := Chg.drew w3
  have hms := hI3.ms
  refine F3.segK3 rfl ?_
  refine goH TQ_ok 200 rfl ?_
  refine F3.forkK3 qd ?_ ?_ ?_
  ·refine F3.segK rfl ?_
   refine goH TQ_ok 200 rfl ?_
   refine mkBE TQ_ok rfl rfl rfl rfl rfl many rfl (z := .agg #[I 0, I 0]) (by kernel_rfl) (v := I 0) rfl (by decide) (by unfold maxLen; omega) (by omega) ?_
   intro gx w hgx hsx qk Bx'
   try have Bx := Bx.no qk
   try have By := By.no qk
   try have Bz := Bz.no qk
   have lqd := qd.size
   have qd := qd.trans qk
   refine ⟨qd, ?_⟩
   refine goH TQ_ok 200 rfl ?_
   have Bx := Bx'
   clear Bx'
   refine F3.forkK qd ?_ ?_
   ·refine F3.segF rfl ?_
    refine goH TQ_ok 200 rfl ?_
    refine mkBE TQ_ok rfl rfl rfl rfl rfl many rfl (z := .agg #[.bool false, .bool false]) (by kernel_rfl) (v := .bool false) rfl (by decide) (by unfold maxLen; omega) (by omega) ?_
    intro go w hgo hso qk By'
    try have Bx := Bx.no qk
    try have By := By.no qk
    try have Bz := Bz.no qk
    have lqd := qd.size
    have qd := qd.trans qk
    refine ⟨qd, ?_⟩
    refine goH TQ_ok 200 rfl ?_
    have By := By'
    clear By'
    refine nwE rfl rfl (z := .agg #[.slice none 0 0, .slice none 0 0]) (by kernel_rfl) (cs := [.slice none 0 0, .slice none 0 0]) rfl ?_
    intro gz w hgz hsz qk Bz'
    try have Bx := Bx.no qk
    try have By := By.no qk
    try have Bz := Bz.no qk
    have lqd := qd.size
    have qd := qd.trans qk
    refine ⟨qd, ?_⟩
    refine goH TQ_ok 200 rfl ?_
    have Bz := Bz'
    clear Bz'
    refine stAE TQ_ok rfl rfl rfl rfl (vs := [.slice (some ⟨gx, 0, none⟩) many many, .slice (some ⟨go, 0, none⟩) many many]) rfl rfl rfl Bz rfl ?_
    intro w qk Bz hzz
    have Bz : Bk w gz 77 [.slice (some ⟨gx, 0, none⟩) many many, .slice (some ⟨go, 0, none⟩) many many] := Bz
    have Bx := Bx.keep qk (by omega)
    have By := By.keep qk (by omega)
    have qd := qd.step qk (fun k hk e => by omega)
    refine ⟨qd, ?_⟩
    refine goH TQ_ok 200 rfl ?_
    refine endH ?_
    exact round ⟨(gx, go, gz), rfl, qd, Bx, By, Bz, by simp only; omega, by simp only; omega, by simp only; omega, by simp only; omega, by simp only; omega, by simp only; omega⟩
   ·refine F3.segF rfl ?_
    refine goH TQ_ok 200 rfl ?_
    refine nwE rfl rfl (z := .agg #[.slice none 0 0, .slice none 0 0]) (by kernel_rfl) (cs := [.slice none 0 0, .slice none 0 0]) rfl ?_
    intro gz w hgz hsz qk Bz'
    try have Bx := Bx.no qk
    try have By := By.no qk
    try have Bz := Bz.no qk
    have lqd := qd.size
    have qd := qd.trans qk
    refine ⟨qd, ?_⟩
    refine goH TQ_ok 200 rfl ?_
    have Bz := Bz'
    clear Bz'
    refine mkBE TQ_ok rfl rfl rfl rfl rfl many rfl (z := .agg #[.bool false, .bool false]) (by kernel_rfl) (v := .bool false) rfl (by decide) (by unfold maxLen; omega) (by omega) ?_
    intro go w hgo hso qk By'
    try have Bx := Bx.no qk
    try have By := By.no qk
    try have Bz := Bz.no qk
    have lqd := qd.size
    have qd := qd.trans qk
    refine ⟨qd, ?_⟩
    refine goH TQ_ok 200 rfl ?_
    have By := By'
    clear By'
    refine stAE TQ_ok rfl rfl rfl rfl (vs := [.slice (some ⟨gx, 0, none⟩) many many, .slice (some ⟨go, 0, none⟩) many many]) rfl rfl rfl Bz rfl ?_
    intro w qk Bz hzz
    have Bz : Bk w gz 77 [.slice (some ⟨gx, 0, none⟩) many many, .slice (some ⟨go, 0, none⟩) many many] := Bz
    have Bx := Bx.keep qk (by omega)
    have By := By.keep qk (by omega)
    have qd := qd.step qk (fun k hk e => by omega)
    refine ⟨qd, ?_⟩
    refine goH TQ_ok 200 rfl ?_
    refine endH ?_
    exact round ⟨(gx, go, gz), rfl, qd, Bx, By, Bz, by simp only; omega, by simp only; omega, by simp only; omega, by simp only; omega, by simp only; omega, by simp only; omega⟩
  ·refine F3.segK rfl ?_
   refine goH TQ_ok 200 rfl ?_
   refine mkBE TQ_ok rfl rfl rfl rfl rfl many rfl (z := .agg #[.bool false, .bool false]) (by kernel_rfl) (v := .bool false) rfl (by decide) (by unfold maxLen; omega) (by omega) ?_
   intro go w hgo hso qk By'
   try have Bx := Bx.no qk
   try have By := By.no qk
   try have Bz := Bz.no qk
   have lqd := qd.size
   have qd := qd.trans qk
   refine ⟨qd, ?_⟩
   refine goH TQ_ok 200 rfl ?_
   have By := By'
   clear By'
   refine F3.forkK qd ?_ ?_
   ·refine F3.segF rfl ?_
    refine goH TQ_ok 200 rfl ?_
    refine mkBE TQ_ok rfl rfl rfl rfl rfl many rfl (z := .agg #[I 0, I 0]) (by kernel_rfl) (v := I 0) rfl (by decide) (by unfold maxLen; omega) (by omega) ?_
    intro gx w hgx hsx qk Bx'
    try have Bx := Bx.no qk
    try have By := By.no qk
    try have Bz := Bz.no qk
    have lqd := qd.size
    have qd := qd.trans qk
    refine ⟨qd, ?_⟩
    refine goH TQ_ok 200 rfl ?_
    have Bx := Bx'
    clear Bx'
    refine nwE rfl rfl (z := .agg #[.slice none 0 0, .slice none 0 0]) (by kernel_rfl) (cs := [.slice none 0 0, .slice none 0 0]) rfl ?_
    intro gz w hgz hsz qk Bz'
    try have Bx := Bx.no qk
    try have By := By.no qk
    try have Bz := Bz.no qk
    have lqd := qd.size
    have qd := qd.trans qk
    refine ⟨qd, ?_⟩
    refine goH TQ_ok 200 rfl ?_
    have Bz := Bz'
    clear Bz'
    refine stAE TQ_ok rfl rfl rfl rfl (vs := [.slice (some ⟨gx, 0, none⟩) many many, .slice (some ⟨go, 0, none⟩) many many]) rfl rfl rfl Bz rfl ?_
    intro w qk Bz hzz
    have Bz : Bk w gz 77 [.slice (some ⟨gx, 0, none⟩) many many, .slice (some ⟨go, 0, none⟩) many many] := Bz
    have Bx := Bx.keep qk (by omega)
    have By := By.keep qk (by omega)
    have qd := qd.step qk (fun k hk e => by omega)
    refine ⟨qd, ?_⟩
    refine goH TQ_ok 200 rfl ?_
    refine endH ?_
    exact round ⟨(gx, go, gz), rfl, qd, Bx, By, Bz, by simp only; omega, by simp only; omega, by simp only; omega, by simp only; omega, by simp only; omega, by simp only; omega⟩
   ·refine F3.segF rfl ?_
    refine goH TQ_ok 200 rfl ?_
    refine nwE rfl rfl (z := .agg #[.slice none 0 0, .slice none 0 0]) (by kernel_rfl) (cs := [.slice none 0 0, .slice none 0 0]) rfl ?_
    intro gz w hgz hsz qk Bz'
    try have Bx := Bx.no qk
    try have By := By.no qk
    try have Bz := Bz.no qk
    have lqd := qd.size
    have qd := qd.trans qk
    refine ⟨qd, ?_⟩
    refine goH TQ_ok 200 rfl ?_
    have Bz := Bz'
    clear Bz'
    refine mkBE TQ_ok rfl rfl rfl rfl rfl many rfl (z := .agg #[I 0, I 0]) (by kernel_rfl) (v := I 0) rfl (by decide) (by unfold maxLen; omega) (by omega) ?_
    intro gx w hgx hsx qk Bx'
    try have Bx := Bx.no qk
    try have By := By.no qk
    try have Bz := Bz.no qk
    have lqd := qd.size
    have qd := qd.trans qk
    refine ⟨qd, ?_⟩
    refine goH TQ_ok 200 rfl ?_
    have Bx := Bx'
    clear Bx'
    refine stAE TQ_ok rfl rfl rfl rfl (vs := [.slice (some ⟨gx, 0, none⟩) many many, .slice (some ⟨go, 0, none⟩) many many]) rfl rfl rfl Bz rfl ?_
    intro w qk Bz hzz
    have Bz : Bk w gz 77 [.slice (some ⟨gx, 0, none⟩) many many, .slice (some ⟨go, 0, none⟩) many many] := Bz
    have Bx := Bx.keep qk (by omega)
    have By := By.keep qk (by omega)
    have qd := qd.step qk (fun k hk e => by omega)
    refine ⟨qd, ?_⟩
    refine goH TQ_ok 200 rfl ?_
    refine endH ?_
    exact round ⟨(gx, go, gz), rfl, qd, Bx, By, Bz, by simp only; omega, by simp only; omega, by simp only; omega, by simp only; omega, by simp only; omega, by simp only; omega⟩
  ·refine F3.segK rfl ?_
   refine goH TQ_ok 200 rfl ?_
   refine nwE rfl rfl (z := .agg #[.slice none 0 0, .slice none 0 0]) (by kernel_rfl) (cs := [.slice none 0 0, .slice none 0 0]) rfl ?_
   intro gz w hgz hsz qk Bz'
   try have Bx := Bx.no qk
   try have By := By.no qk
   try have Bz := Bz.no qk
   have lqd := qd.size
   have qd := qd.trans qk
   refine ⟨qd, ?_⟩
   refine goH TQ_ok 200 rfl ?_
   have Bz := Bz'
   clear Bz'
   refine F3.forkK qd ?_ ?_
   ·refine F3.segF rfl ?_
    refine goH TQ_ok 200 rfl ?_
    refine mkBE TQ_ok rfl rfl rfl rfl rfl many rfl (z := .agg #[I 0, I 0]) (by kernel_rfl) (v := I 0) rfl (by decide) (by unfold maxLen; omega) (by omega) ?_
    intro gx w hgx hsx qk Bx'
    try have Bx := Bx.no qk
    try have By := By.no qk
    try have Bz := Bz.no qk
    have lqd := qd.size
    have qd := qd.trans qk
    refine ⟨qd, ?_⟩
    refine goH TQ_ok 200 rfl ?_
    have Bx := Bx'
    clear Bx'
    refine mkBE TQ_ok rfl rfl rfl rfl rfl many rfl (z := .agg #[.bool false, .bool false]) (by kernel_rfl) (v := .bool false) rfl (by decide) (by unfold maxLen; omega) (by omega) ?_
    intro go w hgo hso qk By'
    try have Bx := Bx.no qk
    try have By := By.no qk
    try have Bz := Bz.no qk
    have lqd := qd.size
    have qd := qd.trans qk
    refine ⟨qd, ?_⟩
    refine goH TQ_ok 200 rfl ?_
    have By := By'
    clear By'
    refine stAE TQ_ok rfl rfl rfl rfl (vs := [.slice (some ⟨gx, 0, none⟩) many many, .slice (some ⟨go, 0, none⟩) many many]) rfl rfl rfl Bz rfl ?_
    intro w qk Bz hzz
    have Bz : Bk w gz 77 [.slice (some ⟨gx, 0, none⟩) many many, .slice (some ⟨go, 0, none⟩) many many] := Bz
    have Bx := Bx.keep qk (by omega)
    have By := By.keep qk (by omega)
    have qd := qd.step qk (fun k hk e => by omega)
    refine ⟨qd, ?_⟩
    refine goH TQ_ok 200 rfl ?_
    refine endH ?_
    exact round ⟨(gx, go, gz), rfl, qd, Bx, By, Bz, by simp only; omega, by simp only; omega, by simp only; omega, by simp only; omega, by simp only; omega, by simp only; omega⟩
   ·refine F3.segF rfl ?_
    refine goH TQ_ok 200 rfl ?_
    refine mkBE TQ_ok rfl rfl rfl rfl rfl many rfl (z := .agg #[.bool false, .bool false]) (by kernel_rfl) (v := .bool false) rfl (by decide) (by unfold maxLen; omega) (by omega) ?_
    intro go w hgo hso qk By'
    try have Bx := Bx.no qk
    try have By := By.no qk
    try have Bz := Bz.no qk
    have lqd := qd.size
    have qd := qd.trans qk
    refine ⟨qd, ?_⟩
    refine goH TQ_ok 200 rfl ?_
    have By := By'
    clear By'
    refine mkBE TQ_ok rfl rfl rfl rfl rfl many rfl (z := .agg #[I 0, I 0]) (by kernel_rfl) (v := I 0) rfl (by decide) (by unfold maxLen; omega) (by omega) ?_
    intro gx w hgx hsx qk Bx'
    try have Bx := Bx.no qk
    try have By := By.no qk
    try have Bz := Bz.no qk
    have lqd := qd.size
    have qd := qd.trans qk
    refine ⟨qd, ?_⟩
    refine goH TQ_ok 200 rfl ?_
    have Bx := Bx'
    clear Bx'
    refine stAE TQ_ok rfl rfl rfl rfl (vs := [.slice (some ⟨gx, 0, none⟩) many many, .slice (some ⟨go, 0, none⟩) many many]) rfl rfl rfl Bz rfl ?_
    intro w qk Bz hzz
    have Bz : Bk w gz 77 [.slice (some ⟨gx, 0, none⟩) many many, .slice (some ⟨go, 0, none⟩) many many] := Bz
    have Bx := Bx.keep qk (by omega)
    have By := By.keep qk (by omega)
    have qd := qd.step qk (fun k hk e => by omega)
    refine ⟨qd, ?_⟩
    refine goH TQ_ok 200 rfl ?_
    refine endH ?_
    exact round ⟨(gx, go, gz), rfl, qd, Bx, By, Bz, by simp only; omega, by simp only; omega, by simp only; omega, by simp only; omega, by simp only; omega, by simp only; omega⟩
 rintro ⟨gx, gy, gz⟩ τ w4 ⟨qd, Bx, By, Bz, t1, t2, t3, t4, t5, t6⟩
 simp only at Bx By Bz t1 t2 t3 t4 t5 t6
 dsimp only
 have l1 := hI3.b1.lt
 have lo := hI3.bo.lt
 have hI := hI3.no qd
 have q := q.trans qd
 have hcl := hI.cl
 have hlb := hI.lt
 obtain ⟨X, hX0, hXk, hXe⟩ : ∃ X : World → Prop, X w4 ∧ (∀ A B, X A → Chg (fun k => k = gof) A B → X B) ∧ ∀ A, X A → Bk A gx 124 (List.replicate (many * 2) (I 0)) ∧ Bk A gy 125 (List.replicate (many * 2) (.bool false)) ∧ Bk A gz 77 [.slice (some ⟨gx, 0, none⟩) many many, .slice (some ⟨gy, 0, none⟩) many many] :=
  ⟨fun A => Bk A gx 124 (List.replicate (many * 2) (I 0)) ∧ Bk A gy 125 (List.replicate (many * 2) (.bool false)) ∧ Bk A gz 77 [.slice (some ⟨gx, 0, none⟩) many many, .slice (some ⟨gy, 0, none⟩) many many], ⟨Bx, By, Bz⟩, fun A B hA q => ⟨hA.1.keep q (by omega), hA.2.1.keep q (by omega), hA.2.2.keep q (by omega)⟩, fun A hA => hA⟩
 have l2 := hI3.b2.lt
 have l4 := hI3.b4.lt
 have l5 := hI3.b5.lt
 have lc := hI3.bc.lt
 have l3 := hI3.v3.b.lt
 clear Bx By Bz
 have B3 := hI.v3.b
 refine go TQ_ok 200 rfl ?_
 repeat ((first | refine ldA TQ_ok rfl rfl rfl rfl rfl (Bk.all B3) ?_ | refine ld TQ_ok rfl rfl rfl rfl (Bk.get B3 rfl) ?_ | refine gT rfl rfl rfl rfl ?_ | refine gF rfl rfl rfl rfl ?_ | refine condT rfl rfl ?_ | refine condF rfl rfl ?_); refine go TQ_ok 200 rfl ?_)
 refine loop [1, 2, 3, 4, 5, 6, 11, 62, 63, 64] (fun j : Nat => [.pointer (some ⟨g1, 0, none⟩), .pointer (some ⟨g2, 0, none⟩), .pointer (some ⟨g3, 0, none⟩), .pointer (some ⟨g4, 0, none⟩), .pointer (some ⟨g5, 0, none⟩), .int .i64 (many : Int), .pointer (some ⟨gz, 0, none⟩), .slice A3 (reachP (scP m)).length c3, .int .i64 ((reachP (scP m)).length : Int), .int .i64 (j : Int)])
  (fun j w' => j ≤ (reachP (scP m)).length ∧ SI m B b3 g1 g2 g3 g4 g5 gof A3 c3 w' many cls2 (ofJ (reachP (scP m)) cls2 ofv2 j) gc2 ∧ Chg No w0 w' ∧ X w') (fun j => (reachP (scP m)).length - j) 0 (fun _ => rfl) rfl ⟨Nat.zero_le _, hI, q, hX0⟩ ?_
 rintro j τ w ⟨hj, hI, q, hX0⟩
 refine go TQ_ok 200 rfl ?_
 refine condD rfl (fun hlt => ?_) (fun hlt => ?_)
 ·have hlt : j < (reachP (scP m)).length := by have : (j : Int) < ((reachP (scP m)).length : Int) := hlt; omega
  obtain ⟨x, hx⟩ := getA_of hlt
  obtain ⟨y, hy⟩ := getA_of (l := cls2) (i := j) (by omega)
  have hxn := ham.lt x (List.mem_of_getElem? hx)
  have hxn : x < m.N.l.length := hxn
  obtain ⟨b2, o2, hA2, hb2, hc2⟩ := hI.v3.el hx
  refine go TQ_ok 200 rfl ?_
  rw [hA2]
  refine idx TQ_ok rfl rfl rfl rfl rfl j rfl hlt ?_
  refine go TQ_ok 200 rfl ?_
  refine ld TQ_ok rfl rfl rfl rfl (hc2) ?_
  refine go TQ_ok 200 rfl ?_
  rw [← hA2]
  refine go TQ_ok 200 rfl ?_
  have hol := hI.ol
  have hne := hI.ne
  have hgc := hI.bc.lt
  have hg5 := hI.b5.lt
  refine draw mixed (fun w' => Chg (fun k => k = gof) w w') ([0,1,2,3,4,5,6].map (fun i => (i, true)) ++ [(7, false)]) rfl (by kernel_rfl) ((Chg.drew _).mono fun _ _ h => h.elim) ?_
  refine goH TQ_ok 200 rfl ?_
  repeat (first | (refine quietH rfl (fun w' hS => r_load TQ_ok rfl rfl rfl (Bk.get (hI.b4.keep hS (by omega)) rfl)) ?_; refine goH TQ_ok 200 rfl ?_) | (refine quietH rfl (fun w' hS => r_load TQ_ok rfl rfl rfl (Bk.get (hI.b5.keep hS (by omega)) rfl)) ?_; refine goH TQ_ok 200 rfl ?_))
  refine quietH rfl (fun w' hS => r_idx TQ_ok rfl rfl rfl rfl j rfl hlt) ?_
  refine goH TQ_ok 200 rfl ?_
  refine quietH rfl (fun w' hS => r_load TQ_ok rfl rfl rfl ((hI.bc.keep hS (by omega)).getE (i := 0 + j * 1) (by rw [show 0 + j * 1 = j by omega]; exact iN_get hy))) ?_
  refine goH TQ_ok 200 rfl ?_
  refine quietH rfl (fun w' hS => r_idx TQ_ok rfl rfl rfl rfl x rfl hxn) ?_
  refine goH TQ_ok 200 rfl ?_
  refine storeE TQ_ok rfl rfl rfl rfl (v := I (y : Int)) rfl rfl (hI.bo.no (Chg.drew _)) (by rw [lenL_eq, iN_len]; simp; omega) ?_
  intro w2 qk Bo hz
  have Bo : Bk w2 gof 3 (iL (iN (ofJ (reachP (scP m)) cls2 ofv2 (j + 1)))) := by
   rw [ofJ_succ hx hy, ← iN_set]
   rw [show 0 + x * 1 = x by omega] at Bo
   exact Bo
  have q2 : Chg (fun k => k = gof) w w2 := ((Chg.drew w).mono fun _ _ h => h.elim).trans qk
  refine ⟨q2, ?_⟩
  refine goH TQ_ok 200 rfl ?_
  refine endH ?_
  refine go TQ_ok 200 rfl ?_
  rw [w64_id (x := (j : Int) + 1) (by omega) (by omega)]
  refine round ⟨j + 1, rfl, ⟨by omega, ⟨hI.cl, hI.cov, hI.lt, by rw [ofJ_len] at hol ⊢; exact hol, fun z hz => by
   rw [ofJ_succ hx hy] at hz
   rcases List.mem_or_eq_of_mem_set hz with hz | rfl
   ·exact hI.ob z hz
   ·have := hlb z (List.mem_of_getElem? hy)
    have := hI.ms
    omega, hI.ms, hI.b1.keep q2 (by omega), hI.b2.keep q2 (by omega), hI.v3.keep q2 (by omega) (fun k hk e => by omega), hI.b4.keep q2 (by omega), hI.b5.keep q2 (by omega), Bo, hI.bc.keep q2 (by omega), hne⟩, q.step q2 (fun k hk e => by omega), hXk _ _ hX0 q2⟩, by omega⟩
 obtain rfl : j = (reachP (scP m)).length := by have : ¬ (j : Int) < ((reachP (scP m)).length : Int) := hlt; omega
 rw [ofJ_all hcl] at hI
 obtain ⟨Bx, By, Bz⟩ := hXe _ hX0
 clear hX0 hXk hXe
 have hof := hs2
 obtain ⟨o3, ho3⟩ : ∃ o, o = ofU (reachP (scP m)) cls2 ofv2 := ⟨_, rfl⟩
 rw [← ho3] at hI
 rw [← flat_rep (f := nV) (x := ((0 : Int), (0 : Int))) rfl] at Bx
 rw [← flat_rep (f := bV) (x := (false, false)) rfl] at By
 have B3 := hI.v3.b
 refine go TQ_ok 200 rfl ?_
 repeat ((first | refine ldA TQ_ok rfl rfl rfl rfl rfl (Bk.all B3) ?_ | refine ld TQ_ok rfl rfl rfl rfl (Bk.get B3 rfl) ?_ | refine gT rfl rfl rfl rfl ?_ | refine gF rfl rfl rfl rfl ?_ | refine condT rfl rfl ?_ | refine condF rfl rfl ?_); refine go TQ_ok 200 rfl ?_)
 obtain ⟨fx, hfx⟩ : ∃ f : Nat → Int × Int, f = fun x => (((o3.getD (nxA (scP m) x).1 0 : Nat) : Int), ((o3.getD (nxA (scP m) x).2 0 : Nat) : Int)) := ⟨_, rfl⟩
 refine loop [1, 2, 3, 4, 5, 6, 11, 77, 78, 79] (fun j : Nat => [.pointer (some ⟨g1, 0, none⟩), .pointer (some ⟨g2, 0, none⟩), .pointer (some ⟨g3, 0, none⟩), .pointer (some ⟨g4, 0, none⟩), .pointer (some ⟨g5, 0, none⟩), .int .i64 (many : Int), .pointer (some ⟨gz, 0, none⟩), .slice A3 (reachP (scP m)).length c3, .int .i64 ((reachP (scP m)).length : Int), .int .i64 (j : Int)])
  (fun j w' => j ≤ (reachP (scP m)).length ∧ SI m B b3 g1 g2 g3 g4 g5 gof A3 c3 w' many cls2 o3 gc2 ∧ Chg No w0 w' ∧ Bk w' gx 124 ((foJ fx (reachP (scP m)) cls2 (List.replicate many (0, 0)) j).flatMap nV) ∧ Bk w' gy 125 ((foJ (alA (scP m)) (reachP (scP m)) cls2 (List.replicate many (false, false)) j).flatMap bV) ∧ Bk w' gz 77 [.slice (some ⟨gx, 0, none⟩) many many, .slice (some ⟨gy, 0, none⟩) many many]) (fun j => (reachP (scP m)).length - j) 0 (fun _ => rfl) rfl ⟨Nat.zero_le _, hI, q, Bx, By, Bz⟩ ?_
 rintro j τ w ⟨hj, hI, q, Bx, By, Bz⟩
 refine go TQ_ok 200 rfl ?_
 refine condD rfl (fun hlt => ?_) (fun hlt => ?_)
 ·have hlt : j < (reachP (scP m)).length := by have : (j : Int) < ((reachP (scP m)).length : Int) := hlt; omega
  obtain ⟨x, hx⟩ := getA_of hlt
  obtain ⟨y, hy⟩ := getA_of (l := cls2) (i := j) (by omega)
  have hxn : x < m.N.l.length := ham.lt x (List.mem_of_getElem? hx)
  have hym := hlb y (List.mem_of_getElem? hy)
  obtain ⟨b2, o2, hA2, hb2, hc2⟩ := hI.v3.el hx
  obtain ⟨hnx, hn1, hn2⟩ := nx_at h hxn
  have hal := al_at h hxn
  have hol := hI.ol
  have hOl : m.O.l.length = m.N.l.length := h.al
  have hfxx : fx x = (((o3.getD (nxA (scP m) x).1 0 : Nat) : Int), ((o3.getD (nxA (scP m) x).2 0 : Nat) : Int)) := by rw [hfx]
  have hf1 := getD_at (l := o3) (k := (nxA (scP m) x).1) (by omega)
  have hf2 := getD_at (l := o3) (k := (nxA (scP m) x).2) (by omega)
  have Bxs := foJ_succ (f := fx) (b := List.replicate many (0, 0)) hx hy
  have Bys := foJ_succ (f := alA (scP m)) (b := List.replicate many (false, false)) hx hy
  rw [hfxx] at Bxs
  generalize o3.getD (nxA (scP m) x).1 0 = z1 at *
  generalize o3.getD (nxA (scP m) x).2 0 = z2 at *
  obtain ⟨pp, hpp⟩ : ∃ p, p = nxA (scP m) x := ⟨_, rfl⟩
  rw [← hpp] at hnx hn1 hn2 hf1 hf2
  obtain ⟨p1', p2'⟩ := pp
  simp only at hnx hn1 hn2 hf1 hf2
  have lX := foJ_len fx (reachP (scP m)) cls2 (List.replicate many (0, 0)) j
  have lY := foJ_len (alA (scP m)) (reachP (scP m)) cls2 (List.replicate many (false, false)) j
  rw [List.length_replicate] at lX lY
  generalize foJ fx (reachP (scP m)) cls2 (List.replicate many (0, 0)) j = LX at *
  generalize foJ (alA (scP m)) (reachP (scP m)) cls2 (List.replicate many (false, false)) j = LY at *
  refine go TQ_ok 200 rfl ?_
  rw [hA2]
  refine idx TQ_ok rfl rfl rfl rfl rfl j rfl hlt ?_
  refine go TQ_ok 200 rfl ?_
  refine ld TQ_ok rfl rfl rfl rfl (hc2) ?_
  refine go TQ_ok 200 rfl ?_
  rw [← hA2]
  have B1 := hI.b1
  refine go TQ_ok 200 rfl ?_
  repeat ((first | refine ldA TQ_ok rfl rfl rfl rfl rfl (Bk.all B1) ?_ | refine ld TQ_ok rfl rfl rfl rfl (Bk.get B1 rfl) ?_ | refine gT rfl rfl rfl rfl ?_ | refine gF rfl rfl rfl rfl ?_ | refine condT rfl rfl ?_ | refine condF rfl rfl ?_); refine go TQ_ok 200 rfl ?_)
  have H1 := H.no q
  obtain ⟨b1, o1, hA1, hb1, hc1⟩ := Sl.el H1.n nV_len hnx
  obtain ⟨b4, o4, hA4, hb4, hc4⟩ := Sl.el H1.o bV_len hal
  rw [hA1]
  refine idx TQ_ok rfl rfl rfl rfl rfl x rfl hxn ?_
  refine go TQ_ok 200 rfl ?_
  refine ldArr TQ_ok rfl rfl rfl rfl rfl hc1 ?_
  rw [← hA1]
  refine go TQ_ok 200 rfl ?_
  refine nw rfl rfl (z := .agg #[I 0, I 0]) (by kernel_rfl) (cs := [I 0, I 0]) rfl ?_
  intro gt w5 hgt hst qk Bt
  have lx := Bx.lt
  have ly := By.lt
  have lz := Bz.lt
  have hI := hI.no qk
  have Bx := Bx.no qk
  have By := By.no qk
  have Bz := Bz.no qk
  have hc4 := hc4.keep (by omega) qk (fun h => h)
  have q := q.trans qk
  have lq := q.size
  have k1 := hI.b1.lt
  have k2 := hI.b2.lt
  have k3 := hI.v3.b.lt
  have k4 := hI.b4.lt
  have k5 := hI.b5.lt
  have ko := hI.bo.lt
  have kc := hI.bc.lt
  refine go TQ_ok 200 rfl ?_
  refine stArr TQ_ok rfl rfl rfl rfl (vs := nV ((p1' : Int), (p2' : Int))) rfl rfl rfl Bt rfl ?_
  intro w6 qk Bt hzt
  have Bt : Bk w6 gt 124 (nV ((p1' : Int), (p2' : Int))) := Bt
  have Bx := Bx.keep qk (by omega)
  have By := By.keep qk (by omega)
  have Bz := Bz.keep qk (by omega)
  have hc4 := hc4.keep (by omega) qk (by omega)
  have hne := hI.ne
  have hI : SI m B b3 g1 g2 g3 g4 g5 gof A3 c3 w6 many cls2 o3 gc2 :=
   ⟨hI.cl, hI.cov, hI.lt, hI.ol, hI.ob, hI.ms, hI.b1.keep qk (by omega), hI.b2.keep qk (by omega), hI.v3.keep qk (by omega) (fun k hk e => by omega), hI.b4.keep qk (by omega), hI.b5.keep qk (by omega), hI.bo.keep qk (by omega), hI.bc.keep qk (by omega), hne⟩
  have q := q.step qk (fun k hk e => by omega)
  have lw6 := q.size
  have lb4 := H.o.2.1
  refine go TQ_ok 200 rfl ?_
  refine draw mixed (fun w' => Chg (fun k => k = gx ∨ k = gy) w6 w') ([0,1,2,3,4,5,6,7,8,9,10,11,12,13,14,15,16,17,18,19,20,21,22,23,24,25,26,27,28].map (fun i => (i, true)) ++ [(29, false)] ++ [30].map (fun i => (i, true)) ++ [(31, false)]) rfl (by kernel_rfl) ((Chg.drew _).mono fun _ _ h => h.elim) ?_
  refine goH TQ_ok 200 rfl ?_
  repeat (first | (refine quietH rfl (fun w' hS => r_load TQ_ok rfl rfl rfl (Bk.get (Bz.keep hS (by omega)) rfl)) ?_; refine goH TQ_ok 200 rfl ?_) | (refine quietH rfl (fun w' hS => r_load TQ_ok rfl rfl rfl (Bk.get (hI.b5.keep hS (by omega)) rfl)) ?_; refine goH TQ_ok 200 rfl ?_) | (refine quietH rfl (fun w' hS => r_load TQ_ok rfl rfl rfl (Bk.get (hI.b4.keep hS (by omega)) rfl)) ?_; refine goH TQ_ok 200 rfl ?_) | (refine quietH rfl (fun w' hS => r_load TQ_ok rfl rfl rfl (Bk.get (hI.b1.keep hS (by omega)) rfl)) ?_; refine goH TQ_ok 200 rfl ?_))
  refine quietH rfl (fun w' hS => r_idx TQ_ok rfl rfl rfl rfl j rfl hlt) ?_
  refine goH TQ_ok 200 rfl ?_
  refine quietH rfl (fun w' hS => r_load TQ_ok rfl rfl rfl ((hI.bc.keep hS (by omega)).getE (i := 0 + j * 1) (by rw [show 0 + j * 1 = j by omega]; exact iN_get hy))) ?_
  refine goH TQ_ok 200 rfl ?_
  repeat (first | (refine quietH rfl (fun w' hS => r_load TQ_ok rfl rfl rfl (Bk.get (Bz.keep hS (by omega)) rfl)) ?_; refine goH TQ_ok 200 rfl ?_) | (refine quietH rfl (fun w' hS => r_load TQ_ok rfl rfl rfl (Bk.get (hI.b5.keep hS (by omega)) rfl)) ?_; refine goH TQ_ok 200 rfl ?_) | (refine quietH rfl (fun w' hS => r_load TQ_ok rfl rfl rfl (Bk.get (hI.b4.keep hS (by omega)) rfl)) ?_; refine goH TQ_ok 200 rfl ?_) | (refine quietH rfl (fun w' hS => r_load TQ_ok rfl rfl rfl (Bk.get (hI.b1.keep hS (by omega)) rfl)) ?_; refine goH TQ_ok 200 rfl ?_))
  refine quietH rfl (fun w' hS => r_idx TQ_ok rfl rfl rfl rfl j rfl hlt) ?_
  refine goH TQ_ok 200 rfl ?_
  refine quietH rfl (fun w' hS => r_load TQ_ok rfl rfl rfl ((hI.bc.keep hS (by omega)).getE (i := 0 + j * 1) (by rw [show 0 + j * 1 = j by omega]; exact iN_get hy))) ?_
  refine goH TQ_ok 200 rfl ?_
  repeat (first | (refine quietH rfl (fun w' hS => r_load TQ_ok rfl rfl rfl (Bk.get (Bz.keep hS (by omega)) rfl)) ?_; refine goH TQ_ok 200 rfl ?_) | (refine quietH rfl (fun w' hS => r_load TQ_ok rfl rfl rfl (Bk.get (hI.b5.keep hS (by omega)) rfl)) ?_; refine goH TQ_ok 200 rfl ?_) | (refine quietH rfl (fun w' hS => r_load TQ_ok rfl rfl rfl (Bk.get (hI.b4.keep hS (by omega)) rfl)) ?_; refine goH TQ_ok 200 rfl ?_) | (refine quietH rfl (fun w' hS => r_load TQ_ok rfl rfl rfl (Bk.get (hI.b1.keep hS (by omega)) rfl)) ?_; refine goH TQ_ok 200 rfl ?_))
  refine quietH rfl (fun w' hS => r_idxA TQ_ok rfl rfl rfl rfl 0 rfl (by decide)) ?_
  refine goH TQ_ok 200 rfl ?_
  refine quietH rfl (fun w' hS => r_load TQ_ok rfl rfl rfl ((Bt.keep hS (by omega)).get (i := 0) rfl)) ?_
  refine goH TQ_ok 200 rfl ?_
  refine quietH rfl (fun w' hS => r_idx TQ_ok rfl rfl rfl rfl p1' rfl (by omega)) ?_
  refine goH TQ_ok 200 rfl ?_
  refine quietH rfl (fun w' hS => r_load TQ_ok rfl rfl rfl ((hI.bo.keep hS (by omega)).getE (i := 0 + p1' * 1) (by rw [show 0 + p1' * 1 = p1' by omega]; exact iN_get hf1))) ?_
  refine goH TQ_ok 200 rfl ?_
  repeat (first | (refine quietH rfl (fun w' hS => r_load TQ_ok rfl rfl rfl (Bk.get (Bz.keep hS (by omega)) rfl)) ?_; refine goH TQ_ok 200 rfl ?_) | (refine quietH rfl (fun w' hS => r_load TQ_ok rfl rfl rfl (Bk.get (hI.b5.keep hS (by omega)) rfl)) ?_; refine goH TQ_ok 200 rfl ?_) | (refine quietH rfl (fun w' hS => r_load TQ_ok rfl rfl rfl (Bk.get (hI.b4.keep hS (by omega)) rfl)) ?_; refine goH TQ_ok 200 rfl ?_) | (refine quietH rfl (fun w' hS => r_load TQ_ok rfl rfl rfl (Bk.get (hI.b1.keep hS (by omega)) rfl)) ?_; refine goH TQ_ok 200 rfl ?_))
  refine quietH rfl (fun w' hS => r_idxA TQ_ok rfl rfl rfl rfl 1 rfl (by decide)) ?_
  refine goH TQ_ok 200 rfl ?_
  refine quietH rfl (fun w' hS => r_load TQ_ok rfl rfl rfl ((Bt.keep hS (by omega)).get (i := 1) rfl)) ?_
  refine goH TQ_ok 200 rfl ?_
  refine quietH rfl (fun w' hS => r_idx TQ_ok rfl rfl rfl rfl p2' rfl (by omega)) ?_
  refine goH TQ_ok 200 rfl ?_
  refine quietH rfl (fun w' hS => r_load TQ_ok rfl rfl rfl ((hI.bo.keep hS (by omega)).getE (i := 0 + p2' * 1) (by rw [show 0 + p2' * 1 = p2' by omega]; exact iN_get hf2))) ?_
  refine goH TQ_ok 200 rfl ?_
  refine quietH rfl (fun w' hS => r_bldA TQ_ok rfl rfl (z := .agg #[I 0, I 0]) (by kernel_rfl) (cs := nV ((z1 : Int), (z2 : Int))) rfl) ?_
  refine goH TQ_ok 200 rfl ?_
  repeat (first | (refine quietH rfl (fun w' hS => r_load TQ_ok rfl rfl rfl (Bk.get (Bz.keep hS (by omega)) rfl)) ?_; refine goH TQ_ok 200 rfl ?_) | (refine quietH rfl (fun w' hS => r_load TQ_ok rfl rfl rfl (Bk.get (hI.b5.keep hS (by omega)) rfl)) ?_; refine goH TQ_ok 200 rfl ?_) | (refine quietH rfl (fun w' hS => r_load TQ_ok rfl rfl rfl (Bk.get (hI.b4.keep hS (by omega)) rfl)) ?_; refine goH TQ_ok 200 rfl ?_) | (refine quietH rfl (fun w' hS => r_load TQ_ok rfl rfl rfl (Bk.get (hI.b1.keep hS (by omega)) rfl)) ?_; refine goH TQ_ok 200 rfl ?_))
  rw [hA4]
  refine quietH rfl (fun w' hS => r_idx TQ_ok rfl rfl rfl rfl x rfl (by omega)) ?_
  refine goH TQ_ok 200 rfl ?_
  refine quietH rfl (fun w' hS => r_loadArr TQ_ok rfl rfl rfl rfl (hc4.keep (by omega) hS (by omega))) ?_
  rw [← hA4]
  refine goH TQ_ok 200 rfl ?_
  refine quietH rfl (fun w' hS => r_idx TQ_ok rfl rfl rfl rfl y rfl hym) ?_
  refine goH TQ_ok 200 rfl ?_
  refine stArrE TQ_ok rfl rfl rfl rfl (vs := nV ((z1 : Int), (z2 : Int))) rfl rfl rfl (Bx.no (Chg.drew _)) (by rw [lenL_eq, flat_len nV_len, lX]; exact Nat.ble_eq_true_of_le (by omega)) ?_
  intro w7 qk Bx hz7
  have q7 : Chg (fun k => k = gx ∨ k = gy) w6 w7 := ((Chg.drew w6).mono fun _ _ h => h.elim).trans (qk.mono fun k _ e => .inl e)
  have By := (By.no (Chg.drew w6)).keep qk (by omega)
  refine ⟨q7, ?_⟩
  refine goH TQ_ok 200 rfl ?_
  refine quietH rfl (fun w' hS => r_idx TQ_ok rfl rfl rfl rfl y rfl hym) ?_
  refine goH TQ_ok 200 rfl ?_
  refine stArrE TQ_ok rfl rfl rfl rfl (vs := bV (alA (scP m) x)) rfl rfl rfl By (by rw [lenL_eq, flat_len bV_len, lY]; exact Nat.ble_eq_true_of_le (by omega)) ?_
  intro w8 qk By hz8
  have q8 := q7.trans (qk.mono fun k _ e => .inr e)
  have Bx := Bx.keep qk (by omega)
  refine ⟨q8, ?_⟩
  refine goH TQ_ok 200 rfl ?_
  refine endH ?_
  refine go TQ_ok 200 rfl ?_
  rw [w64_id (x := (j : Int) + 1) (by omega) (by omega)]
  rw [flat_set nV_len _ _ _ (by omega), ← Bxs] at Bx
  rw [flat_set bV_len _ _ _ (by omega), ← Bys] at By
  refine round ⟨j + 1, rfl, ⟨by omega, ⟨hI.cl, hI.cov, hI.lt, hI.ol, hI.ob, hI.ms, hI.b1.keep q8 (by omega), hI.b2.keep q8 (by omega), hI.v3.keep q8 (by omega) (fun k hk e => by omega), hI.b4.keep q8 (by omega), hI.b5.keep q8 (by omega), hI.bo.keep q8 (by omega), hI.bc.keep q8 (by omega), hne⟩, q.step q8 (fun k hk e => by omega), Bx, By, Bz.keep q8 (by omega)⟩, by omega⟩
 ·obtain rfl : j = (reachP (scP m)).length := by have : ¬ (j : Int) < ((reachP (scP m)).length : Int) := hlt; omega
  rw [foJ_all hI.cl] at Bx By
  have e1 : (smallP (scP m)).nx = ((reachP (scP m)).zip cls2).foldl (fun l xc => l.set xc.2 (fx xc.1)) (List.replicate many (0, 0)) := by
   rw [hfx, ho3, hs1, hs2, hs3]; rfl
  have e2 : (smallP (scP m)).al = ((reachP (scP m)).zip cls2).foldl (fun l xc => l.set xc.2 (alA (scP m) xc.1)) (List.replicate many (false, false)) := by
   rw [hs1, hs3]; rfl
  rw [← e1] at Bx
  rw [← e2] at By
  have lq := q.size
  have B2 := hI.b2
  refine go TQ_ok 200 rfl ?_
  refine ldA TQ_ok rfl rfl rfl rfl rfl Bz.all ?_
  refine go TQ_ok 200 rfl ?_
  refine stA TQ_ok rfl rfl rfl rfl (vs := [.slice (some ⟨gx, 0, none⟩) many many, .slice (some ⟨gy, 0, none⟩) many many]) rfl rfl rfl B2 rfl ?_
  intro w5 qk B2 hz5
  have B2 : Bk w5 g2 77 [.slice (some ⟨gx, 0, none⟩) many many, .slice (some ⟨gy, 0, none⟩) many many] := B2
  have Bx := Bx.keep qk (by omega)
  have By := By.keep qk (by omega)
  have q := q.step qk (fun k hk e => by omega)
  refine go TQ_ok 200 rfl ?_
  rw [← hs3]
  exact ret (retR1 Try.results92 (resA TQ_ok rfl rfl rfl B2.all) ⟨gx, gy, rfl, q, by omega, by omega, Bx, By⟩)
end Go.Proofs.Yteenhfnamjbaiaa
namespace Go.Proofs.Yteenhfnamjbaiaa
open Go.Ev Go.Proofs
open Go.Camp (Sc ScOk)
attribute [local irreducible] At AtH
theorem or_one : ∀ s : Fin 128, ∀ b : Fin 2, (s.val * 2 ||| b.val) = s.val * 2 + b.val := by decide
theorem bitw_nat {a b : Nat} (ha : a < 1000000) (hb : b < 1000000) : (bitw .or (a : Int) (b : Int) = ((a ||| b : Nat) : Int)) ∧ bitw .and (a : Int) (b : Int) = ((a &&& b : Nat) : Int) := by
 have h3 : a ||| b < 2 ^ 20 := Nat.or_lt_two_pow (by omega) (by omega)
 have h4 : a &&& b ≤ a := Nat.and_le_left
 unfold bitw
 have e2 : ((BitVec.ofInt 64 (a : Int)) ||| (BitVec.ofInt 64 (b : Int))).toNat = a ||| b := by
  rw [BitVec.ofInt_natCast, BitVec.ofInt_natCast, BitVec.toNat_or, BitVec.toNat_ofNat, BitVec.toNat_ofNat, Nat.mod_eq_of_lt (by omega), Nat.mod_eq_of_lt (by omega)]
 have e3 : ((BitVec.ofInt 64 (a : Int)) &&& (BitVec.ofInt 64 (b : Int))).toNat = a &&& b := by
  rw [BitVec.ofInt_natCast, BitVec.ofInt_natCast, BitVec.toNat_and, BitVec.toNat_ofNat, BitVec.toNat_ofNat, Nat.mod_eq_of_lt (by omega), Nat.mod_eq_of_lt (by omega)]
 simp only
 rw [e2, e3]
 generalize a ||| b = x at *
 generalize a &&& b = y at *
 exact ⟨w64_id (by omega) (by omega), w64_id (by omega) (by omega)⟩
set_option maxRecDepth 20000 in
set_option maxHeartbeats 4000000 in
theorem succ_any (g8 g6 set last bit : Nat) (w0 : World) (B8 : Bk w0 g8 3 [I (set : Int)]) (B6 : Bk w0 g6 3 [I (last : Int)]) (hs : set < 128) (hl : last ≤ 7) (hb : bit < 2) :
  Ret Try.prog 97 [I (bit : Int), .pointer (some ⟨g8, 0, none⟩), .pointer (some ⟨g6, 0, none⟩)] w0 fun v w' => v = I (((set * 2 + bit) % 2 ^ last : Nat) : Int) ∧ Chg No w0 w' := by
 refine enter Try.func97 rfl Try.ntmps97 rfl ?_
 refine go TQ_ok 200 rfl ?_
 refine draw mixed (fun w' => Chg No w0 w') ([0,1,2,3,4,5,6,7,8].map (fun i => (i, true))) rfl (by kernel_rfl) (Chg.drew _) ?_
 refine goH TQ_ok 200 rfl ?_
 repeat (first | (refine quietH rfl (fun w' hS => r_load TQ_ok rfl rfl rfl (Bk.get (B8.no hS) rfl)) ?_; refine goH TQ_ok 200 rfl ?_) | (refine quietH rfl (fun w' hS => r_load TQ_ok rfl rfl rfl (Bk.get (B6.no hS) rfl)) ?_; refine goH TQ_ok 200 rfl ?_))
 refine quietH rfl (fun w' hS => r_shl rfl rfl rfl 1 rfl (by decide)) ?_
 have e1 : w64 ((set : Int) * 2 ^ 1) = ((set * 2 : Nat) : Int) := by rw [w64_id (by omega) (by omega)]; simp
 rw [e1]
 refine goH TQ_ok 200 rfl ?_
 rw [(bitw_nat (a := set * 2) (b := bit) (by omega) (by omega)).1, or_one ⟨set, hs⟩ ⟨bit, hb⟩]
 refine goH TQ_ok 200 rfl ?_
 repeat (first | (refine quietH rfl (fun w' hS => r_load TQ_ok rfl rfl rfl (Bk.get (B6.no hS) rfl)) ?_; refine goH TQ_ok 200 rfl ?_))
 refine quietH rfl (fun w' hS => r_shl rfl rfl rfl last rfl (by omega)) ?_
 have hp : 2 ^ last < 256 := Nat.lt_of_le_of_lt (Nat.pow_le_pow_right (by decide) hl) (by decide)
 have hp0 : 0 < 2 ^ last := Nat.pow_pos (by decide)
 have e2 : w64 ((1 : Int) * 2 ^ last) = ((2 ^ last : Nat) : Int) := by
  have e0 : ((1 : Int) * 2 ^ last) = ((2 ^ last : Nat) : Int) := by simp
  rw [e0]
  generalize 2 ^ last = k at *
  exact w64_id (by omega) (by omega)
 rw [e2]
 refine goH TQ_ok 200 rfl ?_
 have e3 : w64 (((2 ^ last : Nat) : Int) - 1) = ((2 ^ last - 1 : Nat) : Int) := by
  generalize 2 ^ last = k at *
  rw [w64_id (by omega) (by omega)]
  omega
 rw [e3]
 have e4 : (set * 2 + bit) &&& (2 ^ last - 1) = (set * 2 + bit) % 2 ^ last := Nat.and_two_pow_sub_one_eq_mod _ _
 rw [(bitw_nat (a := set * 2 + bit) (b := 2 ^ last - 1) (by omega) (by omega)).2, e4]
 refine endH ?_
 refine go TQ_ok 200 rfl ?_
 exact ret (ret1 (v := I _) Try.results97 rfl ⟨rfl, Chg.drew _⟩)
end Go.Proofs.Yteenhfnamjbaiaa
namespace Go.Proofs.Yteenhfnamjbaiaa
open Go.Ev Go.Proofs
open Go.Camp (Sc ScOk grainsN grainsN_succ grainsN_le trNx trAl trRaw trackP trRaw_ok smE smallP)
attribute [local irreducible] At AtH
def trk15 : F3.Tr := .fork [(0, true), (2, true), (4, true)] (.fin [(1, false), (3, false), (5, false), (6, true), (7, false), (8, false), (9, true), (10, false)]) (.fork [(3, false)] (.fin [(1, false), (5, false), (6, true), (7, false), (8, false), (9, true), (10, false)]) (.fork [(5, false), (6, true)] (.fin [(1, false), (7, false), (8, false), (9, true), (10, false)]) (.fin [(7, false), (1, false), (8, false), (9, true), (10, false)])))
theorem trNx_snoc (need last n : Nat) : (trRaw need last (n + 1)).nx.flatMap nV = (trRaw need last n).nx.flatMap nV ++ nV (trNx last n) := by simp [trRaw, List.range_succ, List.map_append, List.flatMap_append]
theorem trAl_snoc (need last n : Nat) : (trRaw need last (n + 1)).al.flatMap bV = (trRaw need last n).al.flatMap bV ++ bV (trAl need last n) := by simp [trRaw, List.range_succ, List.map_append, List.flatMap_append]
theorem own_apart {w : World} {B1 B2 e1 e2 s1 s2 n1 n2 : Nat} {v1 v2 : Value} {x1 x2 : List Value} (h1 : w.ownsRow B1 e1 s1 v1 n1 x1) (h2 : w.ownsRow B2 e2 s2 v2 n2 x2) (hne : e1 ≠ e2) : ∀ k, v1.ownBlock = some k → v2.ownBlock ≠ some k := by
 intro k hk1 hk2
 rcases h1.2 with ⟨rfl, _⟩ | ⟨g, cap, cur, rfl, _, hg, _⟩
 ·cases hk1
 ·rcases h2.2 with ⟨rfl, _⟩ | ⟨g', cap', cur', rfl, _, hg', _⟩
  ·cases hk2
  ·simp only [Value.ownBlock, Option.some.injEq] at hk1 hk2
   subst hk1
   subst hk2
   rw [hg] at hg'
   injection hg' with hg'
   injection hg' with _ hg'
   exact hne hg'
set_option maxRecDepth 20000 in
set_option maxHeartbeats 16000000 in
theorem Tracker_any (need gap : Int) (w0 : World) : Ret Try.prog 52 [I need, I gap] w0 fun v w' => Chg No w0 w' ∧ ((¬ ((1 ≤ need ∧ need ≤ 5) ∧ 0 ≤ gap ∧ gap ≤ 3) ∧ v = .tuple #[.agg #[.slice none 0 0, .slice none 0 0], I 2]) ∨
  ((1 ≤ need ∧ need ≤ 5) ∧ (0 ≤ gap ∧ gap ≤ 3) ∧ ∃ gx gy n : Nat, v = .tuple #[.agg #[.slice (some ⟨gx, 0, none⟩) n n, .slice (some ⟨gy, 0, none⟩) n n], I 0] ∧ w0.heap.size ≤ gx ∧ w0.heap.size ≤ gy ∧
   Bk w' gx 124 ((trackP need.toNat gap.toNat).nx.flatMap nV) ∧ Bk w' gy 125 ((trackP need.toNat gap.toNat).al.flatMap bV) ∧ n = (smE (trRaw need.toNat (need.toNat + gap.toNat - 1) (2 ^ (need.toNat + gap.toNat - 1)))).2.2)) := by
 refine enter Try.func52 rfl Try.ntmps52 rfl ?_
 refine go TQ_ok 200 rfl ?_
 refine nw rfl rfl (z := .agg #[.slice none 0 0, .slice none 0 0]) (by kernel_rfl) (cs := [.slice none 0 0, .slice none 0 0]) rfl ?_
 intro g4 w hg4 hs4 q B4
 refine go TQ_ok 200 rfl ?_
 repeat ((first | refine ldA TQ_ok rfl rfl rfl rfl rfl (Bk.all B4) ?_ | refine ld TQ_ok rfl rfl rfl rfl (Bk.get B4 rfl) ?_ | refine gT rfl rfl rfl rfl ?_ | refine gF rfl rfl rfl rfl ?_ | refine condT rfl rfl ?_ | refine condF rfl rfl ?_); refine go TQ_ok 200 rfl ?_)
 refine call rfl rfl rfl (ok _ (by decide) rfl) (within_any need 1 5 _) ?_
 rintro x w ⟨rfl, rfl⟩
 by_cases h1 : 1 ≤ need ∧ need ≤ 5
 case neg =>
  rw [decide_eq_false h1]
  refine go TQ_ok 200 rfl ?_
  repeat ((first | refine ldA TQ_ok rfl rfl rfl rfl rfl (Bk.all B4) ?_ | refine ld TQ_ok rfl rfl rfl rfl (Bk.get B4 rfl) ?_ | refine gT rfl rfl rfl rfl ?_ | refine gF rfl rfl rfl rfl ?_ | refine condT rfl rfl ?_ | refine condF rfl rfl ?_); refine go TQ_ok 200 rfl ?_)
  refine stA TQ_ok rfl rfl rfl rfl (vs := [.slice none 0 0, .slice none 0 0]) rfl rfl rfl B4 rfl ?_
  intro w2 qk B4 hz
  have B4 : Bk w2 g4 77 [.slice none 0 0, .slice none 0 0] := B4
  refine go TQ_ok 200 rfl ?_
  exact ret (retR2 Try.results52 (resA TQ_ok rfl rfl rfl B4.all) (s := .tmp 5) (x := I 2) rfl ⟨q.step qk (fun k hk e => by omega), .inl ⟨fun h => h1 h.1, rfl⟩⟩)
 rw [decide_eq_true h1]
 refine go TQ_ok 200 rfl ?_
 repeat ((first | refine ldA TQ_ok rfl rfl rfl rfl rfl (Bk.all B4) ?_ | refine ld TQ_ok rfl rfl rfl rfl (Bk.get B4 rfl) ?_ | refine gT rfl rfl rfl rfl ?_ | refine gF rfl rfl rfl rfl ?_ | refine condT rfl rfl ?_ | refine condF rfl rfl ?_); refine go TQ_ok 200 rfl ?_)
 refine call rfl rfl rfl (ok _ (by decide) rfl) (within_any gap 0 3 _) ?_
 rintro x w ⟨rfl, rfl⟩
 by_cases h2 : 0 ≤ gap ∧ gap ≤ 3
 case neg =>
  rw [decide_eq_false h2]
  refine go TQ_ok 200 rfl ?_
  repeat ((first | refine ldA TQ_ok rfl rfl rfl rfl rfl (Bk.all B4) ?_ | refine ld TQ_ok rfl rfl rfl rfl (Bk.get B4 rfl) ?_ | refine gT rfl rfl rfl rfl ?_ | refine gF rfl rfl rfl rfl ?_ | refine condT rfl rfl ?_ | refine condF rfl rfl ?_); refine go TQ_ok 200 rfl ?_)
  refine stA TQ_ok rfl rfl rfl rfl (vs := [.slice none 0 0, .slice none 0 0]) rfl rfl rfl B4 rfl ?_
  intro w2 qk B4 hz
  have B4 : Bk w2 g4 77 [.slice none 0 0, .slice none 0 0] := B4
  refine go TQ_ok 200 rfl ?_
  exact ret (retR2 Try.results52 (resA TQ_ok rfl rfl rfl B4.all) (s := .tmp 5) (x := I 2) rfl ⟨q.step qk (fun k hk e => by omega), .inl ⟨fun h => h2 h.2, rfl⟩⟩)
 rw [decide_eq_true h2]
 refine go TQ_ok 200 rfl ?_
 repeat ((first | refine ldA TQ_ok rfl rfl rfl rfl rfl (Bk.all B4) ?_ | refine ld TQ_ok rfl rfl rfl rfl (Bk.get B4 rfl) ?_ | refine gT rfl rfl rfl rfl ?_ | refine gF rfl rfl rfl rfl ?_ | refine condT rfl rfl ?_ | refine condF rfl rfl ?_); refine go TQ_ok 200 rfl ?_)
 obtain ⟨nd, rfl⟩ : ∃ k : Nat, need = (k : Int) := ⟨need.toNat, by omega⟩
 obtain ⟨gp, rfl⟩ : ∃ k : Nat, gap = (k : Int) := ⟨gap.toNat, by omega⟩
 rw [Int.toNat_natCast, Int.toNat_natCast]
 obtain ⟨last, hlast⟩ : ∃ k : Nat, k = nd + gp - 1 := ⟨_, rfl⟩
 have hl7 : last ≤ 7 := by omega
 have hp : 2 ^ last ≤ 128 := Nat.le_trans (Nat.pow_le_pow_right (by decide) hl7) (by decide)
 have hp0 : 0 < 2 ^ last := Nat.pow_pos (by decide)
 rw [w64_id (x := (nd : Int) + (gp : Int)) (by omega) (by omega), w64_id (x := (nd : Int) + (gp : Int) - 1) (by omega) (by omega), show (nd : Int) + (gp : Int) - 1 = (last : Int) by omega]
 have htp : trackP nd gp = smallP (trRaw nd last (2 ^ last)) := by rw [hlast]; rfl
 rw [htp, ← hlast]
 refine nw rfl rfl (z := .int .i64 0) (by kernel_rfl) (cs := [I 0]) rfl ?_
 intro g6 w2 hg6 hs6 qk B6
 have B4 := B4.no qk
 have q := q.trans qk
 have l4 := B4.lt
 refine go TQ_ok 200 rfl ?_
 refine st TQ_ok rfl rfl rfl rfl (v := I (last : Int)) rfl rfl B6 rfl ?_
 intro w3 qk B6 hz6
 have B6 : Bk w3 g6 3 [I (last : Int)] := B6
 have B4 := B4.keep qk (by omega)
 have q := q.step qk (fun k hk e => by omega)
 refine go TQ_ok 200 rfl ?_
 refine nw rfl rfl (z := .agg #[.slice none 0 0, .slice none 0 0]) (by kernel_rfl) (cs := [.slice none 0 0, .slice none 0 0]) rfl ?_
 intro g7 w4 hg7 hs7 qk B7
 have B4 := B4.no qk
 have B6 := B6.no qk
 have q := q.trans qk
 have u46 : g4 < g6 := by omega
 have u67 : g6 < g7 := by omega
 refine go TQ_ok 200 rfl ?_
 repeat ((first | refine ldA TQ_ok rfl rfl rfl rfl rfl (Bk.all B4) ?_ | refine ldA TQ_ok rfl rfl rfl rfl rfl (Bk.all B6) ?_ | refine ldA TQ_ok rfl rfl rfl rfl rfl (Bk.all B7) ?_ | refine ld TQ_ok rfl rfl rfl rfl (Bk.get B4 rfl) ?_ | refine ld TQ_ok rfl rfl rfl rfl (Bk.get B6 rfl) ?_ | refine ld TQ_ok rfl rfl rfl rfl (Bk.get B7 rfl) ?_ | refine gT rfl rfl rfl rfl ?_ | refine gF rfl rfl rfl rfl ?_ | refine condT rfl rfl ?_ | refine condF rfl rfl ?_); refine go TQ_ok 200 rfl ?_)
 refine shl rfl rfl rfl rfl last rfl (by omega) ?_
 have e2 : w64 ((1 : Int) * 2 ^ last) = ((2 ^ last : Nat) : Int) := by
  have e0 : ((1 : Int) * 2 ^ last) = ((2 ^ last : Nat) : Int) := by simp
  rw [e0]
  generalize 2 ^ last = k at *
  exact w64_id (by omega) (by omega)
 rw [e2]
 refine go TQ_ok 200 rfl ?_
 obtain ⟨N, hN⟩ : ∃ k : Nat, k = 2 ^ last := ⟨_, rfl⟩
 rw [← hN] at hp hp0 ⊢
 have hw0 : w0.heap.size ≤ g4 := by omega
 clear hg4 hs4 hg6 hs6 hz6 hg7 hs7
 refine loop [0, 4, 6, 7, 26, 27] (fun x : Nat × Option Addr × Nat × Option Addr × Nat => [.int .i64 (nd : Int), .pointer (some ⟨g4, 0, none⟩), .pointer (some ⟨g6, 0, none⟩), .pointer (some ⟨g7, 0, none⟩), .int .i64 (N : Int), .int .i64 (x.1 : Int)])
  (fun x w' => x.1 ≤ N ∧ Chg No w0 w' ∧ Bk w' g4 77 [.slice none 0 0, .slice none 0 0] ∧ Bk w' g6 3 [I (last : Int)] ∧ Bk w' g7 77 [.slice x.2.1 x.1 x.2.2.1, .slice x.2.2.2.1 x.1 x.2.2.2.2] ∧
   w'.ownsRow (g7 + 1) 124 2 (.slice x.2.1 x.1 x.2.2.1) x.1 ((trRaw nd last x.1).nx.flatMap nV) ∧ w'.ownsRow (g7 + 1) 125 2 (.slice x.2.2.2.1 x.1 x.2.2.2.2) x.1 ((trRaw nd last x.1).al.flatMap bV)) (fun x => N - x.1) (0, none, 0, none, 0) (fun _ => rfl) rfl ⟨Nat.zero_le _, q, B4, B6, B7, own_nil, own_nil⟩ ?_
 rintro ⟨s, An, cn, Ao, co⟩ τ w5 ⟨hs, q, B4, B6, B7, on, oo⟩
 simp only at hs B7 on oo
 dsimp only
 refine go TQ_ok 200 rfl ?_
 refine condD rfl (fun hlt => ?_) (fun hlt => ?_)
 ·have hlt : s < N := by have : (s : Int) < (N : Int) := hlt; omega
  have bn : ∀ k, (Value.slice An s cn).ownBlock = some k → k < w5.heap.size := fun k e => lt_own on e
  have bo : ∀ k, (Value.slice Ao s co).ownBlock = some k → k < w5.heap.size := fun k e => lt_own oo e
  refine go TQ_ok 200 rfl ?_
  refine nw rfl rfl (z := .int .i64 0) (by kernel_rfl) (cs := [I 0]) rfl ?_
  intro g8 w6 hg8 hs8 qk B8
  have l7 := B7.lt
  have B4 := B4.no qk
  have B6 := B6.no qk
  have B7 := B7.no qk
  have q := q.trans qk
  have on := own_no on qk
  have oo := own_no oo qk
  refine go TQ_ok 200 rfl ?_
  have lq := q.size
  refine st TQ_ok rfl rfl rfl rfl (v := I (s : Int)) rfl rfl B8 rfl ?_
  intro w7 qk B8 hz8
  have B8 : Bk w7 g8 3 [I (s : Int)] := B8
  have B4 := B4.keep qk (by omega)
  have B6 := B6.keep qk (by omega)
  have B7 := B7.keep qk (by omega)
  have on := own_keep on qk (fun k e hh => by have := bn k e; omega)
  have oo := own_keep oo qk (fun k e hh => by have := bo k e; omega)
  have hq8 := hz8
  have q := q.step qk (fun k hk e => by omega)
  refine go TQ_ok 200 rfl ?_
  repeat ((first | refine ldA TQ_ok rfl rfl rfl rfl rfl (Bk.all B4) ?_ | refine ldA TQ_ok rfl rfl rfl rfl rfl (Bk.all B6) ?_ | refine ldA TQ_ok rfl rfl rfl rfl rfl (Bk.all B7) ?_ | refine ldA TQ_ok rfl rfl rfl rfl rfl (Bk.all B8) ?_ | refine ld TQ_ok rfl rfl rfl rfl (Bk.get B4 rfl) ?_ | refine ld TQ_ok rfl rfl rfl rfl (Bk.get B6 rfl) ?_ | refine ld TQ_ok rfl rfl rfl rfl (Bk.get B7 rfl) ?_ | refine ld TQ_ok rfl rfl rfl rfl (Bk.get B8 rfl) ?_ | refine gT rfl rfl rfl rfl ?_ | refine gF rfl rfl rfl rfl ?_ | refine condT rfl rfl ?_ | refine condF rfl rfl ?_); refine go TQ_ok 200 rfl ?_)
  refine loop [0, 4, 6, 7, 8, 9, 26, 27, 30, 31] (fun i : Nat => [.int .i64 (nd : Int), .pointer (some ⟨g4, 0, none⟩), .pointer (some ⟨g6, 0, none⟩), .pointer (some ⟨g7, 0, none⟩), .pointer (some ⟨g8, 0, none⟩), .int .i64 (grainsN i s : Int), .int .i64 (N : Int), .int .i64 (s : Int), .int .i64 (last : Int), .int .i64 (i : Int)])
   (fun i w' => i ≤ last ∧ w' = w7) (fun i => last - i) 0 (fun _ => rfl) rfl ⟨Nat.zero_le _, rfl⟩ ?_
  rintro i τ w8 ⟨hi, rfl⟩
  refine go TQ_ok 200 rfl ?_
  refine condD rfl (fun hlt => ?_) (fun hlt => ?_)
  ·have hlt : i < last := by have : (i : Int) < (last : Int) := hlt; omega
   have hgl := grainsN_le i s
   refine go TQ_ok 200 rfl ?_
   repeat ((first | refine ldA TQ_ok rfl rfl rfl rfl rfl (Bk.all B4) ?_ | refine ldA TQ_ok rfl rfl rfl rfl rfl (Bk.all B6) ?_ | refine ldA TQ_ok rfl rfl rfl rfl rfl (Bk.all B7) ?_ | refine ldA TQ_ok rfl rfl rfl rfl rfl (Bk.all B8) ?_ | refine ld TQ_ok rfl rfl rfl rfl (Bk.get B4 rfl) ?_ | refine ld TQ_ok rfl rfl rfl rfl (Bk.get B6 rfl) ?_ | refine ld TQ_ok rfl rfl rfl rfl (Bk.get B7 rfl) ?_ | refine ld TQ_ok rfl rfl rfl rfl (Bk.get B8 rfl) ?_ | refine gT rfl rfl rfl rfl ?_ | refine gF rfl rfl rfl rfl ?_ | refine condT rfl rfl ?_ | refine condF rfl rfl ?_); refine go TQ_ok 200 rfl ?_)
   refine shr rfl rfl rfl rfl i rfl (by omega) ?_
   refine go TQ_ok 200 rfl ?_
   have eb : bitw .and ((s : Int).fdiv (2 ^ i)) 1 = (((if s.testBit i then 1 else 0 : Nat)) : Int) := by
    have e1 : (s : Int).fdiv (2 ^ i) = ((s / 2 ^ i : Nat) : Int) := by
     have : ((2 : Int) ^ i) = ((2 ^ i : Nat) : Int) := by simp
     rw [this, Int.fdiv_eq_ediv_of_nonneg _ (Int.natCast_nonneg _)]
     rfl
    have hle : s / 2 ^ i ≤ s := Nat.div_le_self _ _
    rw [e1]
    have := (bitw_nat (a := s / 2 ^ i) (b := 1) (by omega) (by omega)).2
    rw [show ((1 : Nat) : Int) = 1 from rfl] at this
    rw [this, Nat.and_one_is_mod, Nat.testBit_eq_decide_div_mod_eq]
    have h2 := Nat.mod_two_eq_zero_or_one (s / 2 ^ i)
    rcases h2 with h2 | h2 <;> simp [h2]
   rw [eb, w64_id (x := (i : Int) + 1) (by omega) (by omega), w64_id (x := (grainsN i s : Int) + _) (by split <;> omega) (by split <;> omega)]
   exact round ⟨i + 1, by rw [grainsN_succ]; push_cast; rfl, ⟨by omega, rfl⟩, by omega⟩
  obtain rfl : i = last := by have : ¬ (i : Int) < (last : Int) := hlt; omega
  refine go TQ_ok 200 rfl ?_
  have hng : ∀ k, (Value.slice An s cn).ownBlock = some k → g7 + 1 ≤ k := fun k e => own_ge on e
  have hap := own_apart on oo (by decide)
  have l8 := B8.lt
  have l7 := B7.lt
  have lq8 := q.size
  refine go TQ_ok 1 rfl ?_
  refine join [0, 4, 6, 7, 9, 26, 27] (fun x : Option Addr × Nat => [.int .i64 (nd : Int), .pointer (some ⟨g4, 0, none⟩), .pointer (some ⟨g6, 0, none⟩), .pointer (some ⟨g7, 0, none⟩), .int .i64 (grainsN i s : Int), .int .i64 (N : Int), .int .i64 (s : Int)])
   (fun x w' => Chg No w0 w' ∧ Bk w' g4 77 [.slice none 0 0, .slice none 0 0] ∧ Bk w' g6 3 [I (i : Int)] ∧ Bk w' g7 77 [.slice x.1 (s + 1) x.2, .slice Ao s co] ∧ w'.ownsRow (g7 + 1) 124 2 (.slice x.1 (s + 1) x.2) (s + 1) ((trRaw nd i (s + 1)).nx.flatMap nV) ∧ w'.ownsRow (g7 + 1) 125 2 (.slice Ao s co) s ((trRaw nd i s).al.flatMap bV)) (fun _ => rfl) ?_ ?_
  ·refine F3.drawT mixed (fun w' => Chg (fun k => (Value.slice An s cn).ownBlock = some k ∨ k = g7) w8 w') trk15 (by kernel_rfl) ((Chg.drew _).mono fun _ _ h => h.elim) ?_
   have qd : Chg No w8 w8.drew := Chg.drew w8
   refine F3.segK rfl ?_
   refine goH TQ_ok 200 rfl ?_
   refine F3.forkK (qd.mono fun _ _ h => h.elim) ?_ ?_
   ·refine F3.segF rfl ?_
    refine goH TQ_ok 200 rfl ?_
    refine valE rfl (r_load TQ_ok rfl rfl rfl (Bk.get (B7.no qd) rfl)) (qd.mono fun _ _ h => h.elim) ?_
    refine goH TQ_ok 200 rfl ?_
    refine callE rfl rfl rfl (ok _ (by decide) rfl) (succ_any g8 g6 s i 0 _ (B8.no qd) (B6.no qd) (by omega) hl7 (by decide)) ?_
    rintro v w9 ⟨rfl, qk9⟩
    have qd := qd.trans qk9
    refine ⟨qd.mono fun _ _ h => h.elim, ?_⟩
    refine goH TQ_ok 200 rfl ?_
    refine callE rfl rfl rfl (ok _ (by decide) rfl) (succ_any g8 g6 s i 1 _ (B8.no qd) (B6.no qd) (by omega) hl7 (by decide)) ?_
    rintro v w9 ⟨rfl, qk9⟩
    have qd := qd.trans qk9
    refine ⟨qd.mono fun _ _ h => h.elim, ?_⟩
    refine goH TQ_ok 200 rfl ?_
    refine quietH rfl (fun w' hS => r_bldA TQ_ok rfl rfl (z := .agg #[I 0, I 0]) (by kernel_rfl) (cs := nV (trNx i s)) rfl) ?_
    refine goH TQ_ok 200 rfl ?_
    refine rowE TQ_ok rfl rfl rfl rfl rfl rfl (cs := nV (trNx i s)) rfl ?_
    intro gr w11 hgr hsr qk11 Br
    have qd := qd.trans qk11
    refine ⟨qd.mono fun _ _ h => h.elim, ?_⟩
    refine goH TQ_ok 200 rfl ?_
    have on11 := own_no on qd
    have hq11 := qd.size
    refine appSE TQ_ok rfl rfl rfl rfl rfl on11 (Br.sl (sz := 2) (m := 1) rfl) rfl (by show s + 1 ≤ maxLen; unfold maxLen; omega) (by show (s + 1) * 16 ≤ _; omega) (by have := B7.lt; omega) ?_
    intro A2 c2 w12 on12 qk12 hown12
    refine ⟨(qd.mono fun _ _ h => h.elim).trans (qk12.mono fun _ _ h => .inl h), ?_⟩
    refine goH TQ_ok 200 rfl ?_
    have B7x := (B7.no qd).keep qk12 (fun e => by have := hng _ e; omega)
    refine storeE TQ_ok rfl rfl rfl rfl (v := .slice A2 (s + 1) c2) rfl rfl B7x rfl ?_
    intro w13 qk13 B7 hz13
    have B7 : Bk w13 g7 77 [.slice A2 (s + 1) c2, .slice Ao s co] := B7
    refine ⟨((qd.mono fun _ _ h => h.elim).trans (qk12.mono fun _ _ h => .inl h)).trans (qk13.mono fun _ _ h => .inr h), ?_⟩
    refine endH ?_
    have hA2 : ∀ k, (Value.slice A2 (s + 1) c2).ownBlock = some k → k ≠ g7 := fun k e => by have := own_ge on12 e; omega
    refine round ⟨(A2, c2), rfl, ?_, ?_, ?_, B7, ?_, ?_⟩
    ·exact ((q.trans qd).step qk12 (fun k hk e => by have := hng _ e; omega)).step qk13 (fun k hk e => by omega)
    ·exact ((B4.no qd).keep qk12 (fun e => by have := hng _ e; omega)).keep qk13 (by omega)
    ·exact ((B6.no qd).keep qk12 (fun e => by have := hng _ e; omega)).keep qk13 (by omega)
    ·rw [trNx_snoc]
     exact own_keep on12 qk13 (fun k e hh => hA2 k e hh)
    ·exact own_keep (own_keep (own_no oo qd) qk12 (fun k e hh => hap k hh e)) qk13 (fun k e hh => by have := own_ge oo e; omega)
   ·refine F3.segK rfl ?_
    refine goH TQ_ok 200 rfl ?_
    refine callE rfl rfl rfl (ok _ (by decide) rfl) (succ_any g8 g6 s i 0 _ (B8.no qd) (B6.no qd) (by omega) hl7 (by decide)) ?_
    rintro v w9 ⟨rfl, qk9⟩
    have qd := qd.trans qk9
    refine ⟨qd.mono fun _ _ h => h.elim, ?_⟩
    refine goH TQ_ok 200 rfl ?_
    refine F3.forkK (qd.mono fun _ _ h => h.elim) ?_ ?_
    ·refine F3.segF rfl ?_
     refine goH TQ_ok 200 rfl ?_
     refine valE rfl (r_load TQ_ok rfl rfl rfl (Bk.get (B7.no qd) rfl)) (qd.mono fun _ _ h => h.elim) ?_
     refine goH TQ_ok 200 rfl ?_
     refine callE rfl rfl rfl (ok _ (by decide) rfl) (succ_any g8 g6 s i 1 _ (B8.no qd) (B6.no qd) (by omega) hl7 (by decide)) ?_
     rintro v w9 ⟨rfl, qk9⟩
     have qd := qd.trans qk9
     refine ⟨qd.mono fun _ _ h => h.elim, ?_⟩
     refine goH TQ_ok 200 rfl ?_
     refine quietH rfl (fun w' hS => r_bldA TQ_ok rfl rfl (z := .agg #[I 0, I 0]) (by kernel_rfl) (cs := nV (trNx i s)) rfl) ?_
     refine goH TQ_ok 200 rfl ?_
     refine rowE TQ_ok rfl rfl rfl rfl rfl rfl (cs := nV (trNx i s)) rfl ?_
     intro gr w11 hgr hsr qk11 Br
     have qd := qd.trans qk11
     refine ⟨qd.mono fun _ _ h => h.elim, ?_⟩
     refine goH TQ_ok 200 rfl ?_
     have on11 := own_no on qd
     have hq11 := qd.size
     refine appSE TQ_ok rfl rfl rfl rfl rfl on11 (Br.sl (sz := 2) (m := 1) rfl) rfl (by show s + 1 ≤ maxLen; unfold maxLen; omega) (by show (s + 1) * 16 ≤ _; omega) (by have := B7.lt; omega) ?_
     intro A2 c2 w12 on12 qk12 hown12
     refine ⟨(qd.mono fun _ _ h => h.elim).trans (qk12.mono fun _ _ h => .inl h), ?_⟩
     refine goH TQ_ok 200 rfl ?_
     have B7x := (B7.no qd).keep qk12 (fun e => by have := hng _ e; omega)
     refine storeE TQ_ok rfl rfl rfl rfl (v := .slice A2 (s + 1) c2) rfl rfl B7x rfl ?_
     intro w13 qk13 B7 hz13
     have B7 : Bk w13 g7 77 [.slice A2 (s + 1) c2, .slice Ao s co] := B7
     refine ⟨((qd.mono fun _ _ h => h.elim).trans (qk12.mono fun _ _ h => .inl h)).trans (qk13.mono fun _ _ h => .inr h), ?_⟩
     refine endH ?_
     have hA2 : ∀ k, (Value.slice A2 (s + 1) c2).ownBlock = some k → k ≠ g7 := fun k e => by have := own_ge on12 e; omega
     refine round ⟨(A2, c2), rfl, ?_, ?_, ?_, B7, ?_, ?_⟩
     ·exact ((q.trans qd).step qk12 (fun k hk e => by have := hng _ e; omega)).step qk13 (fun k hk e => by omega)
     ·exact ((B4.no qd).keep qk12 (fun e => by have := hng _ e; omega)).keep qk13 (by omega)
     ·exact ((B6.no qd).keep qk12 (fun e => by have := hng _ e; omega)).keep qk13 (by omega)
     ·rw [trNx_snoc]
      exact own_keep on12 qk13 (fun k e hh => hA2 k e hh)
     ·exact own_keep (own_keep (own_no oo qd) qk12 (fun k e hh => hap k hh e)) qk13 (fun k e hh => by have := own_ge oo e; omega)
    ·refine F3.segK rfl ?_
     refine goH TQ_ok 200 rfl ?_
     refine callE rfl rfl rfl (ok _ (by decide) rfl) (succ_any g8 g6 s i 1 _ (B8.no qd) (B6.no qd) (by omega) hl7 (by decide)) ?_
     rintro v w9 ⟨rfl, qk9⟩
     have qd := qd.trans qk9
     refine ⟨qd.mono fun _ _ h => h.elim, ?_⟩
     refine goH TQ_ok 200 rfl ?_
     refine quietH rfl (fun w' hS => r_bldA TQ_ok rfl rfl (z := .agg #[I 0, I 0]) (by kernel_rfl) (cs := nV (trNx i s)) rfl) ?_
     refine goH TQ_ok 200 rfl ?_
     refine F3.forkK (qd.mono fun _ _ h => h.elim) ?_ ?_
     ·refine F3.segF rfl ?_
      refine goH TQ_ok 200 rfl ?_
      refine valE rfl (r_load TQ_ok rfl rfl rfl (Bk.get (B7.no qd) rfl)) (qd.mono fun _ _ h => h.elim) ?_
      refine goH TQ_ok 200 rfl ?_
      refine rowE TQ_ok rfl rfl rfl rfl rfl rfl (cs := nV (trNx i s)) rfl ?_
      intro gr w11 hgr hsr qk11 Br
      have qd := qd.trans qk11
      refine ⟨qd.mono fun _ _ h => h.elim, ?_⟩
      refine goH TQ_ok 200 rfl ?_
      have on11 := own_no on qd
      have hq11 := qd.size
      refine appSE TQ_ok rfl rfl rfl rfl rfl on11 (Br.sl (sz := 2) (m := 1) rfl) rfl (by show s + 1 ≤ maxLen; unfold maxLen; omega) (by show (s + 1) * 16 ≤ _; omega) (by have := B7.lt; omega) ?_
      intro A2 c2 w12 on12 qk12 hown12
      refine ⟨(qd.mono fun _ _ h => h.elim).trans (qk12.mono fun _ _ h => .inl h), ?_⟩
      refine goH TQ_ok 200 rfl ?_
      have B7x := (B7.no qd).keep qk12 (fun e => by have := hng _ e; omega)
      refine storeE TQ_ok rfl rfl rfl rfl (v := .slice A2 (s + 1) c2) rfl rfl B7x rfl ?_
      intro w13 qk13 B7 hz13
      have B7 : Bk w13 g7 77 [.slice A2 (s + 1) c2, .slice Ao s co] := B7
      refine ⟨((qd.mono fun _ _ h => h.elim).trans (qk12.mono fun _ _ h => .inl h)).trans (qk13.mono fun _ _ h => .inr h), ?_⟩
      refine endH ?_
      have hA2 : ∀ k, (Value.slice A2 (s + 1) c2).ownBlock = some k → k ≠ g7 := fun k e => by have := own_ge on12 e; omega
      refine round ⟨(A2, c2), rfl, ?_, ?_, ?_, B7, ?_, ?_⟩
      ·exact ((q.trans qd).step qk12 (fun k hk e => by have := hng _ e; omega)).step qk13 (fun k hk e => by omega)
      ·exact ((B4.no qd).keep qk12 (fun e => by have := hng _ e; omega)).keep qk13 (by omega)
      ·exact ((B6.no qd).keep qk12 (fun e => by have := hng _ e; omega)).keep qk13 (by omega)
      ·rw [trNx_snoc]
       exact own_keep on12 qk13 (fun k e hh => hA2 k e hh)
      ·exact own_keep (own_keep (own_no oo qd) qk12 (fun k e hh => hap k hh e)) qk13 (fun k e hh => by have := own_ge oo e; omega)
     ·refine F3.segF rfl ?_
      refine goH TQ_ok 200 rfl ?_
      refine rowE TQ_ok rfl rfl rfl rfl rfl rfl (cs := nV (trNx i s)) rfl ?_
      intro gr w11 hgr hsr qk11 Br
      have qd := qd.trans qk11
      refine ⟨qd.mono fun _ _ h => h.elim, ?_⟩
      refine goH TQ_ok 200 rfl ?_
      refine valE rfl (r_load TQ_ok rfl rfl rfl (Bk.get (B7.no qd) rfl)) (qd.mono fun _ _ h => h.elim) ?_
      refine goH TQ_ok 200 rfl ?_
      have on11 := own_no on qd
      have hq11 := qd.size
      refine appSE TQ_ok rfl rfl rfl rfl rfl on11 (Br.sl (sz := 2) (m := 1) rfl) rfl (by show s + 1 ≤ maxLen; unfold maxLen; omega) (by show (s + 1) * 16 ≤ _; omega) (by have := B7.lt; omega) ?_
      intro A2 c2 w12 on12 qk12 hown12
      refine ⟨(qd.mono fun _ _ h => h.elim).trans (qk12.mono fun _ _ h => .inl h), ?_⟩
      refine goH TQ_ok 200 rfl ?_
      have B7x := (B7.no qd).keep qk12 (fun e => by have := hng _ e; omega)
      refine storeE TQ_ok rfl rfl rfl rfl (v := .slice A2 (s + 1) c2) rfl rfl B7x rfl ?_
      intro w13 qk13 B7 hz13
      have B7 : Bk w13 g7 77 [.slice A2 (s + 1) c2, .slice Ao s co] := B7
      refine ⟨((qd.mono fun _ _ h => h.elim).trans (qk12.mono fun _ _ h => .inl h)).trans (qk13.mono fun _ _ h => .inr h), ?_⟩
      refine endH ?_
      have hA2 : ∀ k, (Value.slice A2 (s + 1) c2).ownBlock = some k → k ≠ g7 := fun k e => by have := own_ge on12 e; omega
      refine round ⟨(A2, c2), rfl, ?_, ?_, ?_, B7, ?_, ?_⟩
      ·exact ((q.trans qd).step qk12 (fun k hk e => by have := hng _ e; omega)).step qk13 (fun k hk e => by omega)
      ·exact ((B4.no qd).keep qk12 (fun e => by have := hng _ e; omega)).keep qk13 (by omega)
      ·exact ((B6.no qd).keep qk12 (fun e => by have := hng _ e; omega)).keep qk13 (by omega)
      ·rw [trNx_snoc]
       exact own_keep on12 qk13 (fun k e hh => hA2 k e hh)
      ·exact own_keep (own_keep (own_no oo qd) qk12 (fun k e hh => hap k hh e)) qk13 (fun k e hh => by have := own_ge oo e; omega)
  rintro ⟨A2, c2⟩ τ w9 ⟨q, B4, B6, B7, on, oo⟩
  simp only at B7 on oo
  have hap := own_apart oo on (by decide)
  have hq9 := q.size
  refine go TQ_ok 200 rfl ?_
  repeat ((first | refine ldA TQ_ok rfl rfl rfl rfl rfl (Bk.all B7) ?_ | refine ld TQ_ok rfl rfl rfl rfl (Bk.get B7 rfl) ?_ | refine gT rfl rfl rfl rfl ?_ | refine gF rfl rfl rfl rfl ?_ | refine condT rfl rfl ?_ | refine condF rfl rfl ?_); refine go TQ_ok 200 rfl ?_)
  have etr : bV (trAl nd i s) = [.bool false, .bool (decide ((nd : Int) ≤ (grainsN i s : Int)))] := by
   show [Value.bool false, .bool (decide (nd ≤ grainsN i s))] = _
   have : decide ((nd : Int) ≤ (grainsN i s : Int)) = decide (nd ≤ grainsN i s) := by by_cases h : nd ≤ grainsN i s <;> simp [h]
   rw [this]
  refine bldA TQ_ok rfl rfl rfl (z := .agg #[.bool false, .bool false]) (by kernel_rfl) (cs := [.bool false, .bool (decide ((nd : Int) ≤ (grainsN i s : Int)))]) rfl ?_
  refine go TQ_ok 200 rfl ?_
  refine app1 TQ_ok rfl rfl rfl rfl rfl rfl (cs := [.bool false, .bool (decide ((nd : Int) ≤ (grainsN i s : Int)))]) rfl rfl rfl rfl (fun _ => rfl) (fun _ => rfl) (fun _ => rfl) oo (by show s + 1 ≤ maxLen; unfold maxLen; omega) (by show (s + 1) * 2 ≤ _; omega) (by have := B7.lt; omega) ?_
  intro gx A3 c3 w10 oo3 q10 hs10 hown
  have hgo : ∀ k, (Value.slice Ao s co).ownBlock = some k → g7 + 1 ≤ k := fun k e => own_ge oo e
  have B4 := B4.keep q10 (fun e => by have := hgo _ e; omega)
  have B6 := B6.keep q10 (fun e => by have := hgo _ e; omega)
  have B7 := B7.keep q10 (fun e => by have := hgo _ e; omega)
  have on := own_keep on q10 (fun k e hh => hap k hh e)
  have q := q.step q10 (fun k hk e => by have := hgo _ e; omega)
  refine go TQ_ok 200 rfl ?_
  refine st TQ_ok rfl rfl rfl rfl (v := .slice A3 (s + 1) c3) rfl rfl B7 rfl ?_
  intro w11 q11 B7 hz11
  have B7 : Bk w11 g7 77 [.slice A2 (s + 1) c2, .slice A3 (s + 1) c3] := B7
  have B4 := B4.keep q11 (by omega)
  have B6 := B6.keep q11 (by omega)
  have on := own_keep on q11 (fun k e hh => by have := own_ge on e; omega)
  have oo3 := own_keep oo3 q11 (fun k e hh => by have := own_ge oo3 e; omega)
  have q := q.step q11 (fun k hk e => by omega)
  refine go TQ_ok 200 rfl ?_
  rw [w64_id (x := (s : Int) + 1) (by omega) (by omega)]
  refine round ⟨(s + 1, A2, c2, A3, c3), rfl, ⟨by simp only; omega, q, B4, B6, B7, on, ?_⟩, by simp only; omega⟩
  simp only
  rw [trAl_snoc, etr]
  exact oo3
 ·obtain rfl : s = N := by have : ¬ (s : Int) < (N : Int) := hlt; omega
  have hok : ScOk (trRaw nd last s) := by rw [hN]; exact trRaw_ok hl7
  have hlN : (trRaw nd last s).nx.length = s := by simp [trRaw]
  have hlO : (trRaw nd last s).al.length = s := by simp [trRaw]
  have hq := q.size
  have HM : ScM w5 w5.heap.size ⟨⟨An, (trRaw nd last s).nx, cn⟩, ⟨Ao, (trRaw nd last s).al, co⟩⟩ := ⟨by show Sl w5 _ 2 An (trRaw nd last s).nx.length _; rw [hlN]; exact own_sl on, by show Sl w5 _ 2 Ao (trRaw nd last s).al.length _; rw [hlO]; exact own_sl oo, by show (trRaw nd last s).nx.length ≤ _; omega, by show (trRaw nd last s).al.length ≤ _; omega⟩
  have hL : scL ⟨⟨An, (trRaw nd last s).nx, cn⟩, ⟨Ao, (trRaw nd last s).al, co⟩⟩ = [.slice An s cn, .slice Ao s co] := by show [Value.slice An (trRaw nd last s).nx.length cn, Value.slice Ao (trRaw nd last s).al.length co] = _; rw [hlN, hlO]
  have hsc : scP ⟨⟨An, (trRaw nd last s).nx, cn⟩, ⟨Ao, (trRaw nd last s).al, co⟩⟩ = trRaw nd last s := rfl
  have X := smallest_any _ _ _ HM hok
  rw [hL, hsc] at X
  refine go TQ_ok 200 rfl ?_
  refine ldA TQ_ok rfl rfl rfl rfl rfl B7.all ?_
  refine go TQ_ok 200 rfl ?_
  refine call rfl rfl rfl (ok _ (by decide) rfl) X ?_
  rintro v w6 ⟨gx, gy, rfl, qk, ge1, ge2, Bx, By⟩
  have l4 := B4.lt
  have B4 := B4.no qk
  have q := q.trans qk
  refine go TQ_ok 200 rfl ?_
  refine stA TQ_ok rfl rfl rfl rfl (vs := [.slice (some ⟨gx, 0, none⟩) (smE (trRaw nd last s)).2.2 (smE (trRaw nd last s)).2.2, .slice (some ⟨gy, 0, none⟩) (smE (trRaw nd last s)).2.2 (smE (trRaw nd last s)).2.2]) rfl rfl rfl B4 rfl ?_
  intro w7 qk B4 hz7
  have B4 : Bk w7 g4 77 [.slice (some ⟨gx, 0, none⟩) (smE (trRaw nd last s)).2.2 (smE (trRaw nd last s)).2.2, .slice (some ⟨gy, 0, none⟩) (smE (trRaw nd last s)).2.2 (smE (trRaw nd last s)).2.2] := B4
  have Bx := Bx.keep qk (by omega)
  have By := By.keep qk (by omega)
  refine go TQ_ok 200 rfl ?_
  exact ret (retR2 Try.results52 (resA TQ_ok rfl rfl rfl B4.all) (s := .tmp 5) (x := I 0) rfl ⟨q.step qk (fun k hk e => by omega), .inr ⟨h1, h2, gx, gy, _, rfl, by omega, by omega, Bx, By, rfl⟩⟩)
end Go.Proofs.Yteenhfnamjbaiaa
namespace Go.Proofs.Yteenhfnamjbaiaa
open Go.Ev Go.Proofs
open Go.Camp (Wy)
attribute [local irreducible] At AtH
def TD : Tab := [(158, .str 1 [(0,1,false)] [.slice none 0 0]), (156, .slc 164 3 40), (164, .str 3 [(0,1,false),(1,1,false),(2,1,false)] [I 0, I 0, .slice none 0 0]), (46, .slc 4 1 1), (160, .one), (155, .one)] ++ TQ
theorem TD_ok : tabOk Try.prog TD = true := by kernel_rfl
/-- a pair that waits: where its cells lie -/
structure En where
 w : Wy
 A : Option Addr
 c : Nat
def enL (e : En) : List Value := [I (e.w.1 : Int), I (e.w.2.1 : Int), .slice e.A e.w.2.2.length e.c]
theorem enL_len (e : En) : (enL e).length = 3 := rfl
theorem enL_one (e : En) : (enL e).all (·.oneCell') = true := rfl
def trPut : F3.Tr := .fork [(0, true), (1, true), (2, true), (3, true), (5, true)] (.fin [(4, false), (6, false), (7, false), (8, true), (9, true), (10, false)]) (.fin [(6, false), (4, false), (7, false), (8, true), (9, true), (10, false)])
/-- the queue -/
structure Qu (w : World) (B gr : Nat) (A : Option Addr) (c : Nat) (q : List En) : Prop where
 b : Bk w gr 158 [.slice A q.length c]
 o : OwnQ w B 164 3 (.slice A q.length c) q.length (q.flatMap enL)
theorem Qu.no {w w' : World} {B gr c : Nat} {A : Option Addr} {q : List En} (h : Qu w B gr A c q) (k : Chg No w w') : Qu w' B gr A c q := ⟨h.b.no k, h.o.no k⟩
/-- the blocks that a queue writes into hold no cells of another type -/
def mineQ (gr : Nat) (A : Option Addr) : Nat → Prop := fun k => k = gr ∨ A.map (·.block) = some k
theorem ownQ_block {w : World} {B e sz n : Nat} {A : Option Addr} {c : Nat} {xs : List Value} (h : OwnQ w B e sz (.slice A n c) n xs) {k : Nat} (hk : A.map (·.block) = some k) : ∃ cur fz, w.heap[k]? = some (.cells cur e fz) := by
 rcases h.2 with ⟨hv, _⟩ | ⟨g, off, cap, cur, hv, _, hg, _⟩
 ·injection hv with hA; subst hA; cases hk
 ·injection hv with hA; subst hA
  simp only [Option.map_some, Option.some.injEq] at hk
  subst hk
  exact ⟨_, _, hg⟩
theorem own_map (A : Option Addr) (n c : Nat) : (Value.slice A n c).ownBlock = A.map (·.block) := by cases A <;> rfl
theorem qu_ne {w : World} {B gr c : Nat} {A : Option Addr} {q : List En} (h : Qu w B gr A c q) {k : Nat} (hk : A.map (·.block) = some k) : k ≠ gr := by
 intro e
 subst e
 obtain ⟨cur, fz, hg⟩ := ownQ_block h.o hk
 have hb := h.b
 unfold Bk at hb
 rw [hb] at hg
 injection hg with hg
 injection hg with _ hg
 cases hg
set_option maxRecDepth 20000 in
set_option maxHeartbeats 8000000 in
theorem put_any (gr B c : Nat) (A : Option Addr) (q : List En) (e : En) (w0 : World) (H : Qu w0 B gr A c q) (hB : B ≤ w0.heap.size) (hq : q.length ≤ 20000) :
  Ret Try.prog 159 [.pointer (some ⟨gr, 0, none⟩), .agg (enL e).toArray] w0 fun _ w' => ∃ A' c', Qu w' B gr A' c' (q ++ [e]) ∧ Chg (mineQ gr A) w0 w' ∧ (A'.map (·.block) = A.map (·.block) ∨ ∃ k, A'.map (·.block) = some k ∧ w0.heap.size ≤ k) := by
 refine enter Try.func159 rfl Try.ntmps159 rfl ?_
 refine go TD_ok 200 rfl ?_
 refine bx rfl rfl rfl (cs := enL e) rfl ?_
 intro g3 u3 hg3 hs3 q3 B3
 have q0 := q3
 have lr := H.b.lt
 have hA0 : ∀ k, A.map (·.block) = some k → k < w0.heap.size := fun k hk => H.o.lt (by rw [own_map]; exact hk)
 have H := H.no q0
 refine F3.drawT mixed (fun w' => Chg (mineQ gr A) u3 w') trPut (by kernel_rfl) ((Chg.drew _).mono fun _ _ h => h.elim) ?_
 have qd : Chg No u3 u3.drew := Chg.drew u3
 have hl3 : ∀ k, A.map (·.block) = some k → k ≠ g3 := fun k hk e' => by
  have := hA0 k hk
  omega
 have hn3 : ¬ mineQ gr A g3 := fun h => by
  rcases h with h | h
  ·omega
  ·exact hl3 _ h rfl
 refine F3.segK rfl ?_
 refine goH TD_ok 200 rfl ?_
 refine quietH rfl (fun w' hS => r_loadA TD_ok rfl rfl rfl rfl (B3.keep hS hn3).all) ?_
 refine goH TD_ok 200 rfl ?_
 refine F3.forkK (qd.mono fun _ _ h => h.elim) ?_ ?_
 ·refine F3.segF rfl ?_
  refine goH TD_ok 200 rfl ?_
  refine valE rfl (r_load TD_ok rfl rfl rfl (Bk.get (H.b.no qd) rfl)) (qd.mono fun _ _ h => h.elim) ?_
  refine goH TD_ok 200 rfl ?_
  refine rowE TD_ok rfl rfl rfl rfl rfl rfl (cs := enL e) rfl ?_
  intro gw w11 hgr hsr qk11 Br
  have qd := qd.trans qk11
  refine ⟨qd.mono fun _ _ h => h.elim, ?_⟩
  refine goH TD_ok 200 rfl ?_
  refine appQE TD_ok rfl rfl rfl rfl rfl (H.o.no qd) (Br.sl (sz := 3) (m := 1) rfl) (enL_one e) (by unfold maxLen; omega) (by show (q.length + 1) * 40 ≤ _; omega) (by have := qd.size; omega) (by decide) ?_
  intro A2 c2 w12 o12 qk12 hat
  rw [own_map] at qk12
  refine ⟨(qd.mono fun _ _ h => h.elim).trans (qk12.mono fun _ _ h => .inr h), ?_⟩
  refine goH TD_ok 200 rfl ?_
  have Hb := (H.b.no qd).keep qk12 (fun h => qu_ne H h rfl)
  refine storeE TD_ok rfl rfl rfl rfl (v := .slice A2 (q.length + 1) c2) rfl rfl Hb rfl ?_
  intro w13 qk13 Hb hz13
  have Hb : Bk w13 gr 158 [.slice A2 (q.length + 1) c2] := Hb
  have qz : Chg (mineQ gr A) u3 w13 := ((qd.mono fun _ _ h => h.elim).trans (qk12.mono fun _ _ h => .inr h)).trans (qk13.mono fun _ _ h => .inl h)
  refine ⟨qz, ?_⟩
  refine endH ?_
  have hA2 : A2.map (·.block) = A.map (·.block) ∨ ∃ k, A2.map (·.block) = some k ∧ w0.heap.size ≤ k := by
   rw [own_map, own_map] at hat
   rcases hat with h | h
   ·exact .inl h
   ·exact .inr ⟨_, h, by have := qd.size; have := q0.size; omega⟩
  have hne : ∀ k, A2.map (·.block) = some k → k ≠ gr := fun k hk => by
   rcases hA2 with h | ⟨k', h, hk'⟩
   ·exact qu_ne H (h ▸ hk)
   ·rw [hk] at h; injection h with h; omega
  have e1 : (q ++ [e]).length = q.length + 1 := by simp
  have e2 : (q ++ [e]).flatMap enL = q.flatMap enL ++ enL e := by simp
  refine fin (ret0 Try.results159 ⟨A2, c2, ⟨by rw [e1]; exact Hb, ?_⟩, (q0.mono fun _ _ h => h.elim).trans qz, hA2⟩)
  rw [e1, e2]
  exact o12.keep qk13 (fun k hk e => hne k (by rw [own_map] at hk; exact hk) e)
 ·refine F3.segF rfl ?_
  refine goH TD_ok 200 rfl ?_
  refine rowE TD_ok rfl rfl rfl rfl rfl rfl (cs := enL e) rfl ?_
  intro gw w11 hgr hsr qk11 Br
  have qd := qd.trans qk11
  refine ⟨qd.mono fun _ _ h => h.elim, ?_⟩
  refine goH TD_ok 200 rfl ?_
  refine valE rfl (r_load TD_ok rfl rfl rfl (Bk.get (H.b.no qd) rfl)) (qd.mono fun _ _ h => h.elim) ?_
  refine goH TD_ok 200 rfl ?_
  refine appQE TD_ok rfl rfl rfl rfl rfl (H.o.no qd) (Br.sl (sz := 3) (m := 1) rfl) (enL_one e) (by unfold maxLen; omega) (by show (q.length + 1) * 40 ≤ _; omega) (by have := qd.size; omega) (by decide) ?_
  intro A2 c2 w12 o12 qk12 hat
  rw [own_map] at qk12
  refine ⟨(qd.mono fun _ _ h => h.elim).trans (qk12.mono fun _ _ h => .inr h), ?_⟩
  refine goH TD_ok 200 rfl ?_
  have Hb := (H.b.no qd).keep qk12 (fun h => qu_ne H h rfl)
  refine storeE TD_ok rfl rfl rfl rfl (v := .slice A2 (q.length + 1) c2) rfl rfl Hb rfl ?_
  intro w13 qk13 Hb hz13
  have Hb : Bk w13 gr 158 [.slice A2 (q.length + 1) c2] := Hb
  have qz : Chg (mineQ gr A) u3 w13 := ((qd.mono fun _ _ h => h.elim).trans (qk12.mono fun _ _ h => .inr h)).trans (qk13.mono fun _ _ h => .inl h)
  refine ⟨qz, ?_⟩
  refine endH ?_
  have hA2 : A2.map (·.block) = A.map (·.block) ∨ ∃ k, A2.map (·.block) = some k ∧ w0.heap.size ≤ k := by
   rw [own_map, own_map] at hat
   rcases hat with h | h
   ·exact .inl h
   ·exact .inr ⟨_, h, by have := qd.size; have := q0.size; omega⟩
  have hne : ∀ k, A2.map (·.block) = some k → k ≠ gr := fun k hk => by
   rcases hA2 with h | ⟨k', h, hk'⟩
   ·exact qu_ne H (h ▸ hk)
   ·rw [hk] at h; injection h with h; omega
  have e1 : (q ++ [e]).length = q.length + 1 := by simp
  have e2 : (q ++ [e]).flatMap enL = q.flatMap enL ++ enL e := by simp
  refine fin (ret0 Try.results159 ⟨A2, c2, ⟨by rw [e1]; exact Hb, ?_⟩, (q0.mono fun _ _ h => h.elim).trans qz, hA2⟩)
  rw [e1, e2]
  exact o12.keep qk13 (fun k hk e => hne k (by rw [own_map] at hk; exact hk) e)
set_option maxRecDepth 20000 in
set_option maxHeartbeats 8000000 in
theorem take_any (gr B c : Nat) (A : Option Addr) (q : List En) (w0 : World) (H0 : Qu w0 B gr A c q) (hq : q.length ≤ 20000) :
  Ret Try.prog 160 [.pointer (some ⟨gr, 0, none⟩)] w0 fun v w' => (q = [] ∧ v = .tuple #[.agg #[I 0, I 0, .slice none 0 0], .bool false] ∧ Chg No w0 w') ∨
   ∃ e r, q = e :: r ∧ v = .tuple #[.agg (enL e).toArray, .bool true] ∧ ∃ A' c', Qu w' B gr A' c' r ∧ Chg (fun k => k = gr) w0 w' ∧ A'.map (·.block) = A.map (·.block) := by
 refine enter Try.func160 rfl Try.ntmps160 rfl ?_
 refine go TD_ok 200 rfl ?_
 refine nw rfl rfl (z := .agg #[I 0, I 0, .slice none 0 0]) (by kernel_rfl) (cs := [I 0, I 0, .slice none 0 0]) rfl ?_
 intro g2 w hg2 hs2 q0 B2
 have lr := H0.b.lt
 have H := H0.no q0
 have hAw0 : ∀ k, A.map (·.block) = some k → k < w0.heap.size := fun k hk => H0.o.lt (by rw [own_map]; exact hk)
 have hAw : ∀ k, A.map (·.block) = some k → k < w.heap.size := fun k hk => by have := hAw0 k hk; omega
 have Bq := H.b
 cases q with
 | nil =>
  refine go TD_ok 200 rfl ?_
  repeat ((first | refine ldA TD_ok rfl rfl rfl rfl rfl (Bk.all Bq) ?_ | refine ld TD_ok rfl rfl rfl rfl (Bk.get Bq rfl) ?_ | refine gT rfl rfl rfl rfl ?_ | refine gF rfl rfl rfl rfl ?_ | refine condT rfl rfl ?_ | refine condF rfl rfl ?_); refine go TD_ok 200 rfl ?_)
  refine stA TD_ok rfl rfl rfl rfl (vs := [I 0, I 0, .slice none 0 0]) rfl rfl rfl B2 rfl ?_
  intro w2 qk B2 hz
  have B2 : Bk w2 g2 164 [I 0, I 0, .slice none 0 0] := B2
  refine go TD_ok 200 rfl ?_
  exact ret (retR2 Try.results160 (resA TD_ok rfl rfl rfl B2.all) (s := .tmp 3) (x := .bool false) rfl (.inl ⟨rfl, rfl, q0.step qk (fun k hk e => by omega)⟩))
 | cons e r =>
  have e0 : (((e :: r).length : Int) == 0) = false := by simp; omega
  refine go TD_ok 200 rfl ?_
  repeat ((first | refine ldA TD_ok rfl rfl rfl rfl rfl (Bk.all Bq) ?_ | refine ld TD_ok rfl rfl rfl rfl (Bk.get Bq rfl) ?_ | refine gT rfl rfl rfl rfl ?_ | refine gF rfl rfl rfl rfl ?_ | refine condT rfl rfl ?_ | refine condF rfl rfl ?_); refine go TD_ok 200 rfl ?_)
  rw [e0]
  refine go TD_ok 200 rfl ?_
  repeat ((first | refine ldA TD_ok rfl rfl rfl rfl rfl (Bk.all Bq) ?_ | refine ld TD_ok rfl rfl rfl rfl (Bk.get Bq rfl) ?_ | refine gT rfl rfl rfl rfl ?_ | refine gF rfl rfl rfl rfl ?_ | refine condT rfl rfl ?_ | refine condF rfl rfl ?_); refine go TD_ok 200 rfl ?_)
  obtain ⟨b1, o1, hA1, hb1, hc1⟩ := Sl.el (f := enL) (j := 0) (x := e) H.o.sl enL_len rfl
  rw [hA1]
  refine idx TD_ok rfl rfl rfl rfl rfl 0 rfl (by simp) ?_
  refine go TD_ok 200 rfl ?_
  refine ldA TD_ok rfl rfl rfl rfl rfl hc1 ?_
  rw [← hA1]
  refine go TD_ok 200 rfl ?_
  refine nw rfl rfl (z := .agg #[I 0, I 0, .slice none 0 0]) (by kernel_rfl) (cs := [I 0, I 0, .slice none 0 0]) rfl ?_
  intro g4 w2 hg4 hs4 qk B4
  have B2 := B2.no qk
  have H := H.no qk
  have q1 := q0.trans qk
  have lq := q0.size
  refine go TD_ok 200 rfl ?_
  refine stA TD_ok rfl rfl rfl rfl (vs := enL e) rfl rfl rfl B4 rfl ?_
  intro w3 qk B4 hz3
  have B4 : Bk w3 g4 164 (enL e) := B4
  have B2 := B2.keep qk (by omega)
  have hA0 : ∀ k, A.map (·.block) = some k → k < w.heap.size := fun k hk => hAw k hk
  have H : Qu w3 B gr A c (e :: r) := ⟨H.b.keep qk (by omega), H.o.keep qk (fun k hk e' => by rw [own_map] at hk; have := hA0 k hk; omega)⟩
  have q1 : Chg No w0 w3 := q1.step qk (fun k hk e => by omega)
  have Bq := H.b
  refine go TD_ok 200 rfl ?_
  repeat ((first | refine ldA TD_ok rfl rfl rfl rfl rfl (Bk.all Bq) ?_ | refine ld TD_ok rfl rfl rfl rfl (Bk.get Bq rfl) ?_ | refine gT rfl rfl rfl rfl ?_ | refine gF rfl rfl rfl rfl ?_ | refine condT rfl rfl ?_ | refine condF rfl rfl ?_); refine go TD_ok 200 rfl ?_)
  refine slcLo TD_ok rfl rfl rfl rfl rfl 1 rfl (by simp) ?_
  intro A' hA'
  have o' := H.o.drop 1 (by simp) hA'
  have hAb : A'.map (·.block) = A.map (·.block) := by
   rw [hA']
   split
   ·rfl
   ·rw [hA1]
    simp [Addr.add_mid]
  refine go TD_ok 200 rfl ?_
  refine st TD_ok rfl rfl rfl rfl (v := .slice A' (r.length + 1 - 1) (c - 1)) rfl rfl Bq rfl ?_
  intro w4 qk Bq hz4
  have Bq : Bk w4 gr 158 [.slice A' r.length (c - 1)] := Bq
  have B2 := B2.keep qk (by omega)
  have B4 := B4.keep qk (by omega)
  have o' := o'.keep qk (fun k hk e' => by rw [own_map, hAb] at hk; exact qu_ne H hk e')
  refine go TD_ok 200 rfl ?_
  repeat ((first | refine ldA TD_ok rfl rfl rfl rfl rfl (Bk.all B4) ?_ | refine ld TD_ok rfl rfl rfl rfl (Bk.get B4 rfl) ?_ | refine gT rfl rfl rfl rfl ?_ | refine gF rfl rfl rfl rfl ?_ | refine condT rfl rfl ?_ | refine condF rfl rfl ?_); refine go TD_ok 200 rfl ?_)
  refine stA TD_ok rfl rfl rfl rfl (vs := enL e) rfl rfl rfl B2 rfl ?_
  intro w5 qk5 B2 hz5
  have B2 : Bk w5 g2 164 (enL e) := B2
  have q2 : Chg (fun k => k = gr) w0 w5 := by
   have x1 : Chg (fun k => k = gr) w0 w4 := (q1.mono fun _ _ h => h.elim).trans qk
   exact x1.step qk5 (fun k hk e => by omega)
  have Bq := Bq.keep qk5 (by omega)
  have o' : OwnQ w4 B 164 3 (.slice A' r.length (c - 1)) r.length (r.flatMap enL) := o'
  have o' := o'.keep qk5 (fun k hk e' => by rw [own_map, hAb] at hk; have := hAw0 k hk; omega)
  refine go TD_ok 200 rfl ?_
  exact ret (retR2 Try.results160 (resA TD_ok rfl rfl rfl B2.all) (s := .tmp 3) (x := .bool true) rfl (.inr ⟨e, r, rfl, rfl, A', c - 1, ⟨Bq, o'⟩, q2, hAb⟩))
end Go.Proofs.Yteenhfnamjbaiaa
namespace Go.Ev
open Go.RowKit
section
variable {P : Program} {T : Tab} {n : Nat} {R : Env → World → Prop} {fr : Fra} {all : Array Oper} {l : List Oper} {k : List It} {ρ : Env} {dec : List Nat} {w w' : World} {o : Oper} {x y : Operand}
variable {kt e t : TypeId} {b m : Nat} {α β : Type} {ek : α → Value} {eb : β → Value} {g : α → Option β}
/-- a store into a map, of a map's literal too -/
theorem updM [DecidableEq α] (K : Go.Maps.Keyed P kt) (hw : wantB n ρ all o = true) {x y z : Operand} (ho : o.op = .mapUpdate t x y z ∨ o.op = .insert t x y z) (ht : P.underlying t = some (.map kt e)) (hx : ev n ρ x = .map (some b)) {a : α} (hy : ev n ρ y = ek a) (hk : ∃ kl, keyOf P kt (ek a) = some kl) (hinj : ∀ a', ek a' = ek a → a' = a)
  {v : β} (hv : ev n ρ z = eb v) (hM : Mt P kt w b m ek eb g)
  (h : ∀ w', Chg (fun k => k = b) w w' → Mt P kt w' b (m + 1) ek eb (fun c => if c = a then some v else g c) → w'.heap.size = w.heap.size → At P n R fr all l k (updo ρ o.dst undef) dec w') : At P n R fr all (o :: l) k ρ dec w := by
 obtain ⟨kl, hk⟩ := hk
 obtain ⟨w1, x1, x2, x3, x4⟩ := r_upd (n := n) (ρ := ρ) (o := { o with op := .mapUpdate t x y z }) K rfl ht hx hy hk hinj hv hM
 refine op_skip hw ?_ (h w1 x2 x3 x4)
 rw [← x1]
 rcases ho with ho | ho <;> simp only [execOp, ho]
/-- a look into a map of bools -/
theorem lookB {g : α → Option Bool} (K : Go.Maps.Keyed P kt) (hw : wantB n ρ all o = true) (ho : o.op = .lookup t x y false) (ht : P.underlying t = some (.map kt e)) (hx : ev n ρ x = .map (some b)) {a : α} (hy : ev n ρ y = ek a) (hk : ∃ kl, keyOf P kt (ek a) = some kl) (hinj : ∀ a', ek a' = ek a → a' = a)
  (hM : Mt P kt w b m ek Value.bool g) (hz : zeroOf P e = some (.bool false)) {v : Bool} (hv : (g a).getD false = v)
  (h : At P n R fr all l k (updo ρ o.dst (.bool v)) dec w) : At P n R fr all (o :: l) k ρ dec w := by
 obtain ⟨kl, hk⟩ := hk
 have hr := r_look false K ho ht hx hy hk hinj hM hz
 have e1 : ((g a).map Value.bool).getD (.bool false) = .bool v := by rw [← hv]; cases g a <;> rfl
 simp only [Bool.false_eq_true, if_false, e1] at hr
 exact op_val hw hr h
theorem r_neqB {x y : Operand} {t ty : TypeId} {a b : Bool} (ho : o.op = .binOp .neq t x y ty) (ht : P.underlying t = some .bool) (hx : ev n ρ x = .bool a) (hy : ev n ρ y = .bool b) : (execOp (ev n ρ) o).run P w = .ok (.value (.bool (a != b))) w := by
 simp [execOp, ho, hx, hy, go_sem, ht]
 cases a <;> cases b <;> rfl
end
end Go.Ev
namespace Go.Proofs.Yteenhfnamjbaiaa
open Go.Ev Go.Proofs
open Go.Camp (Sc ScOk Sc8 nxA alA Wy nxC alC keyW addW heirW diffW difR difP AmW)
attribute [local irreducible] At AtH
theorem K124 : Go.Maps.Keyed Try.prog 124 := Go.Maps.Keyed.of_law (deep_law_laid (by kernel_rfl) (m := 2) (by omega) (of_decide_eq_true (by kernel_rfl)) (by kernel_rfl) (by rw [Try.underlying124]))
def ekK (k : Nat × Nat) : Value := .agg #[I (k.1 : Int), I (k.2 : Int)]
theorem ekK_inj (a : Nat × Nat) : ∀ a', ekK a' = ekK a → a' = a := by
 intro a' h
 obtain ⟨x, y⟩ := a
 obtain ⟨x', y'⟩ := a'
 simp [ekK] at h
 obtain ⟨h1, h2⟩ := h
 obtain rfl : x' = x := by omega
 obtain rfl : y' = y := by omega
 rfl
theorem kK (k : Nat × Nat) (h : k.1 ≤ 1000000 ∧ k.2 ≤ 1000000) : ∃ l, keyOf Try.prog 124 (ekK k) = some l :=
 keyArr_some (n := 2) (b := false) (by kernel_rfl) (vs := [I (k.1 : Int), I (k.2 : Int)]) rfl (fun v hv => by simp at hv; rcases hv with rfl | rfl <;> exact wf_i64 (by omega) (by omega)) tyN
/-- the pairs that are met -/
def metW (L : List Wy) (k : Nat × Nat) : Option Bool := if k ∈ L.map keyW then some true else none
theorem metW_add (L : List Wy) (w : Wy) : (fun c => if c = keyW w then some true else metW L c) = metW (L ++ [w]) := by
 funext c
 unfold metW
 by_cases hc : c = keyW w
 ·subst hc
  rw [if_pos rfl, if_pos (by simp)]
 ·rw [if_neg hc]
  by_cases hs : c ∈ L.map keyW
  ·rw [if_pos hs, if_pos (by rw [List.map_append]; exact List.mem_append_left _ hs)]
  ·rw [if_neg hs, if_neg (by rw [List.map_append, List.mem_append]; simp only [List.map_cons, List.map_nil, List.mem_singleton]; exact fun h => h.elim hs hc)]
theorem invPut (x y : Value) (w : World) : (invoke (.fn (.method "overburden/camp.put") #[]) (#[Value.iface 155 x] ++ [y].toArray)).run Try.prog w = .ok (.enter 159 (x :: [y]).toArray) w := by kernel_rfl
theorem invTake (x : Value) (w : World) : (invoke (.fn (.method "overburden/camp.take") #[]) (#[Value.iface 155 x] ++ ([] : List Value).toArray)).run Try.prog w = .ok (.enter 160 (x :: []).toArray) w := by kernel_rfl
theorem bL_one (l : List Bool) : (bL l).all (·.oneCell') = true := by simp [bL, Value.oneCell']
/-- the cells of a pair lie in a row of their own -/
def Cell (w : World) (B : Nat) (e : En) : Prop := w.ownsRow B 4 1 (.slice e.A e.w.2.2.length e.c) e.w.2.2.length (bL e.w.2.2)
theorem no_own4 {w : World} {B n e sz g : Nat} {v : Value} {xs : List Value} {cur : Array Value} {t : TypeId} {fz : Nat × Nat} (h : w.ownsRow B e sz v n xs) (hg : w.heap[g]? = some (.cells cur t fz)) (ht : e ≠ t) : v.ownBlock ≠ some g := by
 rcases h.2 with ⟨rfl, _⟩ | ⟨g', cap, cur', rfl, _, hg', _⟩
 ·intro h; cases h
 ·intro h
  simp only [Value.ownBlock, Option.some.injEq] at h
  subst h
  rw [hg] at hg'
  injection hg' with hg'
  injection hg' with _ hg'
  exact ht hg'.symm
theorem no_ownM {w : World} {B n e sz g : Nat} {v : Value} {xs : List Value} {es : Array MapEntry} {cl : Nat} (h : w.ownsRow B e sz v n xs) (hg : w.heap[g]? = some (.map es cl)) : v.ownBlock ≠ some g := by
 rcases h.2 with ⟨rfl, _⟩ | ⟨g', cap, cur', rfl, _, hg', _⟩
 ·intro h; cases h
 ·intro h
  simp only [Value.ownBlock, Option.some.injEq] at h
  subst h
  rw [hg] at hg'
  cases hg'
/-- what is kept from pair to pair -/
structure DB (m1 m2 : Scm) (gr mb g2 g3 : Nat) (w0 w : World) (L : List Wy) (es : List En) (A : Option Addr) (c : Nat) : Prop where
 am : AmW m1.N.l.length m2.N.l.length L
 q : Chg No w0 w
 b2 : Bk w g2 77 (scL m1)
 b3 : Bk w g3 77 (scL m2)
 qu : Qu w w0.heap.size gr A c es
 mm : ∃ n, Mt Try.prog 124 w mb n ekK Value.bool (metW L)
 ce : ∀ e ∈ es, Cell w w0.heap.size e
theorem DB.no {m1 m2 : Scm} {gr mb g2 g3 : Nat} {w0 w w' : World} {L : List Wy} {es : List En} {A : Option Addr} {c : Nat} (h : DB m1 m2 gr mb g2 g3 w0 w L es A c) (k : Chg No w w') : DB m1 m2 gr mb g2 g3 w0 w' L es A c := by
 obtain ⟨n, hm⟩ := h.mm
 exact ⟨h.am, h.q.trans k, h.b2.no k, h.b3.no k, h.qu.no k, ⟨n, hm.no k⟩, fun e he => own_no (h.ce e he) k⟩
/-- what the queue's steps write: no other block -/
theorem mine_ne {w : World} {B gr c g : Nat} {A : Option Addr} {q : List En} {t : TypeId} {cs : List Value} (h : Qu w B gr A c q) (hb : Bk w g t cs) (h1 : t ≠ 158) (h2 : t ≠ 164) : ¬ mineQ gr A g := by
 rintro (h3 | h3)
 ·subst h3
  have hq := h.b
  unfold Bk at hb hq
  rw [hq] at hb
  injection hb with hb
  injection hb with _ hb
  exact h1 hb.symm
 ·obtain ⟨cur, fz, hg⟩ := ownQ_block h.o h3
  unfold Bk at hb
  rw [hg] at hb
  injection hb with hb
  injection hb with _ hb
  exact h2 hb.symm
theorem mine_neM {w : World} {B gr c mb n : Nat} {A : Option Addr} {q : List En} {g : Nat × Nat → Option Bool} (h : Qu w B gr A c q) (hm : Mt Try.prog 124 w mb n ekK Value.bool g) : ¬ mineQ gr A mb := by
 obtain ⟨es, cl, hb, _⟩ := hm
 rintro (h3 | h3)
 ·subst h3
  have hq := h.b
  unfold Bk at hq
  rw [hq] at hb
  cases hb
 ·obtain ⟨cur, fz, hg⟩ := ownQ_block h.o h3
  rw [hg] at hb
  cases hb
theorem cell_mine {w : World} {B B' gr c : Nat} {A : Option Addr} {q : List En} {e : En} (h : Qu w B gr A c q) (he : Cell w B' e) : ∀ k, (Value.slice e.A e.w.2.2.length e.c).ownBlock = some k → ¬ mineQ gr A k := by
 rintro k hk (h3 | h3)
 ·subst h3
  have hq := h.b
  unfold Bk at hq
  exact no_own4 he hq (by decide) hk
 ·obtain ⟨cur, fz, hg⟩ := ownQ_block h.o h3
  exact no_own4 he hg (by decide) hk
theorem cell_map {w : World} {B mb n : Nat} {e : En} {g : Nat × Nat → Option Bool} (he : Cell w B e) (hm : Mt Try.prog 124 w mb n ekK Value.bool g) : ∀ k, (Value.slice e.A e.w.2.2.length e.c).ownBlock = some k → ¬ k = mb := by
 obtain ⟨es, cl, hb, _⟩ := hm
 rintro k hk rfl
 exact no_ownM he hb hk
theorem bk_map {w : World} {g mb n : Nat} {t : TypeId} {cs : List Value} {f : Nat × Nat → Option Bool} (hb : Bk w g t cs) (hm : Mt Try.prog 124 w mb n ekK Value.bool f) : ¬ g = mb := by
 obtain ⟨es, cl, hm, _⟩ := hm
 rintro rfl
 unfold Bk at hb
 rw [hb] at hm
 cases hm
theorem ownQ_map {w : World} {B mb n gr c : Nat} {A : Option Addr} {q : List En} {f : Nat × Nat → Option Bool} (h : Qu w B gr A c q) (hm : Mt Try.prog 124 w mb n ekK Value.bool f) : ∀ k, (Value.slice A q.length c).ownBlock = some k → ¬ k = mb := by
 rintro k hk rfl
 rw [own_map] at hk
 exact mine_neM h hm (.inr hk)
theorem mine_none {gr k : Nat} (h : mineQ gr none k) : k = gr := h.elim id (fun h => by cases h)
/-- the pairs after some of the two cells of a pair -/
def sucW (a b : Sc) (L : List Wy) (w : Wy) (j : Nat) : List Wy := if j = 0 then L else if j = 1 then addW L (heirW a b w false) else addW (addW L (heirW a b w false)) (heirW a b w true)
theorem sucW_step (a b : Sc) (L : List Wy) (w : Wy) {j : Nat} (h : j < 2) : sucW a b L w (j + 1) = addW (sucW a b L w j) (heirW a b w (decide (j = 1))) := by
 obtain rfl | rfl : j = 0 ∨ j = 1 := by omega
 ·rfl
 ·rfl
theorem dif_found {a b : Sc} {f i : Nat} {L : List Wy} {w : Wy} (hw : L[i]? = some w) {j : Nat} (h : j < 2) (hd : ∀ j', j' < j → diffW a b w (decide (j' = 1)) = false) (hj : diffW a b w (decide (j = 1)) = true) :
  difR a b (f + 1) i L = some (w.2.2 ++ [decide (j = 1)]) := by
 unfold difR
 rw [hw]
 simp only
 obtain rfl | rfl : j = 0 ∨ j = 1 := by omega
 ·have hj : diffW a b w false = true := hj
  rw [if_pos hj]; rfl
 ·have hj : diffW a b w true = true := hj
  have h0 : diffW a b w false = false := hd 0 (by omega)
  rw [h0, if_neg (by simp), if_pos hj]; rfl
theorem dif_next {a b : Sc} {f i : Nat} {L : List Wy} {w : Wy} (hw : L[i]? = some w) (hd : ∀ j', j' < 2 → diffW a b w (decide (j' = 1)) = false) : difR a b (f + 1) i L = difR a b f (i + 1) (sucW a b L w 2) := by
 have h0 : diffW a b w false = false := hd 0 (by omega)
 have h1 : diffW a b w true = false := hd 1 (by omega)
 rw [difR, hw]
 simp only
 rw [h0, h1]
 simp [sucW]
theorem dif_none {a b : Sc} {f i : Nat} {L : List Wy} (hw : L.length ≤ i) : difR a b f i L = none := by
 cases f with
 | zero => rfl
 | succ f => unfold difR; rw [List.getElem?_eq_none hw]
structure DfX where
 i : Nat
 L : List Wy
 g : Nat
 cur : Option En
 es : List En
 A : Option Addr
 c : Nat
structure DfY where
 j : Nat
 L : List Wy
 es : List En
 A : Option Addr
 c : Nat
set_option maxRecDepth 20000 in
set_option maxHeartbeats 16000000 in
theorem Differ_any (m1 m2 : Scm) (B : Nat) (w0 : World) (H1 : ScM w0 B m1) (H2 : ScM w0 B m2) : Ret Try.prog 47 [.agg (scL m1).toArray, .agg (scL m2).toArray] w0 fun v w' => Chg No w0 w' ∧
  ((¬ (Sc8 (scP m1) ∧ Sc8 (scP m2)) ∧ v = .tuple #[.slice none 0 0, I 2]) ∨
   ((Sc8 (scP m1) ∧ Sc8 (scP m2)) ∧ difP (scP m1) (scP m2) = none ∧ v = .tuple #[.slice none 0 0, I 5]) ∨
   ((Sc8 (scP m1) ∧ Sc8 (scP m2)) ∧ ∃ cs A c, difP (scP m1) (scP m2) = some cs ∧ v = .tuple #[.slice A cs.length c, I 0] ∧ w'.ownsRow w0.heap.size 4 1 (.slice A cs.length c) cs.length (bL cs))) := by
 refine enter Try.func47 rfl Try.ntmps47 rfl ?_
 refine go TD_ok 200 rfl ?_
 refine bx rfl rfl rfl (cs := scL m1) rfl ?_
 intro g2 u2 hg2 hs2 q2 B2
 refine go TD_ok 200 rfl ?_
 refine bx rfl rfl rfl (cs := scL m2) rfl ?_
 intro g3 u3 hg3 hs3 q3 B3
 have B2 := B2.no q3
 have q := q2.trans q3
 refine go TD_ok 200 rfl ?_
 refine scope ?_
 refine go TD_ok 200 rfl ?_
 repeat ((first | refine ldA TD_ok rfl rfl rfl rfl rfl (Bk.all B2) ?_ | refine ldA TD_ok rfl rfl rfl rfl rfl (Bk.all B3) ?_ | refine ld TD_ok rfl rfl rfl rfl (Bk.get B2 rfl) ?_ | refine ld TD_ok rfl rfl rfl rfl (Bk.get B3 rfl) ?_ | refine gT rfl rfl rfl rfl ?_ | refine gF rfl rfl rfl rfl ?_ | refine condT rfl rfl ?_ | refine condF rfl rfl ?_); refine go TD_ok 200 rfl ?_)
 refine call rfl rfl rfl (ok _ (by decide) rfl) (scans_any m1 B _ (H1.no q)) ?_
 rintro v w ⟨⟨b, rfl, hb⟩, qk⟩
 have B2 := B2.no qk
 have B3 := B3.no qk
 have q := q.trans qk
 cases b with
 | false =>
  refine go TD_ok 200 rfl ?_
  repeat ((first | refine ldA TD_ok rfl rfl rfl rfl rfl (Bk.all B2) ?_ | refine ldA TD_ok rfl rfl rfl rfl rfl (Bk.all B3) ?_ | refine ld TD_ok rfl rfl rfl rfl (Bk.get B2 rfl) ?_ | refine ld TD_ok rfl rfl rfl rfl (Bk.get B3 rfl) ?_ | refine gT rfl rfl rfl rfl ?_ | refine gF rfl rfl rfl rfl ?_ | refine condT rfl rfl ?_ | refine condF rfl rfl ?_); refine go TD_ok 200 rfl ?_)
  exact ret (ret2 (v := .slice none 0 0) (x := I 2) Try.results47 rfl rfl ⟨q, .inl ⟨fun h => (by have := hb.2 h.1; cases this), rfl⟩⟩)
 | true =>
 have h81 := hb.1 rfl
 have h1 := h81.1
 refine go TD_ok 200 rfl ?_
 repeat ((first | refine ldA TD_ok rfl rfl rfl rfl rfl (Bk.all B2) ?_ | refine ldA TD_ok rfl rfl rfl rfl rfl (Bk.all B3) ?_ | refine ld TD_ok rfl rfl rfl rfl (Bk.get B2 rfl) ?_ | refine ld TD_ok rfl rfl rfl rfl (Bk.get B3 rfl) ?_ | refine gT rfl rfl rfl rfl ?_ | refine gF rfl rfl rfl rfl ?_ | refine condT rfl rfl ?_ | refine condF rfl rfl ?_); refine go TD_ok 200 rfl ?_)
 refine call rfl rfl rfl (ok _ (by decide) rfl) (scans_any m2 B _ (H2.no q)) ?_
 rintro v w ⟨⟨b, rfl, hb⟩, qk⟩
 have B2 := B2.no qk
 have B3 := B3.no qk
 have q := q.trans qk
 cases b with
 | false =>
  refine go TD_ok 200 rfl ?_
  repeat ((first | refine ldA TD_ok rfl rfl rfl rfl rfl (Bk.all B2) ?_ | refine ldA TD_ok rfl rfl rfl rfl rfl (Bk.all B3) ?_ | refine ld TD_ok rfl rfl rfl rfl (Bk.get B2 rfl) ?_ | refine ld TD_ok rfl rfl rfl rfl (Bk.get B3 rfl) ?_ | refine gT rfl rfl rfl rfl ?_ | refine gF rfl rfl rfl rfl ?_ | refine condT rfl rfl ?_ | refine condF rfl rfl ?_); refine go TD_ok 200 rfl ?_)
  exact ret (ret2 (v := .slice none 0 0) (x := I 2) Try.results47 rfl rfl ⟨q, .inl ⟨fun h => (by have := hb.2 h.2; cases this), rfl⟩⟩)
 | true =>
 have h82 := hb.1 rfl
 have h2 := h82.1
 have l2 := B2.lt
 have l3 := B3.lt
 have lq := q.size
 refine go TD_ok 200 rfl ?_
 repeat ((first | refine ldA TD_ok rfl rfl rfl rfl rfl (Bk.all B2) ?_ | refine ldA TD_ok rfl rfl rfl rfl rfl (Bk.all B3) ?_ | refine ld TD_ok rfl rfl rfl rfl (Bk.get B2 rfl) ?_ | refine ld TD_ok rfl rfl rfl rfl (Bk.get B3 rfl) ?_ | refine gT rfl rfl rfl rfl ?_ | refine gF rfl rfl rfl rfl ?_ | refine condT rfl rfl ?_ | refine condF rfl rfl ?_); refine go TD_ok 200 rfl ?_)
 refine bx rfl rfl rfl (cs := [.slice none 0 0]) rfl ?_
 intro gr w hgr hsr qk Br
 have B2 := B2.no qk
 have B3 := B3.no qk
 have q := q.trans qk
 refine go TD_ok 200 rfl ?_
 refine mkI rfl rfl (by kernel_rfl) rfl ?_
 refine go TD_ok 200 rfl ?_
 refine mkM (kt := 124) rfl rfl ?_
 intro mb w hmb hsm qk Mm
 have Mm := Mm ekK Value.bool
 have Br := Br.no qk
 have B2 := B2.no qk
 have B3 := B3.no qk
 have q := q.trans qk
 refine go TD_ok 200 rfl ?_
 refine bldA TD_ok rfl rfl rfl (z := .agg #[I 0, I 0]) (by kernel_rfl) (cs := [I 0, I 0]) rfl ?_
 refine go TD_ok 200 rfl ?_
 refine updM K124 rfl (.inr rfl) Try.underlying161 rfl (ek := ekK) (eb := Value.bool) (a := ((0 : Nat), (0 : Nat))) rfl (kK _ (by simp)) (ekK_inj _) (v := true) rfl Mm ?_
 intro w qk Mm hzm
 have Mm : Mt Try.prog 124 w mb 1 ekK Value.bool (metW [(0, 0, [])]) := by
  have e1 : (fun c : Nat × Nat => if c = ((0 : Nat), (0 : Nat)) then some true else none) = metW [(0, 0, [])] := metW_add [] (0, 0, [])
  rw [← e1]; exact Mm
 have B2 := B2.keep qk (by omega)
 have B3 := B3.keep qk (by omega)
 have Br := Br.keep qk (by omega)
 have q := q.step qk (fun k hk e => by omega)
 have Q : Qu w w0.heap.size gr none 0 [] := ⟨Br, OwnQ.nil⟩
 refine go TD_ok 200 rfl ?_
 have X := put_any gr w0.heap.size 0 none [] ⟨(0, 0, []), none, 0⟩ w Q (by have := q.size; omega) (by simp)
 refine callM rfl rfl rfl rfl (invPut _ _ _) X ?_
 rintro v w5 ⟨A, c, Q, qk, hA⟩
 have q := q.step qk (fun k hk e => by have := mine_none e; omega)
 have B2 := B2.keep qk (fun e => by have := mine_none e; omega)
 have B3 := B3.keep qk (fun e => by have := mine_none e; omega)
 have Mm := Mm.keep qk (fun e => by have := mine_none e; omega)
 have n1 : 1 ≤ m1.N.l.length := h1.n1
 have n2 : m1.N.l.length ≤ 128 := h81.2
 have k1 : 1 ≤ m2.N.l.length := h2.n1
 have k2 : m2.N.l.length ≤ 128 := h82.2
 have hnm : m1.N.l.length * m2.N.l.length ≤ 128 * 128 := Nat.mul_le_mul n2 k2
 have hD : DB m1 m2 gr mb g2 g3 w0 w5 [(0, 0, [])] [⟨(0, 0, []), none, 0⟩] A c :=
  ⟨⟨by simp, by simp; omega, by intro j x hx; have := (List.getElem?_eq_some_iff.1 hx).1; simp at this; subst this; simp at hx; subst hx; simp⟩, q, B2, B3, Q, ⟨1, Mm⟩, fun e he => by simp at he; subst he; exact own_nil⟩
 clear B2 B3 Q Mm q
 refine go TD_ok 200 rfl ?_
 refine label ?_
 refine go TD_ok 200 rfl ?_
 refine callM rfl rfl rfl rfl (invTake _ _) (take_any gr _ c A _ w5 hD.qu (by simp)) ?_
 rintro v w6 (⟨he, _⟩ | ⟨e, r, he, rfl, A1, c1, Q, qk, hA1⟩)
 ·cases he
 injection he with he1 he2
 subst he1
 subst he2
 have hD2 : DB m1 m2 gr mb g2 g3 w0 w6 [(0, 0, [])] [] A1 c1 := by
  obtain ⟨n, hm⟩ := hD.mm
  exact ⟨hD.am, hD.q.step qk (fun k hk e => by omega), hD.b2.keep qk (by omega), hD.b3.keep qk (by omega), Q, ⟨n, hm.keep qk (fun e => by subst e; exact mine_neM hD.qu hm (.inl rfl))⟩, fun e he => by cases he⟩
 refine go TD_ok 200 rfl ?_
 refine nw rfl rfl (z := .agg #[I 0, I 0, .slice none 0 0]) (by kernel_rfl) (cs := [I 0, I 0, .slice none 0 0]) rfl ?_
 intro g9 w7 hg9 hs9 qk B9
 have hl6 := hD2.q.size
 refine go TD_ok 200 rfl ?_
 refine stA TD_ok rfl rfl rfl rfl (vs := enL ⟨(0, 0, []), none, 0⟩) rfl rfl rfl B9 rfl ?_
 intro w8 qk2 B9 hz9
 have B9 : Bk w8 g9 164 (enL ⟨(0, 0, []), none, 0⟩) := B9
 have hA1l : ∀ k, A1.map (·.block) = some k → k < w6.heap.size := fun k hk => hD2.qu.o.lt (by rw [own_map]; exact hk)
 have hD2 := hD2.no (qk.step qk2 (fun k hk e => by omega))
 have lr := hD2.qu.b.lt
 have lr6 : gr < w6.heap.size := Q.b.lt
 obtain ⟨nm, hnm'⟩ : ∃ k, k = m1.N.l.length * m2.N.l.length := ⟨_, rfl⟩
 rw [← hnm'] at hnm
 have hnm2 := hnm'
 have hdp : difR (scP m1) (scP m2) nm 0 [(0, 0, [])] = difP (scP m1) (scP m2) := by rw [hnm']; rfl
 generalize difP (scP m1) (scP m2) = D at *
 have hg9 : w0.heap.size ≤ g9 := by omega
 have hg9r : g9 ≠ gr := by omega
 have hg9A : A1.map (·.block) ≠ some g9 := fun h => by have := hA1l _ h; omega
 clear hA1l hnm'
 refine go TD_ok 200 rfl ?_
 refine loop [2, 3, 6, 7, 8, 9, 10] (fun x : DfX => [.pointer (some ⟨g2, 0, none⟩), .pointer (some ⟨g3, 0, none⟩), .iface 155 (.pointer (some ⟨gr, 0, none⟩)), .map (some mb), .slice none 0 0, .pointer (some ⟨x.g, 0, none⟩), .bool x.cur.isSome])
  (fun x w' => DB m1 m2 gr mb g2 g3 w0 w' x.L x.es x.A x.c ∧ difR (scP m1) (scP m2) (nm - x.i) x.i x.L = D ∧ (x.cur = none → x.es = [] ∧ x.L.length ≤ x.i) ∧ ∀ e, x.cur = some e → x.L[x.i]? = some e.w ∧ x.es.map (·.w) = x.L.drop (x.i + 1) ∧ Cell w' w0.heap.size e ∧ Bk w' x.g 164 (enL e) ∧ w0.heap.size ≤ x.g ∧ x.A.map (·.block) ≠ some x.g ∧ x.g ≠ gr)
  (fun x => nm + 1 - x.i) ⟨0, [(0, 0, [])], g9, some ⟨(0, 0, []), none, 0⟩, [], A1, c1⟩ (fun _ => rfl) rfl ⟨hD2, hdp, (fun h => by cases h), (fun e he => by cases he; exact ⟨rfl, rfl, own_nil, B9, hg9, hg9A, hg9r⟩)⟩ ?_
 clear hD hD2 B9 hg9 hg9A hg9r hdp Q hA1 qk2 hz9
 rintro ⟨i, L, g9, cur, es, A, c⟩ τ w ⟨hD, hdif, hcn, hcs⟩
 simp only at hD hdif hcn hcs
 cases cur with
 | none =>
  obtain ⟨hes, hLi⟩ := hcn rfl
  refine go TD_ok 200 rfl ?_
  refine condF rfl rfl ?_
  refine go TD_ok 200 rfl ?_
  refine nilS rfl rfl Try.underlying46 rfl rfl ?_
  refine go TD_ok 200 rfl ?_
  refine condT rfl rfl ?_
  refine go TD_ok 200 rfl ?_
  exact ret (ret2 (v := .slice none 0 0) (x := I 5) Try.results47 rfl rfl ⟨hD.q, .inr (.inl ⟨⟨h81, h82⟩, by rw [← hdif]; exact dif_none hLi, rfl⟩)⟩)
 | some e =>
  obtain ⟨hLi, hes, hce, B9, hg9, hg9A, hg9r⟩ := hcs e rfl
  clear hcn hcs
  have hii : i < L.length := (List.getElem?_eq_some_iff.1 hLi).1
  have hLn := hD.am.len
  rw [← hnm2] at hLn
  have hlt1 : e.w.1 < m1.N.l.length ∧ e.w.2.1 < m2.N.l.length := hD.am.lt _ (List.mem_of_getElem? hLi)
  have hel : e.w.2.2.length ≤ i := hD.am.cl i _ hLi
  have hi16 : i < nm := by omega
  have hel2 : e.w.2.2.length ≤ 16384 := by omega
  refine go TD_ok 200 rfl ?_
  refine condT rfl rfl ?_
  refine go TD_ok 200 rfl ?_
  refine bldA TD_ok rfl rfl rfl (z := .agg #[.bool false, .bool false]) (by kernel_rfl) (cs := [.bool false, .bool true]) rfl ?_
  refine go TD_ok 200 rfl ?_
  refine loop [2, 3, 6, 7, 8, 9, 44, 45] (fun y : DfY => [.pointer (some ⟨g2, 0, none⟩), .pointer (some ⟨g3, 0, none⟩), .iface 155 (.pointer (some ⟨gr, 0, none⟩)), .map (some mb), .slice none 0 0, .pointer (some ⟨g9, 0, none⟩), .agg #[.bool false, .bool true], .int .i64 (y.j : Int)])
   (fun y w' => y.j ≤ 2 ∧ y.L = sucW (scP m1) (scP m2) L e.w y.j ∧ DB m1 m2 gr mb g2 g3 w0 w' y.L y.es y.A y.c ∧ i < y.L.length ∧ y.es.map (·.w) = y.L.drop (i + 1) ∧ Cell w' w0.heap.size e ∧ Bk w' g9 164 (enL e) ∧ y.A.map (·.block) ≠ some g9 ∧ ∀ j', j' < y.j → diffW (scP m1) (scP m2) e.w (decide (j' = 1)) = false)
   (fun y => 2 - y.j) ⟨0, L, es, A, c⟩ (fun _ => rfl) rfl ⟨by simp, rfl, hD, hii, hes, hce, B9, hg9A, fun j' h => absurd h (Nat.not_lt_zero _)⟩ ?_
  obtain ⟨L0, hL0⟩ : ∃ l, l = L := ⟨_, rfl⟩
  subst hL0
  clear hD hes hce B9 hg9A hii
  rintro ⟨j, L, es, A, c⟩ τ w2 ⟨hj, hL, hD, hii, hes, hce, B9, hg9A, hdj⟩
  simp only at hj hL hD hii hes hce B9 hg9A hdj
  dsimp only
  refine go TD_ok 200 rfl ?_
  refine condD rfl (fun hlt => ?_) (fun hlt => ?_)
  ·have hlt : j < 2 := by have : (j : Int) < 2 := hlt; omega
   have hstep := sucW_step (scP m1) (scP m2) L0 e.w hlt
   have hfd := fun h => dif_found (a := scP m1) (b := scP m2) (f := nm - (i + 1)) hLi hlt hdj h
   have hbv : [Value.bool false, .bool true][j * 1]? = some (.bool (decide (j = 1))) := by
    obtain rfl | rfl : j = 0 ∨ j = 1 := by omega
    ·rfl
    ·rfl
   have hpj : (if decide (j = 1) = true then (1 : Int) else 0) = (j : Int) := by
    obtain rfl | rfl : j = 0 ∨ j = 1 := by omega
    ·rfl
    ·rfl
   obtain ⟨cb, hcb⟩ : ∃ b, b = decide (j = 1) := ⟨_, rfl⟩
   rw [← hcb] at hstep hbv hpj hfd
   have hj1 : ∀ d, d = decide (j = 1) → d = cb := fun d h => h.trans hcb.symm
   refine go TD_ok 200 rfl ?_
   refine ix1 TD_ok rfl rfl rfl rfl rfl j rfl hlt hbv ?_
   refine go TD_ok 200 rfl ?_
   refine call rfl rfl rfl (ok _ (by decide) rfl) (part_any cb _) ?_
   rintro v w3 ⟨rfl, rfl⟩
   rw [hpj]
   refine go TD_ok 200 rfl ?_
   repeat ((first | refine ldA TD_ok rfl rfl rfl rfl rfl (Bk.all B9) ?_ | refine ld TD_ok rfl rfl rfl rfl (Bk.get B9 rfl) ?_ | refine gT rfl rfl rfl rfl ?_ | refine gF rfl rfl rfl rfl ?_ | refine condT rfl rfl ?_ | refine condF rfl rfl ?_); refine go TD_ok 200 rfl ?_)
   refine call rfl rfl rfl (ok _ (by decide) rfl) (cloneB_any (bL e.w.2.2) e.w.2.2.length e.A e.c w2.heap.size _ (own_sl hce) (bL_one _) (by omega) (fun h => by unfold Cell at hce; rw [h] at hce; exact own_nn hce)) ?_
   rintro v w4 ⟨A4, c4, rfl, q4, o4, _⟩
   refine go TD_ok 200 rfl ?_
   have eB := q4.size
   refine app1 TD_ok rfl rfl rfl rfl rfl rfl (cs := [.bool cb]) rfl rfl rfl rfl (fun _ => rfl) (fun _ => rfl) (fun _ => rfl) o4 (by unfold maxLen; omega) (by show (e.w.2.2.length + 1) * 1 ≤ _; omega) eB ?_
   intro gx A5 c5 w5 o5 q5 hs5 hown
   have q25 : Chg No w2 w5 := q4.step q5 (fun k hk e => by have := own_ge o4 e; omega)
   have hD0 := hD
   have hD := hD.no q25
   have hce := own_no hce q25
   have B9 := B9.no q25
   have hx1 := hlt1.1
   have hx2 := hlt1.2
   have al1 := al_at h1 hx1
   have al2 := al_at h2 hx2
   obtain ⟨nx1, ny1⟩ := nx_at h1 hx1
   obtain ⟨nx2, ny2⟩ := nx_at h2 hx2
   have HM1 := H1.no hD.q
   have HM2 := H2.no hD.q
   obtain ⟨b1, o1, hA1, hb1, hc1⟩ := Sl.el HM1.o bV_len al1
   obtain ⟨b2, o2, hA2, hb2, hc2⟩ := Sl.el HM2.o bV_len al2
   obtain ⟨b3, o3, hA3, hb3, hc3⟩ := Sl.el HM1.n nV_len nx1
   obtain ⟨b4, o4', hA4, hb4, hc4⟩ := Sl.el HM2.n nV_len nx2
   have hBB := HM1.o.2.1
   have hBB2 := HM2.o.2.1
   have ol1 : m1.O.l.length = m1.N.l.length := h1.al
   have ol2 : m2.O.l.length = m2.N.l.length := h2.al
   have B2 := hD.b2
   have B3 := hD.b3
   have g1v : (bV (alA (scP m1) e.w.1))[j * 1]? = some (.bool (alC (scP m1) e.w.1 cb)) := by
    rw [hcb]
    obtain rfl | rfl : j = 0 ∨ j = 1 := by omega
    ·rfl
    ·rfl
   have g2v : (bV (alA (scP m2) e.w.2.1))[j * 1]? = some (.bool (alC (scP m2) e.w.2.1 cb)) := by
    rw [hcb]
    obtain rfl | rfl : j = 0 ∨ j = 1 := by omega
    ·rfl
    ·rfl
   have g3v : (nV (((nxA (scP m1) e.w.1).1 : Int), ((nxA (scP m1) e.w.1).2 : Int)))[j * 1]? = some (I (nxC (scP m1) e.w.1 cb : Int)) := by
    rw [hcb]
    obtain rfl | rfl : j = 0 ∨ j = 1 := by omega
    ·rfl
    ·rfl
   have g4v : (nV (((nxA (scP m2) e.w.2.1).1 : Int), ((nxA (scP m2) e.w.2.1).2 : Int)))[j * 1]? = some (I (nxC (scP m2) e.w.2.1 cb : Int)) := by
    rw [hcb]
    obtain rfl | rfl : j = 0 ∨ j = 1 := by omega
    ·rfl
    ·rfl
   refine go TD_ok 200 rfl ?_
   refine draw mixed (fun w' => Chg No w5 w') ([0,1,2,3,4,5,6,7,8,9,10,11,12,13,14,15,16].map (fun i => (i, true))) rfl (by kernel_rfl) (Chg.drew _) ?_
   refine goH TD_ok 200 rfl ?_
   repeat (first | (refine quietH rfl (fun w' hS => r_load TD_ok rfl rfl rfl (Bk.get (B2.no hS) rfl)) ?_; refine goH TD_ok 200 rfl ?_) | (refine quietH rfl (fun w' hS => r_load TD_ok rfl rfl rfl (Bk.get (B9.no hS) rfl)) ?_; refine goH TD_ok 200 rfl ?_))
   rw [hA1]
   refine quietH rfl (fun w' hS => r_idx TD_ok rfl rfl rfl rfl e.w.1 rfl (by omega)) ?_
   refine goH TD_ok 200 rfl ?_
   refine quietH rfl (fun w' hS => r_idxA TD_ok rfl rfl rfl rfl j rfl hlt) ?_
   refine goH TD_ok 200 rfl ?_
   refine quietH rfl (fun w' hS => r_load TD_ok rfl rfl rfl ((hc1.keep (by omega) hS (fun h => h)) (j * 1) _ g1v)) ?_
   rw [← hA1]
   refine goH TD_ok 200 rfl ?_
   repeat (first | (refine quietH rfl (fun w' hS => r_load TD_ok rfl rfl rfl (Bk.get (B3.no hS) rfl)) ?_; refine goH TD_ok 200 rfl ?_) | (refine quietH rfl (fun w' hS => r_load TD_ok rfl rfl rfl (Bk.get (B9.no hS) rfl)) ?_; refine goH TD_ok 200 rfl ?_))
   rw [hA2]
   refine quietH rfl (fun w' hS => r_idx TD_ok rfl rfl rfl rfl e.w.2.1 rfl (by omega)) ?_
   refine goH TD_ok 200 rfl ?_
   refine quietH rfl (fun w' hS => r_idxA TD_ok rfl rfl rfl rfl j rfl hlt) ?_
   refine goH TD_ok 200 rfl ?_
   refine quietH rfl (fun w' hS => r_load TD_ok rfl rfl rfl ((hc2.keep (by omega) hS (fun h => h)) (j * 1) _ g2v)) ?_
   rw [← hA2]
   refine goH TD_ok 200 rfl ?_
   refine quietH rfl (fun w' hS => r_neqB rfl Try.underlying4 rfl rfl) ?_
   refine goH TD_ok 200 rfl ?_
   refine endH ?_
   have hdv : diffW (scP m1) (scP m2) e.w cb = (alC (scP m1) e.w.1 cb != alC (scP m2) e.w.2.1 cb) := rfl
   rw [← hdv]
   have qd := Chg.drew w5
   have hD := hD.no qd
   have hce := own_no hce qd
   have B9 := B9.no qd
   have o5 := own_no o5 qd
   have hq2 := hD0.q.size
   have o5 := own_base (B' := w0.heap.size) o5 hq2
   generalize w5.drew = w6 at *
   cases hdd : diffW (scP m1) (scP m2) e.w cb with
   | true =>
    refine go TD_ok 200 rfl ?_
    refine condT rfl rfl ?_
    refine go TD_ok 200 rfl ?_
    refine nilS rfl rfl Try.underlying46 rfl rfl ?_
    obtain ⟨a5, rfl⟩ : ∃ a, A5 = some a := by
     cases A5 with
     | none => have := own_nn o5; omega
     | some a => exact ⟨a, rfl⟩
    refine go TD_ok 200 rfl ?_
    refine condF rfl rfl ?_
    refine go TD_ok 200 rfl ?_
    refine ret (ret2 (v := .slice _ _ _) (x := I 0) Try.results47 rfl rfl ⟨hD.q, .inr (.inr ⟨⟨h81, h82⟩, e.w.2.2 ++ [cb], some a5, c5, ?_, ?_, ?_⟩)⟩)
    ·rw [← hdif, show nm - i = nm - (i + 1) + 1 by omega]
     exact hfd hdd
    ·rw [List.length_append]; rfl
    ·rw [List.length_append, show bL (e.w.2.2 ++ [cb]) = bL e.w.2.2 ++ [.bool cb] by simp [bL]]
     exact o5
   | false =>
    have hkk : keyW (heirW (scP m1) (scP m2) e.w cb) = (nxC (scP m1) e.w.1 cb, nxC (scP m2) e.w.2.1 cb) := rfl
    have hk1 : nxC (scP m1) e.w.1 cb < m1.N.l.length := Go.Camp.nxC_lt h1 _ _
    have hk2 : nxC (scP m2) e.w.2.1 cb < m2.N.l.length := Go.Camp.nxC_lt h2 _ _
    have hhw : heirW (scP m1) (scP m2) e.w cb = (nxC (scP m1) e.w.1 cb, nxC (scP m2) e.w.2.1 cb, e.w.2.2 ++ [cb]) := rfl
    generalize nxC (scP m1) e.w.1 cb = k1' at *
    generalize nxC (scP m2) e.w.2.1 cb = k2' at *
    have hdj2 : ∀ j', j' < j + 1 → diffW (scP m1) (scP m2) e.w (decide (j' = 1)) = false := fun j' h => by
     rcases Nat.lt_or_ge j' j with h' | h'
     ·exact hdj j' h'
     ·obtain rfl : j' = j := by omega
      rw [← hcb]; exact hdd
    have HM1 := H1.no hD.q
    have HM2 := H2.no hD.q
    have hBB := HM1.o.2.1
    have B2 := hD.b2
    have B3 := hD.b3
    obtain ⟨b3, o3, hA3, hb3, hc3⟩ := Sl.el HM1.n nV_len nx1
    obtain ⟨b4, o4', hA4, hb4, hc4⟩ := Sl.el HM2.n nV_len nx2
    refine go TD_ok 200 rfl ?_
    refine condF rfl rfl ?_
    refine go TD_ok 200 rfl ?_
    refine draw mixed (fun w' => Chg No w6 w') ([0,1,2,3,4,5,6,7,8,9,10,11,12,13,14,15,16].map (fun i => (i, true)) ++ [(17, false)] ++ [(18, false)]) rfl (by kernel_rfl) (Chg.drew _) ?_
    refine goH TD_ok 200 rfl ?_
    repeat (first | (refine quietH rfl (fun w' hS => r_load TD_ok rfl rfl rfl (Bk.get (B2.no hS) rfl)) ?_; refine goH TD_ok 200 rfl ?_) | (refine quietH rfl (fun w' hS => r_load TD_ok rfl rfl rfl (Bk.get (B9.no hS) rfl)) ?_; refine goH TD_ok 200 rfl ?_))
    rw [hA3]
    refine quietH rfl (fun w' hS => r_idx TD_ok rfl rfl rfl rfl e.w.1 rfl (by omega)) ?_
    refine goH TD_ok 200 rfl ?_
    refine quietH rfl (fun w' hS => r_idxA TD_ok rfl rfl rfl rfl j rfl hlt) ?_
    refine goH TD_ok 200 rfl ?_
    refine quietH rfl (fun w' hS => r_load TD_ok rfl rfl rfl ((hc3.keep (by omega) hS (fun h => h)) (j * 1) _ g3v)) ?_
    rw [← hA3]
    refine goH TD_ok 200 rfl ?_
    repeat (first | (refine quietH rfl (fun w' hS => r_load TD_ok rfl rfl rfl (Bk.get (B3.no hS) rfl)) ?_; refine goH TD_ok 200 rfl ?_) | (refine quietH rfl (fun w' hS => r_load TD_ok rfl rfl rfl (Bk.get (B9.no hS) rfl)) ?_; refine goH TD_ok 200 rfl ?_))
    rw [hA4]
    refine quietH rfl (fun w' hS => r_idx TD_ok rfl rfl rfl rfl e.w.2.1 rfl (by omega)) ?_
    refine goH TD_ok 200 rfl ?_
    refine quietH rfl (fun w' hS => r_idxA TD_ok rfl rfl rfl rfl j rfl hlt) ?_
    refine goH TD_ok 200 rfl ?_
    refine quietH rfl (fun w' hS => r_load TD_ok rfl rfl rfl ((hc4.keep (by omega) hS (fun h => h)) (j * 1) _ g4v)) ?_
    rw [← hA4]
    refine goH TD_ok 200 rfl ?_
    refine quietH rfl (fun w' hS => r_bldA TD_ok rfl rfl (z := .agg #[I 0, I 0]) (by kernel_rfl) (cs := [I (k1' : Int), I (k2' : Int)]) rfl) ?_
    refine goH TD_ok 200 rfl ?_
    refine nwE rfl rfl (z := .agg #[I 0, I 0]) (by kernel_rfl) (cs := [I 0, I 0]) rfl ?_
    intro g15 w7 hg15 hs15 q7 B15
    have q67 := (Chg.drew w6).trans q7
    have hdw6 : w6.drew.heap.size = w6.heap.size := rfl
    refine ⟨q67, ?_⟩
    refine goH TD_ok 200 rfl ?_
    refine stArrE TD_ok rfl rfl rfl rfl (vs := [I (k1' : Int), I (k2' : Int)]) rfl rfl rfl B15 rfl ?_
    intro w8 q8 B15 hz15
    have B15 : Bk w8 g15 124 [I (k1' : Int), I (k2' : Int)] := B15
    have q68 : Chg No w6 w8 := q67.step q8 (fun k hk e => by omega)
    refine ⟨q68, ?_⟩
    refine goH TD_ok 200 rfl ?_
    refine endH ?_
    have hD := hD.no q68
    have hce := own_no hce q68
    have B9 := B9.no q68
    have o5 := own_no o5 q68
    obtain ⟨nM, Mm⟩ := hD.mm
    have hvv : (metW L (k1', k2')).getD false = decide ((k1', k2') ∈ L.map keyW) := by
     unfold metW
     by_cases h : (k1', k2') ∈ L.map keyW <;> simp [h]
    have hkn := kK (k1', k2') ⟨by show k1' ≤ _; omega, by show k2' ≤ _; omega⟩
    refine go TD_ok 200 rfl ?_
    refine ldArr TD_ok rfl rfl rfl rfl rfl B15.all ?_
    refine go TD_ok 200 rfl ?_
    refine lookB K124 rfl rfl Try.underlying161 rfl (ek := ekK) (a := (k1', k2')) rfl hkn (ekK_inj _) Mm (by kernel_rfl) hvv ?_
    by_cases hin : (k1', k2') ∈ L.map keyW
    ·rw [decide_eq_true hin]
     refine go TD_ok 200 rfl ?_
     repeat (first | (refine gT rfl rfl rfl rfl ?_; refine go TD_ok 200 rfl ?_) | (refine gF rfl rfl rfl rfl ?_; refine go TD_ok 200 rfl ?_) | (refine condT rfl rfl ?_; refine go TD_ok 200 rfl ?_) | (refine condF rfl rfl ?_; refine go TD_ok 200 rfl ?_))
     rw [w64_id (x := (j : Int) + 1) (by omega) (by omega)]
     refine round ⟨⟨j + 1, L, es, A, c⟩, rfl, ⟨by simp only; omega, ?_, hD, hii, hes, hce, B9, hg9A, hdj2⟩, by simp only; omega⟩
     simp only
     rw [hstep, ← hL]
     unfold addW
     rw [if_pos (by rw [hkk]; exact hin)]
    ·rw [decide_eq_false hin]
     refine go TD_ok 200 rfl ?_
     repeat (first | (refine gT rfl rfl rfl rfl ?_; refine go TD_ok 200 rfl ?_) | (refine gF rfl rfl rfl rfl ?_; refine go TD_ok 200 rfl ?_) | (refine condT rfl rfl ?_; refine go TD_ok 200 rfl ?_) | (refine condF rfl rfl ?_; refine go TD_ok 200 rfl ?_))
     refine ldArr TD_ok rfl rfl rfl rfl rfl B15.all ?_
     refine go TD_ok 200 rfl ?_
     refine updM K124 rfl (.inl rfl) Try.underlying161 rfl (ek := ekK) (eb := Value.bool) (a := (k1', k2')) rfl hkn (ekK_inj _) (v := true) rfl Mm ?_
     intro w9 q9 Mm9 hz9
     have hLn2 := hD.am.len
     rw [← hnm2] at hLn2
     have hes2 : es.length ≤ 16384 := by
      have := congrArg List.length hes
      rw [List.length_map, List.length_drop] at this
      omega
     have Mm9 : Mt Try.prog 124 w9 mb (nM + 1) ekK Value.bool (metW (L ++ [heirW (scP m1) (scP m2) e.w cb])) := by
      rw [← metW_add, hkk]; exact Mm9
     have hQ9 : Qu w9 w0.heap.size gr A c es := ⟨hD.qu.b.keep q9 (bk_map hD.qu.b Mm), hD.qu.o.keep q9 (ownQ_map hD.qu Mm)⟩
     have B2 := hD.b2.keep q9 (bk_map hD.b2 Mm)
     have B3 := hD.b3.keep q9 (bk_map hD.b3 Mm)
     have B9 := B9.keep q9 (bk_map B9 Mm)
     have B15 := B15.keep q9 (bk_map B15 Mm)
     have hce9 : Cell w9 w0.heap.size e := own_keep hce q9 (cell_map hce Mm)
     have hces : ∀ x ∈ es, Cell w9 w0.heap.size x := fun x hx => own_keep (hD.ce x hx) q9 (cell_map (hD.ce x hx) Mm)
     have hC5 : Cell w8 w0.heap.size ⟨heirW (scP m1) (scP m2) e.w cb, A5, c5⟩ := by
      show w8.ownsRow w0.heap.size 4 1 (.slice A5 (e.w.2.2 ++ [cb]).length c5) (e.w.2.2 ++ [cb]).length (bL (e.w.2.2 ++ [cb]))
      rw [List.length_append, show bL (e.w.2.2 ++ [cb]) = bL e.w.2.2 ++ [.bool cb] by simp [bL]]
      exact o5
     have hC9 : Cell w9 w0.heap.size ⟨heirW (scP m1) (scP m2) e.w cb, A5, c5⟩ := own_keep hC5 q9 (cell_map hC5 Mm)
     have hmb : w0.heap.size ≤ mb := by omega
     have q9' : Chg No w0 w9 := hD.q.step q9 (fun k hk e => by omega)
     have hs9 := q9'.size
     have X := put_any gr w0.heap.size c A es ⟨heirW (scP m1) (scP m2) e.w cb, A5, c5⟩ w9 hQ9 hs9 (by omega)
     have ee : enL ⟨heirW (scP m1) (scP m2) e.w cb, A5, c5⟩ = [I (k1' : Int), I (k2' : Int), .slice A5 (e.w.2.2.length + 1) c5] := by
      unfold enL
      simp only [hhw, List.length_append]
      rfl
     rw [ee] at X
     refine go TD_ok 200 rfl ?_
     refine idxA TD_ok rfl rfl rfl rfl rfl 0 rfl (by decide) ?_
     refine go TD_ok 200 rfl ?_
     refine ld TD_ok rfl rfl rfl rfl (B15.get (i := 0) rfl) ?_
     refine go TD_ok 200 rfl ?_
     refine idxA TD_ok rfl rfl rfl rfl rfl 1 rfl (by decide) ?_
     refine go TD_ok 200 rfl ?_
     refine ld TD_ok rfl rfl rfl rfl (B15.get (i := 1) rfl) ?_
     refine go TD_ok 200 rfl ?_
     refine callM rfl rfl rfl rfl (invPut _ _ _) X ?_
     rintro v w10 ⟨A6, c6, hQ10, q10, hA6⟩
     have hn9 : ¬ mineQ gr A g9 := by
      rintro (h | h)
      ·exact hg9r h
      ·exact hg9A h
     have hA9 : A6.map (·.block) ≠ some g9 := fun h => by
      rcases hA6 with h' | ⟨k, h', hk⟩
      ·exact hg9A (h' ▸ h)
      ·rw [h] at h'
       injection h' with h'
       have := B9.lt
       omega
     have hAge : ∀ k, A.map (·.block) = some k → w0.heap.size ≤ k := fun k hk => hQ9.o.ge (by rw [own_map]; exact hk)
     have hgrge : w0.heap.size ≤ gr := by omega
     have hadd : sucW (scP m1) (scP m2) L0 e.w (j + 1) = L ++ [heirW (scP m1) (scP m2) e.w cb] := by
      rw [hstep, ← hL]
      unfold addW
      rw [if_neg (by rw [hkk]; exact hin)]
     have ham := hD.am.add (w := heirW (scP m1) (scP m2) e.w cb) (by rw [hhw]; exact hk1) (by rw [hhw]; exact hk2) (by
      show (e.w.2.2 ++ [cb]).length ≤ _
      rw [List.length_append]
      show e.w.2.2.length + 1 ≤ _
      omega)
     have hadd2 : addW L (heirW (scP m1) (scP m2) e.w cb) = L ++ [heirW (scP m1) (scP m2) e.w cb] := by
      unfold addW
      rw [if_neg (by rw [hkk]; exact hin)]
     rw [hadd2] at ham
     refine go TD_ok 200 rfl ?_
     rw [w64_id (x := (j : Int) + 1) (by omega) (by omega)]
     refine round ⟨⟨j + 1, L ++ [heirW (scP m1) (scP m2) e.w cb], es ++ [⟨heirW (scP m1) (scP m2) e.w cb, A5, c5⟩], A6, c6⟩, rfl, ⟨by simp only; omega, hadd.symm, ⟨ham, ?_, B2.keep q10 (mine_ne hQ9 B2 (by decide) (by decide)), B3.keep q10 (mine_ne hQ9 B3 (by decide) (by decide)), hQ10, ⟨nM + 1, Mm9.keep q10 (mine_neM hQ9 Mm9)⟩, ?_⟩, ?_, ?_, own_keep hce9 q10 (cell_mine hQ9 hce9), B9.keep q10 hn9, hA9, hdj2⟩, by simp only; omega⟩
     ·refine q9'.step q10 (fun k hk e => ?_)
      rcases e with e | e
      ·omega
      ·have := hAge k e; omega
     ·intro x hx
      rcases List.mem_append.1 hx with hx | hx
      ·exact own_keep (hces x hx) q10 (cell_mine hQ9 (hces x hx))
      ·rw [List.mem_singleton] at hx
       subst hx
       exact own_keep hC9 q10 (cell_mine hQ9 hC9)
     ·show i < (L ++ [_]).length
      rw [List.length_append]; omega
     ·show (es ++ [_]).map _ = (L ++ [_]).drop (i + 1)
      rw [List.map_append, List.drop_append_of_le_length (by omega), hes]
      rfl
  ·obtain rfl : j = 2 := by have : ¬ (j : Int) < 2 := hlt; omega
   have hdif2 : difR (scP m1) (scP m2) (nm - (i + 1)) (i + 1) L = D := by
    rw [← hdif, show nm - i = nm - (i + 1) + 1 by omega, dif_next hLi hdj, ← hL]
   have hLn2 := hD.am.len
   rw [← hnm2] at hLn2
   have hes2 : es.length ≤ 16384 := by
    have := congrArg List.length hes
    rw [List.length_map, List.length_drop] at this
    omega
   refine go TD_ok 200 rfl ?_
   refine ldA TD_ok rfl rfl rfl rfl rfl B9.all ?_
   refine go TD_ok 200 rfl ?_
   refine nw rfl rfl (z := .agg #[I 0, I 0, .slice none 0 0]) (by kernel_rfl) (cs := [I 0, I 0, .slice none 0 0]) rfl ?_
   intro gx w3 hgx hsx qk Bx
   have hA0 : ∀ k, A.map (·.block) = some k → k < w2.heap.size := fun k hk => hD.qu.o.lt (by rw [own_map]; exact hk)
   have hgr0 := hD.qu.b.lt
   have hw02 := hD.q.size
   refine go TD_ok 200 rfl ?_
   refine stA TD_ok rfl rfl rfl rfl (vs := enL e) rfl rfl rfl Bx rfl ?_
   intro w4 qk2 Bx hz4
   have Bx : Bk w4 gx 164 (enL e) := Bx
   have q24 : Chg No w2 w4 := qk.step qk2 (fun k hk e => by omega)
   have hD4 := hD
   have hD := hD.no q24
   refine go TD_ok 200 rfl ?_
   refine callM rfl rfl rfl rfl (invTake _ _) (take_any gr _ c A es w4 hD.qu (by omega)) ?_
   rintro v w5 (⟨rfl, rfl, q5⟩ | ⟨e', r, rfl, rfl, A', c', Q5, q5, hA'⟩)
   ·have hD := hD.no q5
    have Bx := Bx.no q5
    refine go TD_ok 200 rfl ?_
    refine stA TD_ok rfl rfl rfl rfl (vs := [I 0, I 0, .slice none 0 0]) rfl rfl rfl Bx rfl ?_
    intro w6 q6 Bx hz6
    have hD : DB m1 m2 gr mb g2 g3 w0 w6 L [] A c := hD4.no ((q24.trans q5).step q6 (fun k hk e => by omega))
    have hLe : L.length ≤ i + 1 := by
     have := congrArg List.length hes
     rw [List.length_drop] at this
     simp at this
     omega
    refine go TD_ok 200 rfl ?_
    exact round ⟨⟨i + 1, L, gx, none, [], A, c⟩, rfl, ⟨hD, hdif2, fun _ => ⟨rfl, hLe⟩, (fun e he => by cases he)⟩, by simp only; omega⟩
   ·have hA'l : ∀ k, A'.map (·.block) = some k → k < w2.heap.size := fun k hk => hA0 k (hA' ▸ hk)
    have Bx := Bx.keep q5 (by omega)
    have Bx5 := Bx
    have hce' : Cell w5 w0.heap.size e' := own_keep (hD.ce e' (by simp)) q5 (fun k hk e => cell_mine hD.qu (hD.ce e' (by simp)) k hk (.inl e))
    refine go TD_ok 200 rfl ?_
    refine stA TD_ok rfl rfl rfl rfl (vs := enL e') rfl rfl rfl Bx rfl ?_
    intro w6 q6 Bx hz6
    have Bx : Bk w6 gx 164 (enL e') := Bx
    obtain ⟨nM, Mm⟩ := hD.mm
    have hs4 := hD.q.size
    have hs5 := q5.size
    have hD5 : DB m1 m2 gr mb g2 g3 w0 w5 L r A' c' :=
     ⟨hD.am, hD.q.step q5 (fun k hk e => by omega), hD.b2.keep q5 (fun e => mine_ne hD.qu hD.b2 (by decide) (by decide) (.inl e)), hD.b3.keep q5 (fun e => mine_ne hD.qu hD.b3 (by decide) (by decide) (.inl e)), Q5, ⟨nM, Mm.keep q5 (fun e => mine_neM hD.qu Mm (.inl e))⟩,
      fun x hx => own_keep (hD.ce x (by simp [hx])) q5 (fun k hk e => cell_mine hD.qu (hD.ce x (by simp [hx])) k hk (.inl e))⟩
    have hg2x := hD4.b2.lt
    have hg3x := hD4.b3.lt
    have hmx : mb < w2.heap.size := by obtain ⟨n, hm⟩ := hD4.mm; exact hm.lt
    have hD6 : DB m1 m2 gr mb g2 g3 w0 w6 L r A' c' := by
     obtain ⟨nM5, Mm5⟩ := hD5.mm
     exact ⟨hD5.am, hD5.q.step q6 (fun k hk e => by omega), hD5.b2.keep q6 (by omega), hD5.b3.keep q6 (by omega), ⟨Q5.b.keep q6 (by omega), Q5.o.keep q6 (fun k hk e => by rw [own_map] at hk; have := hA'l k hk; omega)⟩, ⟨nM5, Mm5.keep q6 (by omega)⟩,
      fun x hx => own_keep (hD5.ce x hx) q6 (fun k hk e => no_own4 (hD5.ce x hx) Bx5 (by decide) (e ▸ hk))⟩
    have hce6 : Cell w6 w0.heap.size e' := own_keep hce' q6 (fun k hk e => no_own4 hce' Bx5 (by decide) (e ▸ hk))
    have hes' : e'.w :: r.map (·.w) = L.drop (i + 1) := hes
    have hL1 : L[i + 1]? = some e'.w := by
     have : (L.drop (i + 1))[0]? = some e'.w := by rw [← hes']; rfl
     rw [List.getElem?_drop] at this
     exact this
    have hr1 : r.map (·.w) = L.drop (i + 1 + 1) := by
     have : (L.drop (i + 1)).drop 1 = r.map (·.w) := by rw [← hes']; rfl
     rw [List.drop_drop] at this
     exact this.symm
    have hgxA : A'.map (·.block) ≠ some gx := fun h => by have := hA'l _ h; omega
    refine go TD_ok 200 rfl ?_
    refine round ⟨⟨i + 1, L, gx, some e', r, A', c'⟩, rfl, ⟨hD6, hdif2, (fun h => by cases h), (fun e he => ?_)⟩, by simp only; omega⟩
    injection he with he
    subst he
    exact ⟨hL1, hr1, hce6, Bx, by show w0.heap.size ≤ gx; omega, hgxA, by show gx ≠ gr; omega⟩
end Go.Proofs.Yteenhfnamjbaiaa
