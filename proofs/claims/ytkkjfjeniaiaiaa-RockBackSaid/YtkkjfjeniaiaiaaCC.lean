/- The contracts of clash, best, Grounds, Clash. -/
import Derived.Test.YtkkjfjeniaiaiaaCB
namespace Go.Proofs.Ytkkjfjeniaiaiaa
open Go.Ev Go.Proofs Go.Rock
attribute [local irreducible] At AtH

def clT (o : Option (Nat × Nat)) : List Value := match o with
  | some (a, b) => [.int .i64 (a : Int), .int .i64 (b : Int), .bool true]
  | none => [.int .i64 0, .int .i64 0, .bool false]
theorem getD_some {l : List Su} {j : Nat} {s : Su} (h : l[j]? = some s) : l.getD j su0 = s := by rw [List.getD_eq_getElem?_getD, h]; rfl
set_option maxHeartbeats 8000000 in
theorem clash_any (v : Vo) (st : Int) (l : List Su) (A : Option Addr) (c B : Nat) (w : World) (hv : VoOk v) (hl : LdOk v st l) (hL : l.length ≤ 50) (hS : Sl w B 3 A l.length (l.flatMap sL)) :
    Ret Try.prog 71 [.agg (ldL v st A l.length c).toArray] w fun x w' => x = .tuple (clT (clsh v st l)).toArray ∧ Chg No w w' := by
  refine enter Try.func71 rfl Try.ntmps71 rfl ?_
  refine go T_ok 200 rfl ?_
  refine bx rfl rfl rfl (cs := ldL v st A l.length c) rfl ?_
  intro g1 u1 hg1 hs1 q1 B1
  refine go T_ok 200 rfl ?_
  refine scope ?_
  refine go T_ok 200 rfl ?_
  refine label ?_
  refine go T_ok 200 rfl ?_
  repeat (first | (refine ld T_ok rfl rfl rfl rfl (Bk.get B1 rfl) ?_; refine go T_ok 200 rfl ?_) | (refine guardA (b := true) rfl rfl rfl rfl (fun _ => ?_) (fun e => by cases e); refine go T_ok 200 rfl ?_) | (refine guardA (b := false) rfl rfl rfl rfl (fun e => by cases e) (fun _ => ?_); refine go T_ok 200 rfl ?_) | (refine condT rfl rfl ?_; refine go T_ok 200 rfl ?_) | (refine condF rfl rfl ?_; refine go T_ok 200 rfl ?_))
  -- the end
  refine loop [1, 5, 6, 7, 13, 14, 15] (fun i : Nat => [.pointer (some ⟨g1, 0, none⟩), .int .i64 0, .int .i64 0, .bool false, .slice A l.length c, .int .i64 (l.length : Int), .int .i64 (i : Int)])
    (fun i w' => i ≤ l.length ∧ Chg No w w' ∧ Bk w' g1 115 (ldL v st A l.length c) ∧ clsh v st l = fst2 (clP v st l) l.length (l.length - i) i) (fun i => l.length - i) 0 (fun _ => rfl) rfl ⟨by omega, q1, B1, rfl⟩ ?_
  rintro i τ w2 ⟨hi, q2, B2, hc⟩
  refine go T_ok 200 rfl ?_
  refine condD rfl (fun hlt => ?_) (fun hlt => ?_)
  · have hlt : i < l.length := by omega
    obtain ⟨s, hs⟩ : ∃ s, l[i]? = some s := ⟨_, List.getElem?_eq_getElem hlt⟩
    obtain ⟨b, o, rfl, hb, hcs⟩ := (hS.no q2).el sL_len hs
    obtain ⟨m, hm⟩ : ∃ m, l.length - i = m + 1 := ⟨l.length - i - 1, by omega⟩
    have e1 : w64 ((i : Int) + 1) = ((i + 1 : Nat) : Int) := w64_id (by omega) (by omega)
    have hmi : l.length - (i + 1) = m := by omega
    rw [hm, fst2] at hc
    refine go T_ok 200 rfl ?_
    refine idx T_ok rfl rfl rfl rfl rfl i rfl hlt ?_
    refine go T_ok 200 rfl ?_
    refine ldA T_ok rfl rfl rfl rfl rfl hcs ?_
    refine go T_ok 200 rfl ?_
    refine nw rfl rfl (z := .agg #[I 0, I 0, I 0]) (by kernel_rfl) (cs := [I 0, I 0, I 0]) rfl ?_
    intro g4 u4 hg4 hs4 q4 B4
    refine go T_ok 200 rfl ?_
    refine stA T_ok rfl rfl rfl rfl (vs := sL s) rfl rfl rfl B4 rfl ?_
    intro u5 q5 B5 hs5
    have B5 : Bk u5 g4 89 (sL s) := B5
    have q45 : Chg No w2 u5 := q4.step q5 (fun k hk e => by omega)
    have B1 := B2.no q45
    have q15 := q2.trans q45
    have l4 := B5.lt
    refine go T_ok 200 rfl ?_
    repeat (first | (refine ld T_ok rfl rfl rfl rfl (Bk.get B1 rfl) ?_; refine go T_ok 200 rfl ?_) | (refine guardA (b := true) rfl rfl rfl rfl (fun _ => ?_) (fun e => by cases e); refine go T_ok 200 rfl ?_) | (refine guardA (b := false) rfl rfl rfl rfl (fun e => by cases e) (fun _ => ?_); refine go T_ok 200 rfl ?_) | (refine condT rfl rfl ?_; refine go T_ok 200 rfl ?_) | (refine condF rfl rfl ?_; refine go T_ok 200 rfl ?_))
    refine loop [1, 5, 6, 7, 8, 9, 13, 14, 15, 21, 22, 23] (fun k : Nat => [.pointer (some ⟨g1, 0, none⟩), .int .i64 0, .int .i64 0, .bool false, .int .i64 (i : Int), .pointer (some ⟨g4, 0, none⟩), .slice (some ⟨b, o, none⟩) l.length c, .int .i64 (l.length : Int), .int .i64 (i : Int), .slice (some ⟨b, o, none⟩) l.length c, .int .i64 (l.length : Int), .int .i64 (k : Int)])
      (fun k w' => k ≤ l.length ∧ Chg No u5 w' ∧ fstI (clP v st l i) l.length 0 = fstI (clP v st l i) (l.length - k) k) (fun k => l.length - k) 0 (fun _ => rfl) rfl ⟨by omega, Chg.refl _ _, rfl⟩ ?_
    rintro k τ w6 ⟨hk, q6, hf⟩
    have B1 := B1.no q6
    have B5 := B5.no q6
    refine go T_ok 200 rfl ?_
    refine condD rfl (fun hlt2 => ?_) (fun hlt2 => ?_)
    · have hlt2 : k < l.length := by omega
      obtain ⟨t, ht⟩ : ∃ s, l[k]? = some s := ⟨_, List.getElem?_eq_getElem hlt2⟩
      obtain ⟨b', o', hA, hb', hct⟩ := ((hS.no q15).no q6).el sL_len ht
      simp only [Option.some.injEq, Addr.mk.injEq, and_true] at hA
      obtain ⟨rfl, rfl⟩ := hA
      obtain ⟨n, hn⟩ : ∃ n, l.length - k = n + 1 := ⟨l.length - k - 1, by omega⟩
      have e2 : w64 ((k : Int) + 1) = ((k + 1 : Nat) : Int) := w64_id (by omega) (by omega)
      have hnk : l.length - (k + 1) = n := by omega
      rw [hn, fstI] at hf
      have hcl : clP v st l i k = decide (highS v st t s.col < s.lo) := by unfold clP; rw [getD_some hs, getD_some ht]
      have hso := hl.1 s (List.mem_of_getElem? hs)
      have hto := hl.1 t (List.mem_of_getElem? ht)
      have hso' := hso
      unfold SuOk at hso'
      refine go T_ok 200 rfl ?_
      refine idx T_ok rfl rfl rfl rfl rfl k rfl hlt2 ?_
      refine go T_ok 200 rfl ?_
      refine ldA T_ok rfl rfl rfl rfl rfl hct ?_
      refine go T_ok 200 rfl ?_
      refine nw rfl rfl (z := .agg #[I 0, I 0, I 0]) (by kernel_rfl) (cs := [I 0, I 0, I 0]) rfl ?_
      intro g7 u7 hg7 hs7 q7 B7
      refine go T_ok 200 rfl ?_
      refine stA T_ok rfl rfl rfl rfl (vs := sL t) rfl rfl rfl B7 rfl ?_
      intro u8 q8 B8 hs8
      have B8 : Bk u8 g7 89 (sL t) := B8
      have q68 : Chg No w6 u8 := q7.step q8 (fun k hk e => by omega)
      have B1 := B1.no q68
      have B5 := B5.no q68
      refine go T_ok 200 rfl ?_
      refine draw mixed (fun w' => Chg No u8 w') ([0,1,2,3,4,5,6].map (fun i => (i, true)) ++ [(7, false)] ++ [8].map (fun i => (i, true))) rfl (by kernel_rfl) (Chg.drew _) ?_
      refine goH T_ok 200 rfl ?_
      repeat (first | (refine quietH rfl (fun w' hS => r_load T_ok rfl rfl rfl (Bk.get (B5.no hS) rfl)) ?_; refine goH T_ok 200 rfl ?_))
      refine quietH rfl (fun w' hS => r_loadA T_ok rfl rfl rfl rfl (B1.no hS).all) ?_
      refine goH T_ok 200 rfl ?_
      refine quietH rfl (fun w' hS => r_loadA T_ok rfl rfl rfl rfl (B8.no hS).all) ?_
      refine goH T_ok 200 rfl ?_
      repeat (first | (refine quietH rfl (fun w' hS => r_load T_ok rfl rfl rfl (Bk.get (B5.no hS) rfl)) ?_; refine goH T_ok 200 rfl ?_))
      refine callE rfl rfl rfl (ok _ (by decide) rfl) (high_any v st t s.col _ _ _ _ hv hl.2.1 hl.2.2 hto hso'.1.1 (by omega)) ?_
      rintro x w9 ⟨rfl, q9⟩
      have q89 := (Chg.drew u8).trans q9
      refine ⟨q89, ?_⟩
      refine goH T_ok 200 rfl ?_
      refine endH ?_
      refine go T_ok 200 rfl ?_
      refine condD rfl (fun hit => ?_) (fun hit => ?_)
      · have hp : clP v st l i k = true := by rw [hcl]; exact decide_eq_true hit
        rw [if_pos hp] at hf
        rw [hf] at hc
        refine go T_ok 200 rfl ?_
        rw [show clsh v st l = some (i, k) from hc]
        exact ret (ret3 (v := .int .i64 (i : Int)) (x := .int .i64 (k : Int)) (y := .bool true) Try.results71 rfl rfl rfl ⟨rfl, ((q15.trans q6).trans q68).trans q89⟩)
      · have hp : clP v st l i k = false := by rw [hcl]; exact decide_eq_false hit
        rw [if_neg (by rw [hp]; simp)] at hf
        refine go T_ok 200 rfl ?_
        rw [e2]
        exact round ⟨k + 1, rfl, ⟨by omega, (q6.trans q68).trans q89, by rw [hnk]; exact hf⟩, by omega⟩
    · have hkl : k = l.length := by omega
      subst hkl
      rw [Nat.sub_self, fstI] at hf
      rw [hf] at hc
      refine go T_ok 200 rfl ?_
      rw [e1]
      exact round ⟨i + 1, rfl, ⟨by omega, q15.trans q6, B1, by rw [hmi]; exact hc⟩, by omega⟩
  · have hil : i = l.length := by omega
    rw [hil, Nat.sub_self, fst2] at hc
    refine go T_ok 200 rfl ?_
    rw [hc]
    exact ret (ret3 (v := .int .i64 0) (x := .int .i64 0) (y := .bool false) Try.results71 rfl rfl rfl ⟨rfl, q2⟩)
end Go.Proofs.Ytkkjfjeniaiaiaa
