/- The contracts of next, run and begin: the bets against all rates. -/
import Derived.Test.YtocolpbakaibnaaC2
namespace Go.Proofs.Ytocolpbakaibnaa
open Go.Ev Go.Proofs Go.Cnt

/-- the states after the first i rates' turns -/
def stp (D : Nat) (lv : Int) (hit : Bool) (S : Nat → BS) (i : Nat) : Nat → BS := fun j => if j < i then bstep D lv j (S j) hit else S j
theorem stp_at {D : Nat} {lv : Int} {hit : Bool} {S : Nat → BS} {i : Nat} : stp D lv hit S i i = S i := by simp [stp]
theorem next_any (hit : Bool) (D : Nat) (lv : Int) (S : Nat → BS) (b g : Nat) (w : World) (H : Bets w b g D lv S) (hD0 : 2 ≤ D) (hD1 : D ≤ 1000) (hl0 : 0 ≤ lv) (hl1 : lv ≤ 900000) (hS : ∀ j, j ≤ D → (S j).out = false → BSok 3999 (S j)) :
    Ret Try.prog 71 [.pointer (some ⟨b, 0, none⟩), .bool hit] w fun v w' => v = .tuple #[] ∧ Chg (fun x => x = b ∨ x = g) w w' ∧ Bets w' b g D lv (fun j => bstep D lv j (S j) hit) := by
  have hb := H.ltb
  have hg := H.ltg
  refine enter Try.func71 rfl Try.ntmps71 rfl ?_
  refine go T_ok 100 rfl ?_
  refine bx rfl rfl rfl (cs := [.pointer (some ⟨b, 0, none⟩)]) rfl ?_
  intro b1 w1 hg1 hs1 q1 B1
  refine go T_ok 100 rfl ?_
  refine bx rfl rfl rfl (cs := [.bool hit]) rfl ?_
  intro b2 w2 hg2 hs2 q2 B2
  have B1 := B1.no q2
  have q12 : Chg No w w2 := q1.trans q2
  have H2 := H.no q12
  refine go T_ok 100 rfl ?_
  refine ld T_ok rfl rfl rfl rfl (B1.get rfl) ?_
  refine go T_ok 100 rfl ?_
  obtain ⟨f, cap, Rb, a0, a1, a2, a3, a4, a5⟩ := id H2.par
  refine ld T_ok rfl rfl rfl rfl ((Rb.cell (i := 0 + 2) (by omega)).trans (congrArg some a2)) ?_
  refine go T_ok 100 rfl ?_
  refine loop [2, 3, 4, 11, 12] (fun i : Nat => [.pointer (some ⟨b1, 0, none⟩), .pointer (some ⟨b2, 0, none⟩), .func (.func 82) #[] #[.pointer (some ⟨b1, 0, none⟩), .pointer (some ⟨b2, 0, none⟩)], .int .i64 ((D + 1 : Nat) : Int), .int .i64 (i : Int)])
    (fun i w' => i ≤ D + 1 ∧ Chg (fun x => x = b ∨ x = g) w w' ∧ Bk w' b1 86 [.pointer (some ⟨b, 0, none⟩)] ∧ Bk w' b2 4 [.bool hit] ∧ Bets w' b g D lv (stp D lv hit S i)) (fun i => D + 1 - i) 0 (fun _ => rfl) rfl ⟨by omega, (Chg.refl _ _).no q12, B1, B2, H2.congr fun j _ => by simp [stp]⟩ ?_
  intro i τ w' ⟨hi, q, B1, B2, H⟩
  refine go T_ok 100 rfl ?_
  refine condD rfl (fun hlt => ?_) (fun hlt => ?_)
  · have hlt : i < D + 1 := by omega
    refine go T_ok 100 rfl ?_
    refine ld T_ok rfl rfl rfl rfl (B1.get rfl) ?_
    refine go T_ok 100 rfl ?_
    obtain ⟨f, cap, Rb, a0, a1, a2, a3, a4, a5⟩ := id H.par
    refine idxA T_ok rfl rfl rfl rfl rfl i rfl (by omega) ?_
    refine go T_ok 100 rfl ?_
    have e3 : 0 + 3 + i * 1 = 3 + i := by omega
    rw [e3]
    have hget := (Rb.cell (i := 3 + i) (by omega)).trans (congrArg some (a4 i (by omega)))
    rw [stp_at] at hget
    refine ld T_ok rfl rfl rfl rfl hget ?_
    refine go T_ok 100 rfl ?_
    have ei : w64 ((i : Int) + 1) = ((i + 1 : Nat) : Int) := w64_id (by omega) (by omega)
    cases ho : (S i).out with
    | false =>
      refine condT rfl rfl ?_
      refine go T_ok 100 rfl ?_
      refine call rfl rfl rfl (ok _ (by decide) rfl) (against_any hit D lv _ b g b1 b2 i w' H B1 B2 (by omega) (by omega) hD0 hD1 hl0 hl1 (by omega) (by rw [stp_at]; exact hS i (by omega) ho) (by rw [stp_at]; exact ho)) ?_
      rintro v w3 ⟨rfl, q3, H3⟩
      refine go T_ok 100 rfl ?_
      rw [ei]
      refine round ⟨i + 1, rfl, ⟨by omega, q.trans q3, B1.keep q3 (by omega), B2.keep q3 (by omega), H3.congr ?_⟩, by omega⟩
      intro j _
      by_cases hji : j = i
      · subst hji; simp [stp]
      · simp only [if_neg hji]
        simp only [stp]
        by_cases hj : j < i
        · rw [if_pos hj, if_pos (by omega)]
        · rw [if_neg hj, if_neg (by omega)]
    | true =>
      refine condF rfl rfl ?_
      refine go T_ok 100 rfl ?_
      rw [ei]
      refine round ⟨i + 1, rfl, ⟨by omega, q, B1, B2, H.congr ?_⟩, by omega⟩
      intro j _
      simp only [stp]
      by_cases hji : j = i
      · subst hji; simp [bstep, ho]
      · by_cases hj : j < i
        · rw [if_pos hj, if_pos (by omega)]
        · rw [if_neg hj, if_neg (by omega)]
  · refine go T_ok 100 rfl ?_
    refine fin (ret0 Try.results71 ⟨rfl, q, H.congr ?_⟩)
    intro j hj
    simp only [stp]
    rw [if_pos (by omega)]

/-- the states after the first i of the slots -/
theorem bst_snoc (D lv k : Int) (xs : List Bool) (i : Nat) (h : i < xs.length) : bst D lv k (xs.take (i + 1)) = bstep D lv k (bst D lv k (xs.take i)) xs[i] := by
  unfold bst brun
  rw [List.take_succ_eq_append_getElem h, List.foldl_append]
  rfl
def boolVs (xs : List Bool) : List Value := xs.map .bool
theorem boolVs_get {xs : List Bool} {i : Nat} (h : i < xs.length) : (boolVs xs)[i]? = some (.bool xs[i]) := by
  simp [boolVs, h]
theorem run_any (xs : List Bool) (D : Nat) (lv : Int) (b g B c : Nat) (A : Option Addr) (w : World) (hSl : Sl w B 1 A xs.length (boolVs xs)) (hBb : B ≤ b) (hBg : B ≤ g) (H : Bets w b g D lv (fun _ => BS.new)) (hx : xs.length ≤ 4000) (hD0 : 2 ≤ D) (hD1 : D ≤ 1000) (hl0 : 0 ≤ lv) (hl1 : lv ≤ 900000) :
    Ret Try.prog 55 [.pointer (some ⟨b, 0, none⟩), .slice A xs.length c] w fun v w' => v = .pointer (some ⟨b, 0, none⟩) ∧ Chg (fun x => x = b ∨ x = g) w w' ∧ Bets w' b g D lv (fun j => bst D lv j xs) := by
  refine enter Try.func55 rfl Try.ntmps55 rfl ?_
  refine go T_ok 100 rfl ?_
  refine loop [0, 7, 8, 9] (fun i : Nat => [.pointer (some ⟨b, 0, none⟩), .slice A xs.length c, .int .i64 (xs.length : Int), .int .i64 (i : Int)])
    (fun i w' => i ≤ xs.length ∧ Chg (fun x => x = b ∨ x = g) w w' ∧ Bets w' b g D lv (fun j => bst D lv j (xs.take i))) (fun i => xs.length - i) 0 (fun _ => rfl) rfl ⟨by omega, Chg.refl _ _, H⟩ ?_
  intro i τ w' ⟨hi, q, H⟩
  refine go T_ok 100 rfl ?_
  refine condD rfl (fun hlt => ?_) (fun hlt => ?_)
  · have hlt : i < xs.length := by omega
    refine go T_ok 100 rfl ?_
    obtain ⟨_, _, hA⟩ := hSl.keep q (by omega)
    obtain ⟨bb, off, rfl, hbB, hcells⟩ := hA (by omega)
    refine idx T_ok rfl rfl rfl rfl rfl i rfl (by omega) ?_
    refine go T_ok 100 rfl ?_
    have e3 : off + i * 1 = off + i := by omega
    rw [e3]
    refine ld T_ok rfl rfl rfl rfl (hcells i _ (boolVs_get hlt)) ?_
    refine go T_ok 100 rfl ?_
    have ei : w64 ((i : Int) + 1) = ((i + 1 : Nat) : Int) := w64_id (by omega) (by omega)
    refine call rfl rfl rfl (ok _ (by decide) rfl) (next_any xs[i] D lv _ b g w' H hD0 hD1 hl0 hl1 (fun j hj _ => (bst_ok (by omega) (by omega) (by omega) _).mono (by simp; omega))) ?_
    rintro v w3 ⟨rfl, q3, H3⟩
    refine go T_ok 100 rfl ?_
    rw [ei]
    refine round ⟨i + 1, rfl, ⟨by omega, q.trans q3, H3.congr ?_⟩, by omega⟩
    intro j _
    rw [bst_snoc _ _ _ _ _ hlt]
  · refine go T_ok 100 rfl ?_
    refine ret (ret1 (v := .pointer _) Try.results55 rfl ⟨rfl, q, ?_⟩)
    have : i = xs.length := by omega
    subst this
    rw [List.take_length] at H
    exact H
end Go.Proofs.Ytocolpbakaibnaa
