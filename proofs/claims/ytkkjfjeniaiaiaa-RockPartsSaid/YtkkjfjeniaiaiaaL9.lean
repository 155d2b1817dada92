/- The walk of RockParts. -/
import Derived.Test.YtkkjfjeniaiaiaaL3
import Derived.Test.YtkkjfjeniaiaiaaS4
namespace Go.Proofs.Ytkkjfjeniaiaiaa
open Go.Ev Go.Proofs Go.Rock
attribute [local irreducible] At AtH
theorem tot_bd (k : Int) : ∀ l : List (Int × Int), (∀ p ∈ l, 0 ≤ p.2 ∧ p.2 ≤ 24192000000) → 0 ≤ tot l k ∧ tot l k ≤ (l.length : Int) * 24192000000 := by
  intro l
  induction l with
  | nil => intro _; simp [tot]
  | cons p l ih =>
    intro h
    have hp := h p (by simp)
    have ih := ih fun q hq => h q (by simp [hq])
    rw [tot_cons, List.length_cons]
    split <;> omega
theorem total_any (l : List (Int × Int)) (k : Int) (A : Option Addr) (c B : Nat) (w : World) (hk : 0 ≤ k) (hL : l.length ≤ 100) (hb : ∀ p ∈ l, 0 ≤ p.2 ∧ p.2 ≤ 24192000000) (hS : Sl w B 2 A l.length (l.flatMap cL)) :
    Ret Try.prog 41 [.slice A l.length c, .int .i64 k] w fun x w' => x = .int .i64 (tot l k) ∧ Chg No w w' := by
  refine enter Try.func41 rfl Try.ntmps41 rfl ?_
  refine go T_ok 200 rfl ?_
  refine loop [0, 1, 5, 6] (fun j : Nat => [.slice A l.length c, .int .i64 k, .int .i64 (tot (l.take j) k), .int .i64 (j : Int)])
    (fun j w' => j ≤ l.length ∧ w = w') (fun j => l.length - j) 0 (fun _ => rfl) rfl ⟨by omega, rfl⟩ ?_
  rintro j τ w1 ⟨hj, rfl⟩
  refine go T_ok 200 rfl ?_
  refine condD rfl (fun hlt => ?_) (fun hlt => ?_)
  · have hlt : j < l.length := by omega
    obtain ⟨p, hp⟩ : ∃ p, l[j]? = some p := ⟨_, List.getElem?_eq_getElem hlt⟩
    obtain ⟨b, o, rfl, _, hc⟩ := hS.el cL_len hp
    have e3 : w64 ((j : Int) + 1) = ((j + 1 : Nat) : Int) := w64_id (by omega) (by omega)
    have hpb := hb p (List.mem_of_getElem? hp)
    have htb := tot_bd k (l.take j) fun q hq => hb q (List.mem_of_mem_take hq)
    have hl2 : (l.take j).length = j := by rw [List.length_take]; omega
    rw [hl2] at htb
    have hsn : tot (l.take (j + 1)) k = if p.1 = k then tot (l.take j) k + p.2 else tot (l.take j) k := by rw [take_snoc hp, tot_snoc]
    refine go T_ok 200 rfl ?_
    refine guardD rfl rfl rfl (fun h => ?_) (fun h => ?_)
    · exact absurd h (by omega)
    · refine go T_ok 200 rfl ?_
      refine idx T_ok rfl rfl rfl rfl rfl j rfl hlt ?_
      refine go T_ok 200 rfl ?_
      refine ld T_ok rfl rfl rfl rfl (hc.get (i := 0) rfl) ?_
      refine go T_ok 200 rfl ?_
      refine cond rfl (fun h1 => ?_) (fun h1 => ?_)
      · have h1 : p.1 = k := by simpa using h1
        rw [if_pos h1] at hsn
        have e4 : w64 (tot (l.take j) k + p.2) = tot (l.take j) k + p.2 := w64_id (by omega) (by omega)
        refine go T_ok 200 rfl ?_
        refine idx T_ok rfl rfl rfl rfl rfl j rfl hlt ?_
        refine go T_ok 200 rfl ?_
        refine ld T_ok rfl rfl rfl rfl (hc.get (i := 1) rfl) ?_
        refine go T_ok 200 rfl ?_
        rw [e4, e3]
        exact round ⟨j + 1, by rw [hsn]; rfl, ⟨by omega, rfl⟩, by omega⟩
      · have h1 : ¬ p.1 = k := by simpa using h1
        rw [if_neg h1] at hsn
        refine go T_ok 200 rfl ?_
        rw [e3]
        exact round ⟨j + 1, by rw [hsn]; rfl, ⟨by omega, rfl⟩, by omega⟩
  · have hj3 : j = l.length := by omega
    subst hj3
    rw [List.take_length]
    refine go T_ok 200 rfl ?_
    exact ret (ret1 (v := .int .i64 _) Try.results41 rfl ⟨rfl, Chg.refl _ _⟩)
theorem chs_bd {v : Vo} {r : Ra} {f : Pc → Pc} (hv : VoOk v) (hr : RaOk r) (hf : Shr f) : ∀ p ∈ chs (cutS f (pcs v r)), 0 ≤ p.2 ∧ p.2 ≤ 24192000000 := by
  intro p hp
  obtain ⟨q, hq, rfl⟩ := List.mem_map.1 hp
  have h := mem_cut hv hr hf hq
  have h1 := h.1
  unfold PcR at h1
  show 0 ≤ q.u - q.a ∧ q.u - q.a ≤ _
  omega
theorem chs100 {v : Vo} (r : Ra) (f : Pc → Pc) (hv : VoOk v) : (chs (cutS f (pcs v r))).length ≤ 100 := by
  have := cut_len r f hv
  rw [chs_len]
  omega
set_option maxRecDepth 20000 in
set_option maxHeartbeats 8000000 in
theorem walk_RockParts (v : Vo) (r : Ra) (a m u : Int) (w : World) (_hv : VoI v) (_hr : RaI r) (_ha : I64 a) (_hm : I64 m) (_hu : I64 u) :
    Ret Try.prog 9 [.agg (vL v).toArray, .agg (rL r).toArray, .int .i64 a, .int .i64 m, .int .i64 u] w fun x w' => x = .bool true ∧ Chg No w w' := by
  refine enter Try.func9 rfl Try.ntmps9 rfl ?_
  refine go T_ok 200 rfl ?_
  refine bx rfl rfl rfl (cs := vL v) rfl ?_
  intro g1 u1 hg1 hs1 q1 B1
  refine go T_ok 200 rfl ?_
  refine bx rfl rfl rfl (cs := rL r) rfl ?_
  intro g2 u2 hg2 hs2 q2 B2
  have B1 := B1.no q2
  have q := q1.trans q2
  refine go T_ok 200 rfl ?_
  repeat (first | (refine ldA T_ok rfl rfl rfl rfl rfl (Bk.all B1) ?_; refine go T_ok 200 rfl ?_) | (refine ldA T_ok rfl rfl rfl rfl rfl (Bk.all B2) ?_; refine go T_ok 200 rfl ?_) | (refine ld T_ok rfl rfl rfl rfl (Bk.get B1 rfl) ?_; refine go T_ok 200 rfl ?_) | (refine ld T_ok rfl rfl rfl rfl (Bk.get B2 rfl) ?_; refine go T_ok 200 rfl ?_) | (refine guardA (b := true) rfl rfl rfl rfl (fun _ => ?_) (fun e => by cases e); refine go T_ok 200 rfl ?_) | (refine guardA (b := false) rfl rfl rfl rfl (fun e => by cases e) (fun _ => ?_); refine go T_ok 200 rfl ?_) | (refine condT rfl rfl ?_; refine go T_ok 200 rfl ?_) | (refine condF rfl rfl ?_; refine go T_ok 200 rfl ?_))
  refine call rfl rfl rfl (ok _ (by decide) rfl) (rVolume_any v _) ?_
  rintro x w ⟨rfl, qk⟩
  have B1 := B1.no qk
  have B2 := B2.no qk
  have q := q.trans qk
  by_cases hv : VoOk v
  case neg =>
    rw [decide_eq_false hv]
    refine go T_ok 200 rfl ?_
    repeat (first | (refine guardA (b := true) rfl rfl rfl rfl (fun _ => ?_) (fun e => by cases e); refine go T_ok 200 rfl ?_) | (refine guardA (b := false) rfl rfl rfl rfl (fun e => by cases e) (fun _ => ?_); refine go T_ok 200 rfl ?_) | (refine condT rfl rfl ?_; refine go T_ok 200 rfl ?_) | (refine condF rfl rfl ?_; refine go T_ok 200 rfl ?_))
    refine call rfl rfl rfl (ok _ (by decide) rfl) (known_any _) ?_
    rintro v wk ⟨rfl, qk⟩
    refine go T_ok 200 rfl ?_
    exact ret (ret1 (v := .bool true) Try.results9 rfl ⟨rfl, q.trans qk⟩)
  rw [decide_eq_true hv]
  refine go T_ok 200 rfl ?_
  repeat (first | (refine ldA T_ok rfl rfl rfl rfl rfl (Bk.all B1) ?_; refine go T_ok 200 rfl ?_) | (refine ldA T_ok rfl rfl rfl rfl rfl (Bk.all B2) ?_; refine go T_ok 200 rfl ?_) | (refine ld T_ok rfl rfl rfl rfl (Bk.get B1 rfl) ?_; refine go T_ok 200 rfl ?_) | (refine ld T_ok rfl rfl rfl rfl (Bk.get B2 rfl) ?_; refine go T_ok 200 rfl ?_) | (refine guardA (b := true) rfl rfl rfl rfl (fun _ => ?_) (fun e => by cases e); refine go T_ok 200 rfl ?_) | (refine guardA (b := false) rfl rfl rfl rfl (fun e => by cases e) (fun _ => ?_); refine go T_ok 200 rfl ?_) | (refine condT rfl rfl ?_; refine go T_ok 200 rfl ?_) | (refine condF rfl rfl ?_; refine go T_ok 200 rfl ?_))
  refine call rfl rfl rfl (ok _ (by decide) rfl) (rRay_any r _) ?_
  rintro x w ⟨rfl, qk⟩
  have B1 := B1.no qk
  have B2 := B2.no qk
  have q := q.trans qk
  by_cases hr : RaOk r
  case neg =>
    rw [decide_eq_false hr]
    refine go T_ok 200 rfl ?_
    repeat (first | (refine guardA (b := true) rfl rfl rfl rfl (fun _ => ?_) (fun e => by cases e); refine go T_ok 200 rfl ?_) | (refine guardA (b := false) rfl rfl rfl rfl (fun e => by cases e) (fun _ => ?_); refine go T_ok 200 rfl ?_) | (refine condT rfl rfl ?_; refine go T_ok 200 rfl ?_) | (refine condF rfl rfl ?_; refine go T_ok 200 rfl ?_))
    refine call rfl rfl rfl (ok _ (by decide) rfl) (known_any _) ?_
    rintro v wk ⟨rfl, qk⟩
    refine go T_ok 200 rfl ?_
    exact ret (ret1 (v := .bool true) Try.results9 rfl ⟨rfl, q.trans qk⟩)
  rw [decide_eq_true hr]
  refine go T_ok 200 rfl ?_
  repeat (first | (refine ldA T_ok rfl rfl rfl rfl rfl (Bk.all B1) ?_; refine go T_ok 200 rfl ?_) | (refine ldA T_ok rfl rfl rfl rfl rfl (Bk.all B2) ?_; refine go T_ok 200 rfl ?_) | (refine ld T_ok rfl rfl rfl rfl (Bk.get B1 rfl) ?_; refine go T_ok 200 rfl ?_) | (refine ld T_ok rfl rfl rfl rfl (Bk.get B2 rfl) ?_; refine go T_ok 200 rfl ?_) | (refine guardA (b := true) rfl rfl rfl rfl (fun _ => ?_) (fun e => by cases e); refine go T_ok 200 rfl ?_) | (refine guardA (b := false) rfl rfl rfl rfl (fun e => by cases e) (fun _ => ?_); refine go T_ok 200 rfl ?_) | (refine condT rfl rfl ?_; refine go T_ok 200 rfl ?_) | (refine condF rfl rfl ?_; refine go T_ok 200 rfl ?_))
  refine guardD rfl rfl rfl (fun h1 => ?_) (fun h1 => ?_)
  · skip
    refine go T_ok 200 rfl ?_
    repeat (first | (refine guardA (b := true) rfl rfl rfl rfl (fun _ => ?_) (fun e => by cases e); refine go T_ok 200 rfl ?_) | (refine guardA (b := false) rfl rfl rfl rfl (fun e => by cases e) (fun _ => ?_); refine go T_ok 200 rfl ?_) | (refine condT rfl rfl ?_; refine go T_ok 200 rfl ?_) | (refine condF rfl rfl ?_; refine go T_ok 200 rfl ?_))
    refine call rfl rfl rfl (ok _ (by decide) rfl) (known_any _) ?_
    rintro v wk ⟨rfl, qk⟩
    refine go T_ok 200 rfl ?_
    exact ret (ret1 (v := .bool true) Try.results9 rfl ⟨rfl, q.trans qk⟩)
  refine go T_ok 200 rfl ?_
  repeat (first | (refine ldA T_ok rfl rfl rfl rfl rfl (Bk.all B1) ?_; refine go T_ok 200 rfl ?_) | (refine ldA T_ok rfl rfl rfl rfl rfl (Bk.all B2) ?_; refine go T_ok 200 rfl ?_) | (refine ld T_ok rfl rfl rfl rfl (Bk.get B1 rfl) ?_; refine go T_ok 200 rfl ?_) | (refine ld T_ok rfl rfl rfl rfl (Bk.get B2 rfl) ?_; refine go T_ok 200 rfl ?_) | (refine guardA (b := true) rfl rfl rfl rfl (fun _ => ?_) (fun e => by cases e); refine go T_ok 200 rfl ?_) | (refine guardA (b := false) rfl rfl rfl rfl (fun e => by cases e) (fun _ => ?_); refine go T_ok 200 rfl ?_) | (refine condT rfl rfl ?_; refine go T_ok 200 rfl ?_) | (refine condF rfl rfl ?_; refine go T_ok 200 rfl ?_))
  refine guardD rfl rfl rfl (fun h2 => ?_) (fun h2 => ?_)
  · skip
    refine go T_ok 200 rfl ?_
    repeat (first | (refine guardA (b := true) rfl rfl rfl rfl (fun _ => ?_) (fun e => by cases e); refine go T_ok 200 rfl ?_) | (refine guardA (b := false) rfl rfl rfl rfl (fun e => by cases e) (fun _ => ?_); refine go T_ok 200 rfl ?_) | (refine condT rfl rfl ?_; refine go T_ok 200 rfl ?_) | (refine condF rfl rfl ?_; refine go T_ok 200 rfl ?_))
    refine call rfl rfl rfl (ok _ (by decide) rfl) (known_any _) ?_
    rintro v wk ⟨rfl, qk⟩
    refine go T_ok 200 rfl ?_
    exact ret (ret1 (v := .bool true) Try.results9 rfl ⟨rfl, q.trans qk⟩)
  refine go T_ok 200 rfl ?_
  repeat (first | (refine ldA T_ok rfl rfl rfl rfl rfl (Bk.all B1) ?_; refine go T_ok 200 rfl ?_) | (refine ldA T_ok rfl rfl rfl rfl rfl (Bk.all B2) ?_; refine go T_ok 200 rfl ?_) | (refine ld T_ok rfl rfl rfl rfl (Bk.get B1 rfl) ?_; refine go T_ok 200 rfl ?_) | (refine ld T_ok rfl rfl rfl rfl (Bk.get B2 rfl) ?_; refine go T_ok 200 rfl ?_) | (refine guardA (b := true) rfl rfl rfl rfl (fun _ => ?_) (fun e => by cases e); refine go T_ok 200 rfl ?_) | (refine guardA (b := false) rfl rfl rfl rfl (fun e => by cases e) (fun _ => ?_); refine go T_ok 200 rfl ?_) | (refine condT rfl rfl ?_; refine go T_ok 200 rfl ?_) | (refine condF rfl rfl ?_; refine go T_ok 200 rfl ?_))
  refine guardD rfl rfl rfl (fun h3 => ?_) (fun h3 => ?_)
  · skip
    refine go T_ok 200 rfl ?_
    repeat (first | (refine guardA (b := true) rfl rfl rfl rfl (fun _ => ?_) (fun e => by cases e); refine go T_ok 200 rfl ?_) | (refine guardA (b := false) rfl rfl rfl rfl (fun e => by cases e) (fun _ => ?_); refine go T_ok 200 rfl ?_) | (refine condT rfl rfl ?_; refine go T_ok 200 rfl ?_) | (refine condF rfl rfl ?_; refine go T_ok 200 rfl ?_))
    refine call rfl rfl rfl (ok _ (by decide) rfl) (known_any _) ?_
    rintro v wk ⟨rfl, qk⟩
    refine go T_ok 200 rfl ?_
    exact ret (ret1 (v := .bool true) Try.results9 rfl ⟨rfl, q.trans qk⟩)
  refine go T_ok 200 rfl ?_
  repeat (first | (refine ldA T_ok rfl rfl rfl rfl rfl (Bk.all B1) ?_; refine go T_ok 200 rfl ?_) | (refine ldA T_ok rfl rfl rfl rfl rfl (Bk.all B2) ?_; refine go T_ok 200 rfl ?_) | (refine ld T_ok rfl rfl rfl rfl (Bk.get B1 rfl) ?_; refine go T_ok 200 rfl ?_) | (refine ld T_ok rfl rfl rfl rfl (Bk.get B2 rfl) ?_; refine go T_ok 200 rfl ?_) | (refine guardA (b := true) rfl rfl rfl rfl (fun _ => ?_) (fun e => by cases e); refine go T_ok 200 rfl ?_) | (refine guardA (b := false) rfl rfl rfl rfl (fun e => by cases e) (fun _ => ?_); refine go T_ok 200 rfl ?_) | (refine condT rfl rfl ?_; refine go T_ok 200 rfl ?_) | (refine condF rfl rfl ?_; refine go T_ok 200 rfl ?_))
  refine condD rfl (fun h4 => ?_) (fun h4 => ?_)
  · skip
    refine go T_ok 200 rfl ?_
    repeat (first | (refine guardA (b := true) rfl rfl rfl rfl (fun _ => ?_) (fun e => by cases e); refine go T_ok 200 rfl ?_) | (refine guardA (b := false) rfl rfl rfl rfl (fun e => by cases e) (fun _ => ?_); refine go T_ok 200 rfl ?_) | (refine condT rfl rfl ?_; refine go T_ok 200 rfl ?_) | (refine condF rfl rfl ?_; refine go T_ok 200 rfl ?_))
    refine call rfl rfl rfl (ok _ (by decide) rfl) (known_any _) ?_
    rintro v wk ⟨rfl, qk⟩
    refine go T_ok 200 rfl ?_
    exact ret (ret1 (v := .bool true) Try.results9 rfl ⟨rfl, q.trans qk⟩)
  have k1 : btR v r a m = (0, chs (cutS (btw a m) (pcs v r))) := by unfold btR; rw [if_pos ⟨hv, hr, by omega, by omega, by omega⟩]
  have k2 : btR v r m u = (0, chs (cutS (btw m u) (pcs v r))) := by unfold btR; rw [if_pos ⟨hv, hr, by omega, by omega, by omega⟩]
  have k3 : btR v r a u = (0, chs (cutS (btw a u) (pcs v r))) := by unfold btR; rw [if_pos ⟨hv, hr, by omega, by omega, by omega⟩]
  have k4 : btR v r 0 1000000000000 = (0, chs (pcs v r)) := by unfold btR; rw [if_pos ⟨hv, hr, by omega, by omega, by omega⟩, cut_all hv hr]
  have k5 : chR v r = (0, chs (pcs v r)) := by unfold chR; rw [if_pos ⟨hv, hr⟩]
  have k6 : pcs v r = cutS id (pcs v r) := (cut_id hv).symm
  refine go T_ok 200 rfl ?_
  repeat (first | (refine ldA T_ok rfl rfl rfl rfl rfl (Bk.all B1) ?_; refine go T_ok 200 rfl ?_) | (refine ldA T_ok rfl rfl rfl rfl rfl (Bk.all B2) ?_; refine go T_ok 200 rfl ?_) | (refine ld T_ok rfl rfl rfl rfl (Bk.get B1 rfl) ?_; refine go T_ok 200 rfl ?_) | (refine ld T_ok rfl rfl rfl rfl (Bk.get B2 rfl) ?_; refine go T_ok 200 rfl ?_) | (refine guardA (b := true) rfl rfl rfl rfl (fun _ => ?_) (fun e => by cases e); refine go T_ok 200 rfl ?_) | (refine guardA (b := false) rfl rfl rfl rfl (fun e => by cases e) (fun _ => ?_); refine go T_ok 200 rfl ?_) | (refine condT rfl rfl ?_; refine go T_ok 200 rfl ?_) | (refine condF rfl rfl ?_; refine go T_ok 200 rfl ?_))
  refine call rfl rfl rfl (ok _ (by decide) rfl) (Between_any v r a m _) ?_
  rintro x w ⟨A1, c1, e1, l1, rfl, S1, qk, j1⟩
  have B1 := B1.no qk
  have B2 := B2.no qk
  have q := q.trans qk
  refine go T_ok 200 rfl ?_
  repeat (first | (refine ldA T_ok rfl rfl rfl rfl rfl (Bk.all B1) ?_; refine go T_ok 200 rfl ?_) | (refine ldA T_ok rfl rfl rfl rfl rfl (Bk.all B2) ?_; refine go T_ok 200 rfl ?_) | (refine ld T_ok rfl rfl rfl rfl (Bk.get B1 rfl) ?_; refine go T_ok 200 rfl ?_) | (refine ld T_ok rfl rfl rfl rfl (Bk.get B2 rfl) ?_; refine go T_ok 200 rfl ?_) | (refine guardA (b := true) rfl rfl rfl rfl (fun _ => ?_) (fun e => by cases e); refine go T_ok 200 rfl ?_) | (refine guardA (b := false) rfl rfl rfl rfl (fun e => by cases e) (fun _ => ?_); refine go T_ok 200 rfl ?_) | (refine condT rfl rfl ?_; refine go T_ok 200 rfl ?_) | (refine condF rfl rfl ?_; refine go T_ok 200 rfl ?_))
  refine call rfl rfl rfl (ok _ (by decide) rfl) (Between_any v r m u _) ?_
  rintro x w ⟨A2, c2, e2, l2, rfl, S2, qk, j2⟩
  have B1 := B1.no qk
  have B2 := B2.no qk
  have S1 := S1.no qk
  have q := q.trans qk
  refine go T_ok 200 rfl ?_
  repeat (first | (refine ldA T_ok rfl rfl rfl rfl rfl (Bk.all B1) ?_; refine go T_ok 200 rfl ?_) | (refine ldA T_ok rfl rfl rfl rfl rfl (Bk.all B2) ?_; refine go T_ok 200 rfl ?_) | (refine ld T_ok rfl rfl rfl rfl (Bk.get B1 rfl) ?_; refine go T_ok 200 rfl ?_) | (refine ld T_ok rfl rfl rfl rfl (Bk.get B2 rfl) ?_; refine go T_ok 200 rfl ?_) | (refine guardA (b := true) rfl rfl rfl rfl (fun _ => ?_) (fun e => by cases e); refine go T_ok 200 rfl ?_) | (refine guardA (b := false) rfl rfl rfl rfl (fun e => by cases e) (fun _ => ?_); refine go T_ok 200 rfl ?_) | (refine condT rfl rfl ?_; refine go T_ok 200 rfl ?_) | (refine condF rfl rfl ?_; refine go T_ok 200 rfl ?_))
  refine call rfl rfl rfl (ok _ (by decide) rfl) (Between_any v r a u _) ?_
  rintro x w ⟨A3, c3, e3, l3, rfl, S3, qk, j3⟩
  have B1 := B1.no qk
  have B2 := B2.no qk
  have S1 := S1.no qk
  have S2 := S2.no qk
  have q := q.trans qk
  refine go T_ok 200 rfl ?_
  repeat (first | (refine ldA T_ok rfl rfl rfl rfl rfl (Bk.all B1) ?_; refine go T_ok 200 rfl ?_) | (refine ldA T_ok rfl rfl rfl rfl rfl (Bk.all B2) ?_; refine go T_ok 200 rfl ?_) | (refine ld T_ok rfl rfl rfl rfl (Bk.get B1 rfl) ?_; refine go T_ok 200 rfl ?_) | (refine ld T_ok rfl rfl rfl rfl (Bk.get B2 rfl) ?_; refine go T_ok 200 rfl ?_) | (refine guardA (b := true) rfl rfl rfl rfl (fun _ => ?_) (fun e => by cases e); refine go T_ok 200 rfl ?_) | (refine guardA (b := false) rfl rfl rfl rfl (fun e => by cases e) (fun _ => ?_); refine go T_ok 200 rfl ?_) | (refine condT rfl rfl ?_; refine go T_ok 200 rfl ?_) | (refine condF rfl rfl ?_; refine go T_ok 200 rfl ?_))
  refine call rfl rfl rfl (ok _ (by decide) rfl) (Between_any v r 0 1000000000000 _) ?_
  rintro x w ⟨A4, c4, e4, l4, rfl, S4, qk, j4⟩
  have B1 := B1.no qk
  have B2 := B2.no qk
  have S1 := S1.no qk
  have S2 := S2.no qk
  have S3 := S3.no qk
  have q := q.trans qk
  refine go T_ok 200 rfl ?_
  repeat (first | (refine ldA T_ok rfl rfl rfl rfl rfl (Bk.all B1) ?_; refine go T_ok 200 rfl ?_) | (refine ldA T_ok rfl rfl rfl rfl rfl (Bk.all B2) ?_; refine go T_ok 200 rfl ?_) | (refine ld T_ok rfl rfl rfl rfl (Bk.get B1 rfl) ?_; refine go T_ok 200 rfl ?_) | (refine ld T_ok rfl rfl rfl rfl (Bk.get B2 rfl) ?_; refine go T_ok 200 rfl ?_) | (refine guardA (b := true) rfl rfl rfl rfl (fun _ => ?_) (fun e => by cases e); refine go T_ok 200 rfl ?_) | (refine guardA (b := false) rfl rfl rfl rfl (fun e => by cases e) (fun _ => ?_); refine go T_ok 200 rfl ?_) | (refine condT rfl rfl ?_; refine go T_ok 200 rfl ?_) | (refine condF rfl rfl ?_; refine go T_ok 200 rfl ?_))
  refine call rfl rfl rfl (ok _ (by decide) rfl) (Chords_any v r _) ?_
  rintro x w ⟨A5, c5, e5, l5, rfl, S5, qk, j5⟩
  have B1 := B1.no qk
  have B2 := B2.no qk
  have S1 := S1.no qk
  have S2 := S2.no qk
  have S3 := S3.no qk
  have S4 := S4.no qk
  have q := q.trans qk
  rw [k1] at j1
  rw [k2] at j2
  rw [k3] at j3
  rw [k4] at j4
  rw [k5] at j5
  cases j1
  cases j2
  cases j3
  cases j4
  cases j5
  refine go T_ok 200 rfl ?_
  repeat (first | (refine ldA T_ok rfl rfl rfl rfl rfl (Bk.all B1) ?_; refine go T_ok 200 rfl ?_) | (refine ldA T_ok rfl rfl rfl rfl rfl (Bk.all B2) ?_; refine go T_ok 200 rfl ?_) | (refine ld T_ok rfl rfl rfl rfl (Bk.get B1 rfl) ?_; refine go T_ok 200 rfl ?_) | (refine ld T_ok rfl rfl rfl rfl (Bk.get B2 rfl) ?_; refine go T_ok 200 rfl ?_) | (refine guardA (b := true) rfl rfl rfl rfl (fun _ => ?_) (fun e => by cases e); refine go T_ok 200 rfl ?_) | (refine guardA (b := false) rfl rfl rfl rfl (fun e => by cases e) (fun _ => ?_); refine go T_ok 200 rfl ?_) | (refine condT rfl rfl ?_; refine go T_ok 200 rfl ?_) | (refine condF rfl rfl ?_; refine go T_ok 200 rfl ?_))
  refine call rfl rfl rfl (ok _ (by decide) rfl) (SameChords_any _ _ _ _ _ _ _ _ _ (by rw [k6]; exact cut_len63 r _ hv) S4 S5) ?_
  rintro x w ⟨rfl, qk⟩
  have B1 := B1.no qk
  have B2 := B2.no qk
  have S1 := S1.no qk
  have S2 := S2.no qk
  have S3 := S3.no qk
  have S4 := S4.no qk
  have S5 := S5.no qk
  have q := q.trans qk
  rw [decide_eq_true rfl]
  have hxyz := vo_xyz hv
  have tm := fun k => tot_parts (a := a) (m := m) (u := u) (by omega) (by omega) k (pcs v r)
  have tl := fun k => tot_less a u k (pcs v r) fun p hp => (mem_pcs hv hp).2.2.2.1
  have d1 := chs_bd hv hr (shr_btw a m)
  have d2 := chs_bd hv hr (shr_btw m u)
  have d3 := chs_bd hv hr (shr_btw a u)
  have d5 := chs_bd hv hr shr_id
  rw [← k6] at d5
  have n1 := chs100 r (btw a m) hv
  have n2 := chs100 r (btw m u) hv
  have n3 := chs100 r (btw a u) hv
  have n5 := chs100 r id hv
  rw [← k6] at n5
  generalize chs (cutS (btw a m) (pcs v r)) = L1 at *
  generalize chs (cutS (btw m u) (pcs v r)) = L2 at *
  generalize chs (cutS (btw a u) (pcs v r)) = L3 at *
  generalize chs (pcs v r) = L5 at *
  refine go T_ok 200 rfl ?_
  repeat (first | (refine guardA (b := true) rfl rfl rfl rfl (fun _ => ?_) (fun e => by cases e); refine go T_ok 200 rfl ?_) | (refine guardA (b := false) rfl rfl rfl rfl (fun e => by cases e) (fun _ => ?_); refine go T_ok 200 rfl ?_) | (refine condT rfl rfl ?_; refine go T_ok 200 rfl ?_) | (refine condF rfl rfl ?_; refine go T_ok 200 rfl ?_))
  refine loop [5, 6, 11, 13, 15, 19, 21] (fun j : Nat => [.pointer (some ⟨g1, 0, none⟩), .pointer (some ⟨g2, 0, none⟩), .slice A1 L1.length c1, .slice A2 L2.length c2, .slice A3 L3.length c3, .slice A5 L5.length c5, .int .i64 (j : Int)])
    (fun j w' => j ≤ (v.nx * v.ny * v.nz).toNat ∧ Chg No w w') (fun j => (v.nx * v.ny * v.nz).toNat - j) 0 (fun _ => rfl) rfl ⟨by omega, Chg.refl _ _⟩ ?_
  rintro j τ w ⟨hj, qk⟩
  have p := qk
  have B1 := B1.no qk
  have B2 := B2.no qk
  have S1 := S1.no qk
  have S2 := S2.no qk
  have S3 := S3.no qk
  have S4 := S4.no qk
  have S5 := S5.no qk
  have q := q.trans qk
  refine go T_ok 200 rfl ?_
  repeat (first | (refine ldA T_ok rfl rfl rfl rfl rfl (Bk.all B1) ?_; refine go T_ok 200 rfl ?_) | (refine ldA T_ok rfl rfl rfl rfl rfl (Bk.all B2) ?_; refine go T_ok 200 rfl ?_) | (refine ld T_ok rfl rfl rfl rfl (Bk.get B1 rfl) ?_; refine go T_ok 200 rfl ?_) | (refine ld T_ok rfl rfl rfl rfl (Bk.get B2 rfl) ?_; refine go T_ok 200 rfl ?_) | (refine guardA (b := true) rfl rfl rfl rfl (fun _ => ?_) (fun e => by cases e); refine go T_ok 200 rfl ?_) | (refine guardA (b := false) rfl rfl rfl rfl (fun e => by cases e) (fun _ => ?_); refine go T_ok 200 rfl ?_) | (refine condT rfl rfl ?_; refine go T_ok 200 rfl ?_) | (refine condF rfl rfl ?_; refine go T_ok 200 rfl ?_))
  refine call rfl rfl rfl (ok _ (by decide) rfl) (Cells_any v _ hv) ?_
  rintro x w ⟨rfl, qk⟩
  have B1 := B1.no qk
  have B2 := B2.no qk
  have S1 := S1.no qk
  have S2 := S2.no qk
  have S3 := S3.no qk
  have S4 := S4.no qk
  have S5 := S5.no qk
  have p := p.no qk
  have q := q.trans qk
  refine go T_ok 200 rfl ?_
  refine condD rfl (fun hlt => ?_) (fun hlt => ?_)
  · have z1 := tot_bd (j : Int) _ d1
    have z2 := tot_bd (j : Int) _ d2
    have z3 := tot_bd (j : Int) _ d3
    have z5 := tot_bd (j : Int) _ d5
    have e1 : w64 (tot L1 (j : Int) + tot L2 (j : Int)) = tot L3 (j : Int) := by rw [w64_id (by omega) (by omega)]; exact tm _
    have e3 : w64 ((j : Int) + 1) = ((j + 1 : Nat) : Int) := w64_id (by omega) (by omega)
    have hle := tl (j : Int)
    refine go T_ok 200 rfl ?_
    refine call rfl rfl rfl (ok _ (by decide) rfl) (total_any L1 (j : Int) A1 c1 _ _ (by omega) n1 d1 S1) ?_
    rintro x w ⟨rfl, qk⟩
    have B1 := B1.no qk
    have B2 := B2.no qk
    have S1 := S1.no qk
    have S2 := S2.no qk
    have S3 := S3.no qk
    have S4 := S4.no qk
    have S5 := S5.no qk
    have p := p.no qk
    have q := q.trans qk
    refine go T_ok 200 rfl ?_
    refine call rfl rfl rfl (ok _ (by decide) rfl) (total_any L2 (j : Int) A2 c2 _ _ (by omega) n2 d2 S2) ?_
    rintro x w ⟨rfl, qk⟩
    have B1 := B1.no qk
    have B2 := B2.no qk
    have S1 := S1.no qk
    have S2 := S2.no qk
    have S3 := S3.no qk
    have S4 := S4.no qk
    have S5 := S5.no qk
    have p := p.no qk
    have q := q.trans qk
    refine go T_ok 200 rfl ?_
    refine call rfl rfl rfl (ok _ (by decide) rfl) (total_any L3 (j : Int) A3 c3 _ _ (by omega) n3 d3 S3) ?_
    rintro x w ⟨rfl, qk⟩
    have B1 := B1.no qk
    have B2 := B2.no qk
    have S1 := S1.no qk
    have S2 := S2.no qk
    have S3 := S3.no qk
    have S4 := S4.no qk
    have S5 := S5.no qk
    have p := p.no qk
    have q := q.trans qk
    refine go T_ok 200 rfl ?_
    rw [e1]
    refine guardA (b := false) rfl rfl rfl (congrArg Value.bool (by simp)) (fun e => by cases e) (fun _ => ?_)
    refine go T_ok 200 rfl ?_
    refine call rfl rfl rfl (ok _ (by decide) rfl) (total_any L3 (j : Int) A3 c3 _ _ (by omega) n3 d3 S3) ?_
    rintro x w ⟨rfl, qk⟩
    have B1 := B1.no qk
    have B2 := B2.no qk
    have S1 := S1.no qk
    have S2 := S2.no qk
    have S3 := S3.no qk
    have S4 := S4.no qk
    have S5 := S5.no qk
    have p := p.no qk
    have q := q.trans qk
    refine go T_ok 200 rfl ?_
    refine call rfl rfl rfl (ok _ (by decide) rfl) (total_any L5 (j : Int) A5 c5 _ _ (by omega) n5 d5 S5) ?_
    rintro x w ⟨rfl, qk⟩
    have B1 := B1.no qk
    have B2 := B2.no qk
    have S1 := S1.no qk
    have S2 := S2.no qk
    have S3 := S3.no qk
    have S4 := S4.no qk
    have S5 := S5.no qk
    have p := p.no qk
    have q := q.trans qk
    refine go T_ok 200 rfl ?_
    refine condF rfl (decide_eq_false (by omega)) ?_
    refine go T_ok 200 rfl ?_
    rw [e3]
    exact round ⟨j + 1, rfl, ⟨by omega, p⟩, by omega⟩
  · refine go T_ok 200 rfl ?_
    refine call rfl rfl rfl (ok _ (by decide) rfl) (known_any _) ?_
    rintro v wk ⟨rfl, qk⟩
    refine go T_ok 200 rfl ?_
    exact ret (ret1 (v := .bool true) Try.results9 rfl ⟨rfl, q.trans qk⟩)
end Go.Proofs.Ytkkjfjeniaiaiaa
