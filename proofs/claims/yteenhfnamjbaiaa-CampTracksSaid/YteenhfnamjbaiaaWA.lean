/- The contract of trackers in the specification; those of the program, as values. -/
import Derived.Test.YteenhfnamjbaiaaW7
import Derived.Test.YteenhfnamjbaiaaW4
namespace Go.Proofs.Yteenhfnamjbaiaa
open Go.Ev Go.Proofs
open Go.Camp (Sc ScOk Sc8 grainsN grainsN_succ grainsN_le trNx trAl trRaw trackP trRaw_ok smE smallP small_ok)
attribute [local irreducible] At AtH
theorem grains_more {s f : Nat} (h : s < 2 ^ f) : ∀ k, f ≤ k → grainsN k s = grainsN f s := by
 intro k
 induction k with
 | zero =>
  intro hk
  obtain rfl : f = 0 := by omega
  rfl
 | succ k ih =>
  intro hk
  rcases Nat.lt_or_ge k f with h' | h'
  ·obtain rfl : f = k + 1 := by omega
   rfl
  ·have h2 : s < 2 ^ k := Nat.lt_of_lt_of_le h (Nat.pow_le_pow_right (by decide) h')
   rw [grainsN_succ, ih h', Nat.testBit_lt_two_pow h2]
   simp
theorem r_remN {P : Program} {n : Nat} {ρ : Env} {w : World} {o : Oper} {t ty : TypeId} {x y : Operand} (ho : o.op = .binOp .rem t x y ty) {a b : Int} (hx : ev n ρ x = .int .i64 a) (hy : ev n ρ y = .int .i64 b) (ha : 0 ≤ a) (hb : b ≠ 0) : (execOp (ev n ρ) o).run P w = .ok (.value (.int .i64 (a % b))) w := by
 rw [r_rem ho hx hy hb, Int.tmod_eq_emod_of_nonneg ha]
/-- the program's tracker, as a value -/
theorem track_V {w0 w' : World} {nd gp : Nat} {gx gy n : Nat} (hl : nd + gp - 1 ≤ 7) (h1 : w0.heap.size ≤ gx) (h2 : w0.heap.size ≤ gy) (Bx : Bk w' gx 124 ((trackP nd gp).nx.flatMap nV)) (By : Bk w' gy 125 ((trackP nd gp).al.flatMap bV)) (hn : n = (smE (trRaw nd (nd + gp - 1) (2 ^ (nd + gp - 1)))).2.2) :
  SmV w0 w' (trackP nd gp) (.agg #[.slice (some ⟨gx, 0, none⟩) n n, .slice (some ⟨gy, 0, none⟩) n n]) := by
 have e : n = (trackP nd gp).nx.length := by rw [hn]; exact (small_ok (trRaw_ok hl)).2.2.2
 subst e
 exact ⟨gx, gy, rfl, h1, h2, Bx, By⟩
theorem track_ok {nd gp : Nat} (hl : nd + gp - 1 ≤ 7) : Sc8 (trackP nd gp) := by
 obtain ⟨h1, h2, _⟩ := small_ok (trRaw_ok (need := nd) hl)
 have h3 : (trRaw nd (nd + gp - 1) (2 ^ (nd + gp - 1))).nx.length = 2 ^ (nd + gp - 1) := by simp [trRaw]
 have h4 : 2 ^ (nd + gp - 1) ≤ 2 ^ 7 := Nat.pow_le_pow_right (by decide) hl
 rw [h3] at h2
 exact ⟨h1, by show (trackP nd gp).nx.length ≤ 128; exact Nat.le_trans h2 (by simpa using h4)⟩
set_option maxRecDepth 20000 in
set_option maxHeartbeats 16000000 in
theorem rTracker_any (nd gp : Nat) (w0 : World) (hn1 : 1 ≤ nd) (hn2 : nd ≤ 5) (hg2 : gp ≤ 3) : Ret Try.prog 53 [I (nd : Int), I (gp : Int)] w0 fun v w' => Chg No w0 w' ∧ SmO w0 w' (trackP nd gp) v := by
 obtain ⟨last, hlast⟩ : ∃ k : Nat, k = nd + gp - 1 := ⟨_, rfl⟩
 have hl7 : last ≤ 7 := by omega
 have hp : 2 ^ last ≤ 128 := Nat.le_trans (Nat.pow_le_pow_right (by decide) hl7) (by decide)
 have hp0 : 0 < 2 ^ last := Nat.pow_pos (by decide)
 have htp : trackP nd gp = smallP (trRaw nd last (2 ^ last)) := by rw [hlast]; rfl
 rw [htp]
 refine enter Try.func53 rfl Try.ntmps53 rfl ?_
 refine go TD_ok 200 rfl ?_
 refine nw rfl rfl (z := .agg #[.slice none 0 0, .slice none 0 0]) (by kernel_rfl) (cs := [.slice none 0 0, .slice none 0 0]) rfl ?_
 intro g4 w hg4 hs4 q B4
 refine go TD_ok 200 rfl ?_
 refine nw rfl rfl (z := .agg #[.slice none 0 0, .slice none 0 0]) (by kernel_rfl) (cs := [.slice none 0 0, .slice none 0 0]) rfl ?_
 intro g5 w hg5 hs5 qk B5
 have l4 := B4.lt
 have B4 := B4.no qk
 have q := q.trans qk
 have u4 : w0.heap.size ≤ g4 := by omega
 have u5 : g4 < g5 := by omega
 clear hg4 hs4 hg5 hs5 l4
 refine go TD_ok 200 rfl ?_
 refine loop [0, 1, 4, 5, 6, 7] (fun i : Nat => [I (nd : Int), I (gp : Int), .pointer (some ⟨g4, 0, none⟩), .pointer (some ⟨g5, 0, none⟩), I ((2 ^ i : Nat) : Int), .int .i64 ((i + 1 : Nat) : Int)]) (fun i w' => i ≤ last ∧ Chg No w0 w' ∧ Bk w' g4 77 [.slice none 0 0, .slice none 0 0] ∧ Bk w' g5 77 [.slice none 0 0, .slice none 0 0]) (fun i => last - i) 0 (fun _ => rfl) rfl ⟨Nat.zero_le _, q, B4, B5⟩ ?_
 clear B4 B5 q qk
 rintro i τ w ⟨hi, q, B4, B5⟩
 have hpi : 2 ^ i ≤ 2 ^ last := Nat.pow_le_pow_right (by decide) hi
 have hp2 : 2 ^ (i + 1) = 2 ^ i * 2 := Nat.pow_succ _ _
 refine go TD_ok 200 rfl ?_
 rw [w64_id (x := (nd : Int) + (gp : Int)) (by omega) (by omega)]
 refine condD rfl (fun hlt => ?_) (fun hlt => ?_)
 ·have hlt : i < last := by have : ((i + 1 : Nat) : Int) < (nd : Int) + (gp : Int) := hlt; omega
  refine go TD_ok 200 rfl ?_
  rw [w64_id (x := 2 * ((2 ^ i : Nat) : Int)) (by omega) (by omega), w64_id (x := ((i + 1 : Nat) : Int) + 1) (by omega) (by omega), show 2 * ((2 ^ i : Nat) : Int) = ((2 ^ (i + 1) : Nat) : Int) by omega, show ((i + 1 : Nat) : Int) + 1 = ((i + 1 + 1 : Nat) : Int) by omega]
  exact round ⟨i + 1, rfl, ⟨by omega, q, B4, B5⟩, by omega⟩
 have hil : i = last := by have : ¬ ((i + 1 : Nat) : Int) < (nd : Int) + (gp : Int) := hlt; omega
 subst hil
 obtain ⟨N, hN⟩ : ∃ k : Nat, k = 2 ^ i := ⟨_, rfl⟩
 rw [← hN] at hp hp0 ⊢
 clear hpi hp2
 refine go TD_ok 200 rfl ?_
 refine loop [0, 4, 5, 6, 8] (fun x : Nat × Option Addr × Nat × Option Addr × Nat => [I (nd : Int), .pointer (some ⟨g4, 0, none⟩), .pointer (some ⟨g5, 0, none⟩), I (N : Int), .int .i64 (x.1 : Int)])
  (fun x w' => x.1 ≤ N ∧ Chg No w0 w' ∧ Bk w' g4 77 [.slice none 0 0, .slice none 0 0] ∧ Bk w' g5 77 [.slice x.2.1 x.1 x.2.2.1, .slice x.2.2.2.1 x.1 x.2.2.2.2] ∧
   w'.ownsRow w0.heap.size 124 2 (.slice x.2.1 x.1 x.2.2.1) x.1 ((trRaw nd i x.1).nx.flatMap nV) ∧ w'.ownsRow w0.heap.size 125 2 (.slice x.2.2.2.1 x.1 x.2.2.2.2) x.1 ((trRaw nd i x.1).al.flatMap bV)) (fun x => N - x.1) (0, none, 0, none, 0) (fun _ => rfl) rfl ⟨Nat.zero_le _, q, B4, B5, own_nil, own_nil⟩ ?_
 clear B4 B5 q
 rintro ⟨s, AN, cN, AO, cO⟩ τ w ⟨hs, q, B4, B5, on, oo⟩
 simp only at hs B5 on oo
 dsimp only
 refine go TD_ok 200 rfl ?_
 refine condD rfl (fun hlt => ?_) (fun hlt => ?_)
 ·have hlt : s < N := by have : (s : Int) < (N : Int) := hlt; omega
  have es : w64 ((s : Int) + 1) = ((s + 1 : Nat) : Int) := w64_id (by omega) (by omega)
  refine go TD_ok 200 rfl ?_
  refine loop [0, 4, 5, 6, 8, 9, 10] (fun f : Nat => [I (nd : Int), .pointer (some ⟨g4, 0, none⟩), .pointer (some ⟨g5, 0, none⟩), I (N : Int), .int .i64 (s : Int), I ((grainsN f s - 1 : Nat) : Int), I ((s / 2 ^ f : Nat) : Int)])
   (fun f w' => f ≤ i ∧ w' = w) (fun f => i - f) 0 (fun _ => rfl) (by rw [show s / 2 ^ 0 = s by simp]; rfl) ⟨Nat.zero_le _, rfl⟩ ?_
  rintro f τ w8 ⟨hf, rfl⟩
  have hgl := grainsN_le f s
  have hg1 : 1 ≤ grainsN f s := by
   have : ∀ k, 1 ≤ grainsN k s := fun k => by
    induction k with
    | zero => exact Nat.le_refl _
    | succ k ih => rw [grainsN_succ]; omega
   exact this f
  refine go TD_ok 200 rfl ?_
  refine condD rfl (fun hb => ?_) (fun hb => ?_)
  ·have hb : 0 < s / 2 ^ f := by have : (0 : Int) < ((s / 2 ^ f : Nat) : Int) := hb; omega
   have hfl : f < i := by
    rcases Nat.lt_or_ge f i with h | h
    ·exact h
    ·obtain rfl : f = i := by omega
     rw [Nat.div_eq_of_lt (by omega)] at hb
     omega
   have hdle : s / 2 ^ f ≤ s := Nat.div_le_self _ _
   have hgs := grainsN_succ f s
   have hbit : (((s / 2 ^ f : Nat) : Int) % 2) = (((if s.testBit f then 1 else 0 : Nat)) : Int) := by
    rw [Nat.testBit_eq_decide_div_mod_eq]
    generalize s / 2 ^ f = z
    by_cases hz : z % 2 = 1
    ·rw [if_pos (by simpa using hz)]; omega
    ·rw [if_neg (by simpa using hz)]; omega
   have hdd : s / 2 ^ f / 2 = s / 2 ^ (f + 1) := by rw [Nat.div_div_eq_div_mul, Nat.pow_succ]
   refine go TD_ok 200 rfl ?_
   repeat ((first | refine ldA TD_ok rfl rfl rfl rfl rfl (Bk.all B4) ?_ | refine ld TD_ok rfl rfl rfl rfl (Bk.get B4 rfl) ?_ | refine gT rfl rfl rfl rfl ?_ | refine gF rfl rfl rfl rfl ?_ | refine condT rfl rfl ?_ | refine condF rfl rfl ?_); refine go TD_ok 200 rfl ?_)
   refine remN rfl rfl rfl rfl (by omega) (by decide) ?_
   refine go TD_ok 200 rfl ?_
   repeat ((first | refine ldA TD_ok rfl rfl rfl rfl rfl (Bk.all B4) ?_ | refine ld TD_ok rfl rfl rfl rfl (Bk.get B4 rfl) ?_ | refine gT rfl rfl rfl rfl ?_ | refine gF rfl rfl rfl rfl ?_ | refine condT rfl rfl ?_ | refine condF rfl rfl ?_); refine go TD_ok 200 rfl ?_)
   refine quoN rfl rfl rfl rfl (by omega) (by omega) (by decide) ?_
   refine go TD_ok 200 rfl ?_
   repeat ((first | refine ldA TD_ok rfl rfl rfl rfl rfl (Bk.all B4) ?_ | refine ld TD_ok rfl rfl rfl rfl (Bk.get B4 rfl) ?_ | refine gT rfl rfl rfl rfl ?_ | refine gF rfl rfl rfl rfl ?_ | refine condT rfl rfl ?_ | refine condF rfl rfl ?_); refine go TD_ok 200 rfl ?_)
   rw [hbit]
   have hb2 : (if s.testBit f then 1 else 0 : Nat) ≤ 1 := by split <;> omega
   generalize (if s.testBit f then 1 else 0 : Nat) = bt at *
   rw [w64_id (x := ((grainsN f s - 1 : Nat) : Int) + (bt : Int)) (by omega) (by omega)]
   rw [show ((grainsN f s - 1 : Nat) : Int) + (bt : Int) = ((grainsN (f + 1) s - 1 : Nat) : Int) by omega, show ((s / 2 ^ f : Nat) : Int) / 2 = ((s / 2 ^ (f + 1) : Nat) : Int) by omega]
   exact round ⟨f + 1, rfl, ⟨by omega, rfl⟩, by omega⟩
  have hb0 : s / 2 ^ f = 0 := by
   rcases Nat.eq_zero_or_pos (s / 2 ^ f) with h | h
   ·exact h
   ·exact absurd (Int.natCast_pos.2 h) hb
  have hsf : s < 2 ^ f := by
   have := Nat.div_eq_zero_iff.1 hb0
   have h2 : 0 < 2 ^ f := Nat.pow_pos (by decide)
   omega
  have hge := grains_more hsf i hf
  have sN := trNx_snoc nd i s
  have sA := trAl_snoc nd i s
  have etr : bV (trAl nd i s) = [.bool false, .bool (decide ((nd : Int) ≤ (grainsN i s : Int)))] := by
   show [Value.bool false, .bool (decide (nd ≤ grainsN i s))] = _
   have : decide ((nd : Int) ≤ (grainsN i s : Int)) = decide (nd ≤ grainsN i s) := by by_cases h : nd ≤ grainsN i s <;> simp [h]
   rw [this]
  have eN1 : w64 (2 * (s : Int)) = 2 * (s : Int) := w64_id (by omega) (by omega)
  have eN2 : w64 (2 * (s : Int) + 1) = 2 * (s : Int) + 1 := w64_id (by omega) (by omega)
  have eNx : nV (trNx i s) = [I (2 * (s : Int) % (N : Int)), I ((2 * (s : Int) + 1) % (N : Int))] := by
   unfold trNx nV
   rw [← hN]
   simp only [Int.natCast_emod, Int.natCast_add, Int.natCast_mul]
   rw [show (s : Int) * ((2 : Nat) : Int) = 2 * (s : Int) by omega]
   rfl
  have hge1 := own_ge (k := 0) on
  have hgn : ∀ k, (Value.slice AN s cN).ownBlock = some k → w0.heap.size ≤ k := fun k e => own_ge on e
  have hgo : ∀ k, (Value.slice AO s cO).ownBlock = some k → w0.heap.size ≤ k := fun k e => own_ge oo e
  clear hge1
  refine go TD_ok 200 rfl ?_
  refine draw mixed (fun w' => Chg (fun k => (Value.slice AN s cN).ownBlock = some k) w8 w') ([0,1,2,3,4,5,6,7,8,9,10,11].map (fun i => (i, true)) ++ [(12, false)] ++ [(13, false)] ++ [14].map (fun i => (i, true)) ++ [(15, false)]) rfl (by kernel_rfl) ((Chg.drew _).mono fun _ _ h => h.elim) ?_
  have qd : Chg (fun k => (Value.slice AN s cN).ownBlock = some k) w8 w8.drew := (Chg.drew w8).mono fun _ _ h => h.elim
  refine goH TD_ok 200 rfl ?_
  repeat (first | (refine quietH rfl (fun w' hS => r_load TD_ok rfl rfl rfl (Bk.get (B5.keep hS (fun e => own_ne on B5 (by decide) e)) rfl)) ?_; refine goH TD_ok 200 rfl ?_))
  rw [eN1]
  refine quietH rfl (fun w' hS => r_remN rfl rfl rfl (by omega) (by omega)) ?_
  refine goH TD_ok 200 rfl ?_
  rw [eN1, eN2]
  refine quietH rfl (fun w' hS => r_remN rfl rfl rfl (by omega) (by omega)) ?_
  refine goH TD_ok 200 rfl ?_
  refine quietH rfl (fun w' hS => r_bldA TD_ok rfl rfl (z := .agg #[I 0, I 0]) (by kernel_rfl) (cs := [I (2 * (s : Int) % (N : Int)), I ((2 * (s : Int) + 1) % (N : Int))]) rfl) ?_
  refine goH TD_ok 200 rfl ?_
  have on0 := on
  have on := own_no on (Chg.drew w8)
  refine rowE TD_ok rfl rfl rfl rfl rfl rfl (cs := [I (2 * (s : Int) % (N : Int)), I ((2 * (s : Int) + 1) % (N : Int))]) rfl ?_
  intro gr w2 hgr hsr qk Br
  have on := own_no on qk
  have qd := qd.no qk
  refine ⟨qd, ?_⟩
  refine goH TD_ok 200 rfl ?_
  have hs0 := qd.size
  have hq0 := q.size
  refine appSE TD_ok rfl rfl rfl rfl rfl on (Br.sl (sz := 2) (m := 1) rfl) rfl (by show s + 1 ≤ maxLen; unfold maxLen; omega) (by show (s + 1) * 16 ≤ _; omega) (by omega) ?_
  intro A7 c7 w3 on7 qk hown
  have qd := qd.trans qk
  refine ⟨qd, ?_⟩
  refine goH TD_ok 200 rfl ?_
  have B4 := B4.keep qd (fun e => own_ne on0 B4 (by decide) e)
  have B5 := B5.keep qd (fun e => own_ne on0 B5 (by decide) e)
  have oo := own_keep oo qd (fun k e hh => own_apart on0 oo (by decide) k hh e)
  have q := q.step qd (fun k hk e => by have := hgn _ e; omega)
  have B5o := B5
  refine storeL TD_ok rfl rfl rfl rfl (v := .slice A7 (s + 1) c7) rfl rfl B5 rfl (by kernel_rfl) ?_
  intro w4 qk B5' hz5
  have B5 : Bk w4 g5 77 [.slice A7 (s + 1) c7, .slice AO s cO] := B5'
  refine endH ?_
  have B4 := B4.keep qk (by omega)
  have on := own_keep on7 qk (fun k e hh => by subst hh; exact own_ne on7 B5o (by decide) e)
  have oo := own_keep oo qk (fun k e hh => by subst hh; exact own_ne oo B5o (by decide) e)
  have q := q.step qk (fun k hk e => by omega)
  clear B5' B5o qk qd Br on7 on0
  refine go TD_ok 200 rfl ?_
  repeat ((first | refine ldA TD_ok rfl rfl rfl rfl rfl (Bk.all B5) ?_ | refine ld TD_ok rfl rfl rfl rfl (Bk.get B5 rfl) ?_ | refine gT rfl rfl rfl rfl ?_ | refine gF rfl rfl rfl rfl ?_ | refine condT rfl rfl ?_ | refine condF rfl rfl ?_); refine go TD_ok 200 rfl ?_)
  rw [w64_id (x := ((grainsN f s - 1 : Nat) : Int) + 1) (by omega) (by omega), show ((grainsN f s - 1 : Nat) : Int) + 1 = (grainsN i s : Int) by omega]
  refine bldA TD_ok rfl rfl rfl (z := .agg #[.bool false, .bool false]) (by kernel_rfl) (cs := [.bool false, .bool (decide ((nd : Int) ≤ (grainsN i s : Int)))]) rfl ?_
  refine go TD_ok 200 rfl ?_
  refine app1 TD_ok rfl rfl rfl rfl rfl rfl (cs := [.bool false, .bool (decide ((nd : Int) ≤ (grainsN i s : Int)))]) rfl rfl rfl rfl (fun _ => rfl) (fun _ => rfl) (fun _ => rfl) oo (by show s + 1 ≤ maxLen; unfold maxLen; omega) (by show (s + 1) * 2 ≤ _; omega) q.size ?_
  intro gx A8 c8 w5 oo8 qk hs10 hown
  have B4 := B4.keep qk (fun e => own_ne oo B4 (by decide) e)
  have B5 := B5.keep qk (fun e => own_ne oo B5 (by decide) e)
  have on := own_keep on qk (fun k e hh => own_apart oo on (by decide) k hh e)
  have q := q.step qk (fun k hk e => by have := hgo _ e; omega)
  have B5o := B5
  refine go TD_ok 200 rfl ?_
  refine st TD_ok rfl rfl rfl rfl (v := .slice A8 (s + 1) c8) rfl rfl B5 rfl ?_
  intro w6 qk B5' hz
  have B5 : Bk w6 g5 77 [.slice A7 (s + 1) c7, .slice A8 (s + 1) c8] := B5'
  have B4 := B4.keep qk (by omega)
  have on := own_keep on qk (fun k e hh => by subst hh; exact own_ne on B5o (by decide) e)
  have oo := own_keep oo8 qk (fun k e hh => by subst hh; exact own_ne oo8 B5o (by decide) e)
  have q := q.step qk (fun k hk e => by omega)
  refine go TD_ok 200 rfl ?_
  rw [es]
  refine round ⟨(s + 1, A7, c7, A8, c8), rfl, ⟨by simp only; omega, q, B4, B5, ?_, ?_⟩, by simp only; omega⟩
  ·simp only; rw [sN, eNx]; exact on
  ·simp only; rw [sA, etr]; exact oo
 ·obtain rfl : s = N := by have : ¬ (s : Int) < (N : Int) := hlt; omega
  have hok : ScOk (trRaw nd i s) := by rw [hN]; exact trRaw_ok hl7
  have hlN : (trRaw nd i s).nx.length = s := by simp [trRaw]
  have hlO : (trRaw nd i s).al.length = s := by simp [trRaw]
  have HM : ScM w w.heap.size ⟨⟨AN, (trRaw nd i s).nx, cN⟩, ⟨AO, (trRaw nd i s).al, cO⟩⟩ := ⟨by show Sl w _ 2 AN (trRaw nd i s).nx.length _; rw [hlN]; exact own_sl on, by show Sl w _ 2 AO (trRaw nd i s).al.length _; rw [hlO]; exact own_sl oo, by show (trRaw nd i s).nx.length ≤ _; omega, by show (trRaw nd i s).al.length ≤ _; omega⟩
  have hL : scL ⟨⟨AN, (trRaw nd i s).nx, cN⟩, ⟨AO, (trRaw nd i s).al, cO⟩⟩ = [.slice AN s cN, .slice AO s cO] := by show [Value.slice AN (trRaw nd i s).nx.length cN, Value.slice AO (trRaw nd i s).al.length cO] = _; rw [hlN, hlO]
  have hsc : scP ⟨⟨AN, (trRaw nd i s).nx, cN⟩, ⟨AO, (trRaw nd i s).al, cO⟩⟩ = trRaw nd i s := rfl
  have X := rSmallest_any _ _ _ HM (by rw [hsc]; exact ⟨hok, by omega⟩)
  rw [hL, hsc] at X
  have l4 := B4.lt
  have lq := q.size
  refine go TD_ok 200 rfl ?_
  refine ldA TD_ok rfl rfl rfl rfl rfl B5.all ?_
  refine go TD_ok 200 rfl ?_
  refine call rfl rfl rfl (ok _ (by decide) rfl) X ?_
  clear X
  rintro v w6 ⟨qk, A1, c1, A2, c2, rfl, o1, o2⟩
  have B4 := B4.no qk
  have q := q.trans qk
  have B4o := B4
  refine go TD_ok 200 rfl ?_
  refine stA TD_ok rfl rfl rfl rfl (vs := [.slice A1 (smallP (trRaw nd i s)).nx.length c1, .slice A2 (smallP (trRaw nd i s)).nx.length c2]) rfl rfl rfl B4 rfl ?_
  intro w9 qk B4' hz4
  have B4 : Bk w9 g4 77 [.slice A1 (smallP (trRaw nd i s)).nx.length c1, .slice A2 (smallP (trRaw nd i s)).nx.length c2] := B4'
  refine go TD_ok 200 rfl ?_
  exact ret (retR1 Try.results53 (resA TD_ok rfl rfl rfl B4.all) ⟨q.step qk (fun k hk e => by omega), A1, c1, A2, c2, rfl, own_base (own_keep o1 qk (fun k e hh => by subst hh; exact own_ne o1 B4o (by decide) e)) lq, own_base (own_keep o2 qk (fun k e hh => by subst hh; exact own_ne o2 B4o (by decide) e)) lq⟩)
end Go.Proofs.Yteenhfnamjbaiaa
