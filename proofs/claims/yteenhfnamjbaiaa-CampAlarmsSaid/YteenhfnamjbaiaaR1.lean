/- The contracts of the examples and of the comparisons (the specification of layer 9). -/
import Derived.Test.YteenhfnamjbaiaaJM
import Derived.Test.YteenhfnamjbaiaaQB
import Derived.Test.YteenhfnamjbaiaaCM
namespace Go.Ev
open Go.RowKit
section
variable {P : Program} (w : World)
theorem part1 {e : TypeId} {u : TypeDesc} (hu : P.underlying e = some u) (hna : aggB P e = false) (xs : Array Value) (off : Nat) (v : Value) (h : xs[off]? = some v) : (part e xs off).run P w = .ok v w := by
 simp [part, run_isAgg _ _ hu, hna, h]
theorem run_eqArr2 {t e : TypeId} {d : Nat} (ht : P.underlying t = some (.array 2 e)) {inf : TypeInfo} (hi : P.info? e = some inf) (hs : inf.size = 1) {u : TypeDesc} (hu : P.underlying e = some u) (hna : aggB P e = false) (x0 x1 y0 y1 : Value) (b0 b1 : Bool)
  (h0 : (Op.equalIn d e x0 y0).run P w = .ok b0 w) (h1 : (Op.equalIn d e x1 y1).run P w = .ok b1 w) : (Op.equalIn (d + 1) t (.agg #[x0, x1]) (.agg #[y0, y1])).run P w = .ok (b0 && b1) w := by
 have p0 := part1 w hu hna #[x0, x1] 0 x0 rfl
 have p1 := part1 w hu hna #[x0, x1] 1 x1 rfl
 have q0 := part1 w hu hna #[y0, y1] 0 y0 rfl
 have q1 := part1 w hu hna #[y0, y1] 1 y1 rfl
 rw [Op.equalIn]
 simp only [Sem.run_bind, run_underlying ht, Result.andThen_ok, run_sizeOf hi, hs]
 simp only [Std.Legacy.Range.forIn_eq_forIn_range', Std.Legacy.Range.size]
 simp only [Nat.mul_one, Nat.sub_zero, Nat.add_sub_cancel, Nat.div_one, show List.range' 0 2 = [0, 1] from rfl]
 cases b0 <;> cases b1 <;> simp [List.forIn_cons, p0, p1, q0, q1, h0, h1]
/-- two arrays of two elements, held against each other -/
theorem r_neqArr {n : Nat} {ρ : Env} {o : Oper} {x y : Operand} {t e ty : TypeId} (ho : o.op = .binOp .neq t x y ty) (ht : P.underlying t = some (.array 2 e)) (hi : (P.info? e).map (·.size) = some 1) {u : TypeDesc} (hu : P.underlying e = some u) (hna : aggB P e = false) (hm : P.eqGuardType P.depth t = false)
  {x0 x1 y0 y1 : Value} {b0 b1 c : Bool} (hx : ev n ρ x = .agg #[x0, x1]) (hy : ev n ρ y = .agg #[y0, y1]) (h0 : (Op.equalIn 9999 e x0 y0).run P w = .ok b0 w) (h1 : (Op.equalIn 9999 e x1 y1).run P w = .ok b1 w) (hc : (!(b0 && b1)) = c) :
  (execOp (ev n ρ) o).run P w = .ok (.value (.bool c)) w := by
 obtain ⟨inf, hi1, hi2⟩ : ∃ inf, P.info? e = some inf ∧ inf.size = 1 := by
  cases h : P.info? e with
  | none => rw [h] at hi; cases hi
  | some i => rw [h] at hi; exact ⟨i, rfl, by simpa using hi⟩
 have hq : (Op.equalIn 10000 t (.agg #[x0, x1]) (.agg #[y0, y1])).run P w = .ok (b0 && b1) w := run_eqArr2 w ht hi1 hi2 hu hna x0 x1 y0 y1 b0 b1 h0 h1
 simp only [execOp, ho, hx, hy, Sem.run_bind, run_eqGuard_agg w .neq t x y _ _ hm, Result.andThen_ok, run_neq_struct, hq, hc, Sem.run_pure]
end
end Go.Ev
namespace Go.Proofs.Yteenhfnamjbaiaa
open Go.Ev Go.Proofs
open Go.Camp (Sc ScOk)
attribute [local irreducible] At AtH
def TK : Tab := TD ++ TS
theorem TK_ok : tabOk Try.prog TK = true := by kernel_rfl
def camK : Go.Camp.Cp := ⟨4, 3, 10, [⟨4, 0, 2, 1⟩, ⟨6, 0, 2, 2⟩, ⟨7, 1, 3, 4⟩]⟩
def supK : Go.Camp.Sup := ⟨⟨4, 2, 0⟩, 10, 5, 5, 1, 1, 3, [⟨2, 8, 0, 4, 0⟩, ⟨0, 8, 3, 4, 0⟩, ⟨6, 8, 3, 3, 1⟩]⟩
set_option maxRecDepth 20000 in
theorem Campaign_any (w0 : World) : Ret Try.prog 68 [] w0 fun x w' => ∃ g, x = .agg (cpL ⟨camK, some ⟨g, 0, none⟩, 3⟩).toArray ∧ Chg No w0 w' ∧ CpM w' ⟨camK, some ⟨g, 0, none⟩, 3⟩ := by
 refine enter Try.func68 rfl Try.ntmps68 rfl ?_
 refine go TK_ok 200 rfl ?_
 refine nw rfl rfl (z := .agg #[I 0, I 0, I 0, .slice none 0 0]) (by kernel_rfl) (cs := [I 0, I 0, I 0, .slice none 0 0]) rfl ?_
 intro g0 w hg0 hs0 q B0
 refine go TK_ok 200 rfl ?_
 refine row TK_ok rfl rfl rfl rfl rfl rfl (cs := camK.sites.flatMap siL) rfl ?_
 intro g1 w hg1 hs1 qk B1 _
 have B0 := B0.no qk
 have q := q.trans qk
 refine go TK_ok 200 rfl ?_
 refine stA TK_ok rfl rfl rfl rfl (vs := cpL ⟨camK, some ⟨g1, 0, none⟩, 3⟩) rfl rfl rfl B0 rfl ?_
 intro w qk B0 hz
 have B1 := B1.keep qk (by omega)
 have B0 : Bk w g0 24 (cpL ⟨camK, some ⟨g1, 0, none⟩, 3⟩) := B0
 refine go TK_ok 200 rfl ?_
 exact ret (retR1 Try.results68 (resA TK_ok rfl rfl rfl B0.all) ⟨g1, rfl, q.step qk (fun k hk e => by omega), B1.sl (sz := 4) (m := 3) rfl⟩)
set_option maxRecDepth 20000 in
theorem Supply_any (w0 : World) : Ret Try.prog 69 [] w0 fun x w' => ∃ g, x = .agg (suL ⟨supK, some ⟨g, 0, none⟩, 3⟩).toArray ∧ Chg No w0 w' ∧ SuM w' ⟨supK, some ⟨g, 0, none⟩, 3⟩ := by
 refine enter Try.func69 rfl Try.ntmps69 rfl ?_
 refine go TK_ok 200 rfl ?_
 refine nw rfl rfl (z := .agg #[I 0, I 0, I 0, I 0, I 0, I 0, I 0, I 0, I 0, .slice none 0 0]) (by kernel_rfl) (cs := [I 0, I 0, I 0, I 0, I 0, I 0, I 0, I 0, I 0, .slice none 0 0]) rfl ?_
 intro g0 w hg0 hs0 q B0
 refine go TK_ok 200 rfl ?_
 refine row TK_ok rfl rfl rfl rfl rfl rfl (cs := supK.days.flatMap dyL) rfl ?_
 intro g1 w hg1 hs1 qk B1 _
 have B0 := B0.no qk
 have q := q.trans qk
 refine go TK_ok 200 rfl ?_
 refine stA TK_ok rfl rfl rfl rfl (vs := suL ⟨supK, some ⟨g1, 0, none⟩, 3⟩) rfl rfl rfl B0 rfl ?_
 intro w qk B0 hz
 have B1 := B1.keep qk (by omega)
 have B0 : Bk w g0 44 (suL ⟨supK, some ⟨g1, 0, none⟩, 3⟩) := B0
 refine go TK_ok 200 rfl ?_
 exact ret (retR1 Try.results69 (resA TK_ok rfl rfl rfl B0.all) ⟨g1, rfl, q.step qk (fun k hk e => by omega), ⟨B1.sl (sz := 5) (m := 3) rfl, by show 3 ≤ _; omega⟩⟩)
def touK (g1 g2 g3 g4 g5 : Nat) : Tm := ⟨⟨some ⟨g4, 0, none⟩, [⟨some ⟨g1, 0, none⟩, [0, 3, 3], 3⟩, ⟨some ⟨g2, 0, none⟩, [3, 0, 3], 3⟩, ⟨some ⟨g3, 0, none⟩, [3, 3, 0], 3⟩], 3⟩, ⟨some ⟨g5, 0, none⟩, [⟨0, 4, 2⟩, ⟨10, 20, 1⟩], 2⟩⟩
def trK : Go.Camp.Tr := ⟨[[0, 3, 3], [3, 0, 3], [3, 3, 0]], [⟨0, 4, 2⟩, ⟨10, 20, 1⟩]⟩
set_option maxRecDepth 20000 in
theorem Tour_any (w0 : World) : Ret Try.prog 70 [] w0 fun x w' => ∃ m : Tm, trP m = trK ∧ x = .agg (tmL m).toArray ∧ Chg No w0 w' ∧ TrM w' w'.heap.size m := by
 refine enter Try.func70 rfl Try.ntmps70 rfl ?_
 refine go TK_ok 200 rfl ?_
 refine nw rfl rfl (z := .agg #[.slice none 0 0, .slice none 0 0]) (by kernel_rfl) (cs := [.slice none 0 0, .slice none 0 0]) rfl ?_
 intro g0 w hg0 hs0 q B0
 refine go TK_ok 200 rfl ?_
 refine row TK_ok rfl rfl rfl rfl rfl rfl (cs := [I 0, I 3, I 3]) rfl ?_
 intro g1 w hg1 hs1 qk B1 _
 have B0 := B0.no qk
 have q := q.trans qk
 refine go TK_ok 200 rfl ?_
 refine row TK_ok rfl rfl rfl rfl rfl rfl (cs := [I 3, I 0, I 3]) rfl ?_
 intro g2 w hg2 hs2 qk B2 _
 have B0 := B0.no qk
 have B1 := B1.no qk
 have q := q.trans qk
 refine go TK_ok 200 rfl ?_
 refine row TK_ok rfl rfl rfl rfl rfl rfl (cs := [I 3, I 3, I 0]) rfl ?_
 intro g3 w hg3 hs3 qk B3 _
 have B0 := B0.no qk
 have B1 := B1.no qk
 have B2 := B2.no qk
 have q := q.trans qk
 refine go TK_ok 200 rfl ?_
 refine row TK_ok rfl rfl rfl rfl rfl rfl (cs := [.slice (some ⟨g1, 0, none⟩) 3 3, .slice (some ⟨g2, 0, none⟩) 3 3, .slice (some ⟨g3, 0, none⟩) 3 3]) rfl ?_
 intro g4 w hg4 hs4 qk B4 _
 have B0 := B0.no qk
 have B1 := B1.no qk
 have B2 := B2.no qk
 have B3 := B3.no qk
 have q := q.trans qk
 refine go TK_ok 200 rfl ?_
 refine row TK_ok rfl rfl rfl rfl rfl rfl (cs := [I 0, I 4, I 2, I 10, I 20, I 1]) rfl ?_
 intro g5 w hg5 hs5 qk B5 _
 have B0 := B0.no qk
 have B1 := B1.no qk
 have B2 := B2.no qk
 have B3 := B3.no qk
 have B4 := B4.no qk
 have q := q.trans qk
 refine go TK_ok 200 rfl ?_
 refine stA TK_ok rfl rfl rfl rfl (vs := tmL (touK g1 g2 g3 g4 g5)) rfl rfl rfl B0 rfl ?_
 intro w qk B0 hz
 have B1 := B1.keep qk (by omega)
 have B2 := B2.keep qk (by omega)
 have B3 := B3.keep qk (by omega)
 have B4 := B4.keep qk (by omega)
 have B5 := B5.keep qk (by omega)
 have B0 : Bk w g0 56 (tmL (touK g1 g2 g3 g4 g5)) := B0
 refine go TK_ok 200 rfl ?_
 refine ret (retR1 Try.results70 (resA TK_ok rfl rfl rfl B0.all) ⟨touK g1 g2 g3 g4 g5, rfl, rfl, q.step qk (fun k hk e => by omega), ⟨B4.sl (sz := 1) (m := 3) rfl, fun s hs => ?_, B5.sl (sz := 3) (m := 2) rfl, by show 3 ≤ _; omega, by show 2 ≤ _; omega⟩⟩)
 simp only [touK, List.mem_cons, List.not_mem_nil, or_false] at hs
 rcases hs with rfl | rfl | rfl
 ·exact ⟨B1.sl (sz := 1) (m := 3) rfl, by show 3 ≤ _; omega⟩
 ·exact ⟨B2.sl (sz := 1) (m := 3) rfl, by show 3 ≤ _; omega⟩
 ·exact ⟨B3.sl (sz := 1) (m := 3) rfl, by show 3 ≤ _; omega⟩
set_option maxRecDepth 20000 in
set_option maxHeartbeats 4000000 in
theorem SameCells_any (l m : List Bool) (A A2 : Option Addr) (c c2 B B2 : Nat) (w : World) (h : Sl w B 1 A l.length (bL l)) (h2 : Sl w B2 1 A2 m.length (bL m)) (hl : l.length ≤ 1000000) :
  Ret Try.prog 30 [.slice A l.length c, .slice A2 m.length c2] w fun v w' => v = .bool (l == m) ∧ Chg No w w' := by
 refine enter Try.func30 rfl Try.ntmps30 rfl ?_
 refine go TK_ok 200 rfl ?_
 refine cond rfl (fun hne => ?_) (fun hne => ?_)
 ·have hne : ¬ l.length = m.length := by
   have := bne_iff_ne.1 hne
   omega
  refine go TK_ok 200 rfl ?_
  refine ret (ret1 (v := .bool _) Try.results30 rfl ⟨?_, Chg.refl _ _⟩)
  have : (l == m) = false := beq_eq_false_iff_ne.2 (fun e => hne (by rw [e]))
  rw [this]
 ·have hlen : l.length = m.length := by
   have := bne_eq_false_iff_eq.1 hne
   omega
  refine go TK_ok 200 rfl ?_
  refine loop [0, 1, 5] (fun i : Nat => [.slice A l.length c, .slice A2 m.length c2, .int .i64 (i : Int)])
   (fun i w' => Chg No w w' ∧ i ≤ l.length ∧ (l == m) = (l.drop i == m.drop i)) (fun i => l.length - i) 0 (fun _ => rfl) rfl ⟨Chg.refl _ _, by omega, by simp⟩ ?_
  rintro i τ w1 ⟨q, hi, hd⟩
  refine go TK_ok 200 rfl ?_
  refine condD rfl (fun hlt => ?_) (fun hlt => ?_)
  ·have hlt : i < l.length := by omega
   obtain ⟨_, _, hA⟩ := h.no q
   obtain ⟨b, off, rfl, hb, hcells⟩ := hA (by omega)
   obtain ⟨_, _, hA2⟩ := h2.no q
   obtain ⟨b2, off2, rfl, hb2, hcells2⟩ := hA2 (by omega)
   have L1 := hcells i (.bool l[i]) (by simp [hlt, bL])
   have L2 := hcells2 i (.bool (m[i]'(by omega))) (by simp [hlen ▸ hlt, bL])
   have hd : (l == m) = (l[i] == (m[i]'(by omega)) && (l.drop (i + 1) == m.drop (i + 1))) := by
    rw [hd, List.drop_eq_getElem_cons hlt, List.drop_eq_getElem_cons (show i < m.length by omega)]
    rfl
   refine go TK_ok 200 rfl ?_
   refine draw mixed (fun w' => w' = w1.drew) ((List.range 9).map fun i => (i, true)) rfl (by kernel_rfl) rfl ?_
   refine goH TK_ok 200 rfl ?_
   refine quietH rfl (fun w' hS => r_idx TK_ok rfl rfl rfl rfl i rfl (by omega)) ?_
   refine goH TK_ok 200 rfl ?_
   rw [show off + i * 1 = off + i by omega]
   refine quietH rfl (fun w' hS => r_load TK_ok rfl rfl rfl (by rw [hS]; exact L1)) ?_
   refine goH TK_ok 200 rfl ?_
   refine quietH rfl (fun w' hS => r_idx TK_ok rfl rfl rfl rfl i rfl (by omega)) ?_
   refine goH TK_ok 200 rfl ?_
   rw [show off2 + i * 1 = off2 + i by omega]
   refine quietH rfl (fun w' hS => r_load TK_ok rfl rfl rfl (by rw [hS]; exact L2)) ?_
   refine goH TK_ok 200 rfl ?_
   refine quietH rfl (fun w' hS => r_neqB rfl Try.underlying4 rfl rfl) ?_
   refine goH TK_ok 200 rfl ?_
   refine endH ?_
   refine go TK_ok 200 rfl ?_
   have ei : w64 ((i : Int) + 1) = ((i + 1 : Nat) : Int) := w64_id (by omega) (by omega)
   refine cond rfl (fun he => ?_) (fun he => ?_)
   ·refine go TK_ok 200 rfl ?_
    refine ret (ret1 (v := .bool _) Try.results30 rfl ⟨?_, q.no (Chg.drew _)⟩)
    rw [hd, beq_eq_false_iff_ne.2 (bne_iff_ne.1 he), Bool.false_and]
   ·refine go TK_ok 200 rfl ?_
    rw [ei]
    refine round ⟨i + 1, rfl, ⟨q.no (Chg.drew _), by omega, ?_⟩, by omega⟩
    rw [hd, beq_iff_eq.2 (bne_eq_false_iff_eq.1 he), Bool.true_and]
  ·obtain rfl : i = l.length := by omega
   refine go TK_ok 200 rfl ?_
   refine ret (ret1 (v := .bool _) Try.results30 rfl ⟨?_, q⟩)
   rw [hd, List.drop_length, hlen, List.drop_length]
   rfl
set_option maxRecDepth 20000 in
set_option maxHeartbeats 8000000 in
theorem SameScanner_any (m1 m2 : Scm) (B B2 : Nat) (w0 : World) (H1 : ScM w0 B m1) (H2 : ScM w0 B2 m2) (hl : m1.N.l.length ≤ 1000000) (hl2 : m1.O.l.length ≤ 1000000) :
  Ret Try.prog 44 [.agg (scL m1).toArray, .agg (scL m2).toArray] w0 fun v w' => v = .bool (decide (scP m1 = scP m2)) ∧ Chg No w0 w' := by
 have hsp : scP m1 = scP m2 ↔ m1.N.l = m2.N.l ∧ m1.O.l = m2.O.l := by
  constructor
  ·intro h; unfold scP at h; injection h with h1 h2; exact ⟨h1, h2⟩
  ·intro h; unfold scP; rw [h.1, h.2]
 refine enter Try.func44 rfl Try.ntmps44 rfl ?_
 refine go TK_ok 200 rfl ?_
 refine bx rfl rfl rfl (cs := scL m1) rfl ?_
 intro g2 u2 hg2 hs2 q2 B2
 refine go TK_ok 200 rfl ?_
 refine bx rfl rfl rfl (cs := scL m2) rfl ?_
 intro g3 u3 hg3 hs3 q3 B3
 have B2' := B2
 have B2 := B2.no q3
 have q := q2.trans q3
 refine go TK_ok 200 rfl ?_
 repeat ((first | refine ldA TK_ok rfl rfl rfl rfl rfl (Bk.all B2) ?_ | refine ldA TK_ok rfl rfl rfl rfl rfl (Bk.all B3) ?_ | refine ld TK_ok rfl rfl rfl rfl (Bk.get B2 rfl) ?_ | refine ld TK_ok rfl rfl rfl rfl (Bk.get B3 rfl) ?_ | refine gT rfl rfl rfl rfl ?_ | refine gF rfl rfl rfl rfl ?_ | refine condT rfl rfl ?_ | refine condF rfl rfl ?_); refine go TK_ok 200 rfl ?_)
 by_cases hN : m1.N.l.length = m2.N.l.length
 case neg =>
  have e : ((m1.N.l.length : Int) != (m2.N.l.length : Int)) = true := bne_iff_ne.2 (by omega)
  rw [e]
  refine go TK_ok 200 rfl ?_
  repeat ((first | refine ldA TK_ok rfl rfl rfl rfl rfl (Bk.all B2) ?_ | refine ldA TK_ok rfl rfl rfl rfl rfl (Bk.all B3) ?_ | refine ld TK_ok rfl rfl rfl rfl (Bk.get B2 rfl) ?_ | refine ld TK_ok rfl rfl rfl rfl (Bk.get B3 rfl) ?_ | refine gT rfl rfl rfl rfl ?_ | refine gF rfl rfl rfl rfl ?_ | refine condT rfl rfl ?_ | refine condF rfl rfl ?_); refine go TK_ok 200 rfl ?_)
  refine ret (ret1 (v := .bool false) Try.results44 rfl ⟨?_, q⟩)
  rw [decide_eq_false]
  rw [hsp]
  exact fun h => hN (by rw [h.1])
 have e : ((m1.N.l.length : Int) != (m2.N.l.length : Int)) = false := bne_eq_false_iff_eq.2 (by omega)
 rw [e]
 refine go TK_ok 200 rfl ?_
 repeat ((first | refine ldA TK_ok rfl rfl rfl rfl rfl (Bk.all B2) ?_ | refine ldA TK_ok rfl rfl rfl rfl rfl (Bk.all B3) ?_ | refine ld TK_ok rfl rfl rfl rfl (Bk.get B2 rfl) ?_ | refine ld TK_ok rfl rfl rfl rfl (Bk.get B3 rfl) ?_ | refine gT rfl rfl rfl rfl ?_ | refine gF rfl rfl rfl rfl ?_ | refine condT rfl rfl ?_ | refine condF rfl rfl ?_); refine go TK_ok 200 rfl ?_)
 by_cases hO : m1.O.l.length = m2.O.l.length
 case neg =>
  have e : ((m1.O.l.length : Int) != (m2.O.l.length : Int)) = true := bne_iff_ne.2 (by omega)
  rw [e]
  refine go TK_ok 200 rfl ?_
  repeat ((first | refine ldA TK_ok rfl rfl rfl rfl rfl (Bk.all B2) ?_ | refine ldA TK_ok rfl rfl rfl rfl rfl (Bk.all B3) ?_ | refine ld TK_ok rfl rfl rfl rfl (Bk.get B2 rfl) ?_ | refine ld TK_ok rfl rfl rfl rfl (Bk.get B3 rfl) ?_ | refine gT rfl rfl rfl rfl ?_ | refine gF rfl rfl rfl rfl ?_ | refine condT rfl rfl ?_ | refine condF rfl rfl ?_); refine go TK_ok 200 rfl ?_)
  refine ret (ret1 (v := .bool false) Try.results44 rfl ⟨?_, q⟩)
  rw [decide_eq_false]
  rw [hsp]
  exact fun h => hO (by rw [h.2])
 have e : ((m1.O.l.length : Int) != (m2.O.l.length : Int)) = false := bne_eq_false_iff_eq.2 (by omega)
 rw [e]
 refine go TK_ok 200 rfl ?_
 repeat ((first | refine ldA TK_ok rfl rfl rfl rfl rfl (Bk.all B2) ?_ | refine ldA TK_ok rfl rfl rfl rfl rfl (Bk.all B3) ?_ | refine ld TK_ok rfl rfl rfl rfl (Bk.get B2 rfl) ?_ | refine ld TK_ok rfl rfl rfl rfl (Bk.get B3 rfl) ?_ | refine gT rfl rfl rfl rfl ?_ | refine gF rfl rfl rfl rfl ?_ | refine condT rfl rfl ?_ | refine condF rfl rfl ?_); refine go TK_ok 200 rfl ?_)
 refine loop [2, 3, 5] (fun j : Nat => [.pointer (some ⟨g2, 0, none⟩), .pointer (some ⟨g3, 0, none⟩), .int .i64 (j : Int)])
  (fun j w' => j ≤ m1.N.l.length ∧ Chg No w0 w' ∧ Bk w' g2 77 (scL m1) ∧ Bk w' g3 77 (scL m2) ∧ ∀ i, i < j → m1.N.l[i]? = m2.N.l[i]?) (fun j => m1.N.l.length - j) 0 (fun _ => rfl) rfl ⟨Nat.zero_le _, q, B2, B3, fun i h => absurd h (Nat.not_lt_zero _)⟩ ?_
 rintro j τ w ⟨hj, q, B2, B3, hm⟩
 refine go TK_ok 200 rfl ?_
 repeat ((first | refine ldA TK_ok rfl rfl rfl rfl rfl (Bk.all B2) ?_ | refine ldA TK_ok rfl rfl rfl rfl rfl (Bk.all B3) ?_ | refine ld TK_ok rfl rfl rfl rfl (Bk.get B2 rfl) ?_ | refine ld TK_ok rfl rfl rfl rfl (Bk.get B3 rfl) ?_ | refine gT rfl rfl rfl rfl ?_ | refine gF rfl rfl rfl rfl ?_ | refine condT rfl rfl ?_ | refine condF rfl rfl ?_); refine go TK_ok 200 rfl ?_)
 refine condD rfl (fun hlt => ?_) (fun hlt => ?_)
 case refine_1 =>
  have hlt : j < m1.N.l.length := by omega
  obtain ⟨⟨a0, a1⟩, ha⟩ := getA_of hlt
  obtain ⟨⟨c0, c1⟩, hc⟩ := getA_of (l := m2.N.l) (i := j) (by omega)
  have HH1 := H1.no q
  have HH2 := H2.no q
  obtain ⟨b1, o1, hA1, hb1, hc1⟩ := Sl.el HH1.n nV_len ha
  obtain ⟨b2, o2, hA2, hb2, hc2⟩ := Sl.el HH2.n nV_len hc
  have hBB := HH1.n.2.1
  have hBB2 := HH2.n.2.1
  refine go TK_ok 200 rfl ?_
  refine draw mixed (fun w' => Chg No w w') ([0,1,2,3,4,5,6,7,8,9,10].map (fun i => (i, true))) rfl (by kernel_rfl) (Chg.drew _) ?_
  refine goH TK_ok 200 rfl ?_
  repeat (first | (refine quietH rfl (fun w' hS => r_load TK_ok rfl rfl rfl (Bk.get (B2.no hS) rfl)) ?_; refine goH TK_ok 200 rfl ?_) | (refine quietH rfl (fun w' hS => r_load TK_ok rfl rfl rfl (Bk.get (B3.no hS) rfl)) ?_; refine goH TK_ok 200 rfl ?_))
  rw [hA1]
  refine quietH rfl (fun w' hS => r_idx TK_ok rfl rfl rfl rfl j rfl hlt) ?_
  refine goH TK_ok 200 rfl ?_
  refine quietH rfl (fun w' hS => r_loadArr TK_ok rfl rfl rfl (cs := nV (a0, a1)) rfl (hc1.keep (by omega) hS (fun h => h))) ?_
  rw [← hA1]
  refine goH TK_ok 200 rfl ?_
  repeat (first | (refine quietH rfl (fun w' hS => r_load TK_ok rfl rfl rfl (Bk.get (B2.no hS) rfl)) ?_; refine goH TK_ok 200 rfl ?_) | (refine quietH rfl (fun w' hS => r_load TK_ok rfl rfl rfl (Bk.get (B3.no hS) rfl)) ?_; refine goH TK_ok 200 rfl ?_))
  rw [hA2]
  refine quietH rfl (fun w' hS => r_idx TK_ok rfl rfl rfl rfl j rfl (by omega)) ?_
  refine goH TK_ok 200 rfl ?_
  refine quietH rfl (fun w' hS => r_loadArr TK_ok rfl rfl rfl (cs := nV (c0, c1)) rfl (hc2.keep (by omega) hS (fun h => h))) ?_
  rw [← hA2]
  refine goH TK_ok 200 rfl ?_
  refine quietH rfl (fun w' hS => r_neqArr w' (c := !decide ((a0, a1) = (c0, c1))) rfl Try.underlying124 (by kernel_rfl) Try.underlying3 (by kernel_rfl) (by kernel_rfl) rfl rfl (run_equalIn_int w' 9998 3 .i64 .i64 a0 c0 Try.underlying3) (run_equalIn_int w' 9998 3 .i64 .i64 a1 c1 Try.underlying3) (by
   congr 1
   rw [Bool.eq_iff_iff]
   simp)) ?_
  refine goH TK_ok 200 rfl ?_
  refine endH ?_
  have B2 := B2.no (Chg.drew w)
  have B3 := B3.no (Chg.drew w)
  have q := q.trans (Chg.drew w)
  generalize w.drew = w2 at *
  by_cases hac : (a0, a1) = (c0, c1)
  case neg =>
   rw [decide_eq_false hac]
   refine go TK_ok 200 rfl ?_
   repeat ((first | refine ldA TK_ok rfl rfl rfl rfl rfl (Bk.all B2) ?_ | refine ldA TK_ok rfl rfl rfl rfl rfl (Bk.all B3) ?_ | refine ld TK_ok rfl rfl rfl rfl (Bk.get B2 rfl) ?_ | refine ld TK_ok rfl rfl rfl rfl (Bk.get B3 rfl) ?_ | refine gT rfl rfl rfl rfl ?_ | refine gF rfl rfl rfl rfl ?_ | refine condT rfl rfl ?_ | refine condF rfl rfl ?_); refine go TK_ok 200 rfl ?_)
   refine ret (ret1 (v := .bool false) Try.results44 rfl ⟨?_, q⟩)
   rw [decide_eq_false]
   rw [hsp]
   exact fun h => hac (by have := h.1; rw [this, hc] at ha; injection ha with ha; exact ha.symm)
  rw [decide_eq_true hac]
  refine go TK_ok 200 rfl ?_
  repeat ((first | refine ldA TK_ok rfl rfl rfl rfl rfl (Bk.all B2) ?_ | refine ldA TK_ok rfl rfl rfl rfl rfl (Bk.all B3) ?_ | refine ld TK_ok rfl rfl rfl rfl (Bk.get B2 rfl) ?_ | refine ld TK_ok rfl rfl rfl rfl (Bk.get B3 rfl) ?_ | refine gT rfl rfl rfl rfl ?_ | refine gF rfl rfl rfl rfl ?_ | refine condT rfl rfl ?_ | refine condF rfl rfl ?_); refine go TK_ok 200 rfl ?_)
  rw [w64_id (x := (j : Int) + 1) (by omega) (by omega)]
  refine round ⟨j + 1, rfl, ⟨by omega, q, B2, B3, fun i hi => ?_⟩, by omega⟩
  rcases Nat.lt_or_ge i j with h' | h'
  ·exact hm i h'
  ·obtain rfl : i = j := by omega
   rw [ha, hc, hac]
 obtain rfl : j = m1.N.l.length := by omega
 have hN : m1.N.l = m2.N.l := List.ext_getElem? fun i => by
  rcases Nat.lt_or_ge i m1.N.l.length with h' | h'
  ·exact hm i h'
  ·rw [List.getElem?_eq_none h', List.getElem?_eq_none (by omega)]
 refine go TK_ok 200 rfl ?_
 refine loop [2, 3, 6] (fun j : Nat => [.pointer (some ⟨g2, 0, none⟩), .pointer (some ⟨g3, 0, none⟩), .int .i64 (j : Int)])
  (fun j w' => j ≤ m1.O.l.length ∧ Chg No w0 w' ∧ Bk w' g2 77 (scL m1) ∧ Bk w' g3 77 (scL m2) ∧ ∀ i, i < j → m1.O.l[i]? = m2.O.l[i]?) (fun j => m1.O.l.length - j) 0 (fun _ => rfl) rfl ⟨Nat.zero_le _, q, B2, B3, fun i h => absurd h (Nat.not_lt_zero _)⟩ ?_
 rintro j τ w ⟨hj, q, B2, B3, hm⟩
 refine go TK_ok 200 rfl ?_
 repeat ((first | refine ldA TK_ok rfl rfl rfl rfl rfl (Bk.all B2) ?_ | refine ldA TK_ok rfl rfl rfl rfl rfl (Bk.all B3) ?_ | refine ld TK_ok rfl rfl rfl rfl (Bk.get B2 rfl) ?_ | refine ld TK_ok rfl rfl rfl rfl (Bk.get B3 rfl) ?_ | refine gT rfl rfl rfl rfl ?_ | refine gF rfl rfl rfl rfl ?_ | refine condT rfl rfl ?_ | refine condF rfl rfl ?_); refine go TK_ok 200 rfl ?_)
 refine condD rfl (fun hlt => ?_) (fun hlt => ?_)
 case refine_1 =>
  have hlt : j < m1.O.l.length := by omega
  obtain ⟨⟨a0, a1⟩, ha⟩ := getA_of hlt
  obtain ⟨⟨c0, c1⟩, hc⟩ := getA_of (l := m2.O.l) (i := j) (by omega)
  have HH1 := H1.no q
  have HH2 := H2.no q
  obtain ⟨b1, o1, hA1, hb1, hc1⟩ := Sl.el HH1.o bV_len ha
  obtain ⟨b2, o2, hA2, hb2, hc2⟩ := Sl.el HH2.o bV_len hc
  have hBB := HH1.n.2.1
  have hBB2 := HH2.n.2.1
  refine go TK_ok 200 rfl ?_
  refine draw mixed (fun w' => Chg No w w') ([0,1,2,3,4,5,6,7,8,9,10].map (fun i => (i, true))) rfl (by kernel_rfl) (Chg.drew _) ?_
  refine goH TK_ok 200 rfl ?_
  repeat (first | (refine quietH rfl (fun w' hS => r_load TK_ok rfl rfl rfl (Bk.get (B2.no hS) rfl)) ?_; refine goH TK_ok 200 rfl ?_) | (refine quietH rfl (fun w' hS => r_load TK_ok rfl rfl rfl (Bk.get (B3.no hS) rfl)) ?_; refine goH TK_ok 200 rfl ?_))
  rw [hA1]
  refine quietH rfl (fun w' hS => r_idx TK_ok rfl rfl rfl rfl j rfl hlt) ?_
  refine goH TK_ok 200 rfl ?_
  refine quietH rfl (fun w' hS => r_loadArr TK_ok rfl rfl rfl (cs := bV (a0, a1)) rfl (hc1.keep (by omega) hS (fun h => h))) ?_
  rw [← hA1]
  refine goH TK_ok 200 rfl ?_
  repeat (first | (refine quietH rfl (fun w' hS => r_load TK_ok rfl rfl rfl (Bk.get (B2.no hS) rfl)) ?_; refine goH TK_ok 200 rfl ?_) | (refine quietH rfl (fun w' hS => r_load TK_ok rfl rfl rfl (Bk.get (B3.no hS) rfl)) ?_; refine goH TK_ok 200 rfl ?_))
  rw [hA2]
  refine quietH rfl (fun w' hS => r_idx TK_ok rfl rfl rfl rfl j rfl (by omega)) ?_
  refine goH TK_ok 200 rfl ?_
  refine quietH rfl (fun w' hS => r_loadArr TK_ok rfl rfl rfl (cs := bV (c0, c1)) rfl (hc2.keep (by omega) hS (fun h => h))) ?_
  rw [← hA2]
  refine goH TK_ok 200 rfl ?_
  refine quietH rfl (fun w' hS => r_neqArr w' (c := !decide ((a0, a1) = (c0, c1))) rfl Try.underlying125 (by kernel_rfl) Try.underlying4 (by kernel_rfl) (by kernel_rfl) rfl rfl (run_equalIn_bool' w' 9998 4   a0 c0 Try.underlying4) (run_equalIn_bool' w' 9998 4   a1 c1 Try.underlying4) (by
   congr 1
   rw [Bool.eq_iff_iff]
   simp)) ?_
  refine goH TK_ok 200 rfl ?_
  refine endH ?_
  have B2 := B2.no (Chg.drew w)
  have B3 := B3.no (Chg.drew w)
  have q := q.trans (Chg.drew w)
  generalize w.drew = w2 at *
  by_cases hac : (a0, a1) = (c0, c1)
  case neg =>
   rw [decide_eq_false hac]
   refine go TK_ok 200 rfl ?_
   repeat ((first | refine ldA TK_ok rfl rfl rfl rfl rfl (Bk.all B2) ?_ | refine ldA TK_ok rfl rfl rfl rfl rfl (Bk.all B3) ?_ | refine ld TK_ok rfl rfl rfl rfl (Bk.get B2 rfl) ?_ | refine ld TK_ok rfl rfl rfl rfl (Bk.get B3 rfl) ?_ | refine gT rfl rfl rfl rfl ?_ | refine gF rfl rfl rfl rfl ?_ | refine condT rfl rfl ?_ | refine condF rfl rfl ?_); refine go TK_ok 200 rfl ?_)
   refine ret (ret1 (v := .bool false) Try.results44 rfl ⟨?_, q⟩)
   rw [decide_eq_false]
   rw [hsp]
   exact fun h => hac (by have := h.2; rw [this, hc] at ha; injection ha with ha; exact ha.symm)
  rw [decide_eq_true hac]
  refine go TK_ok 200 rfl ?_
  repeat ((first | refine ldA TK_ok rfl rfl rfl rfl rfl (Bk.all B2) ?_ | refine ldA TK_ok rfl rfl rfl rfl rfl (Bk.all B3) ?_ | refine ld TK_ok rfl rfl rfl rfl (Bk.get B2 rfl) ?_ | refine ld TK_ok rfl rfl rfl rfl (Bk.get B3 rfl) ?_ | refine gT rfl rfl rfl rfl ?_ | refine gF rfl rfl rfl rfl ?_ | refine condT rfl rfl ?_ | refine condF rfl rfl ?_); refine go TK_ok 200 rfl ?_)
  rw [w64_id (x := (j : Int) + 1) (by omega) (by omega)]
  refine round ⟨j + 1, rfl, ⟨by omega, q, B2, B3, fun i hi => ?_⟩, by omega⟩
  rcases Nat.lt_or_ge i j with h' | h'
  ·exact hm i h'
  ·obtain rfl : i = j := by omega
   rw [ha, hc, hac]
 obtain rfl : j = m1.O.l.length := by omega
 have hO : m1.O.l = m2.O.l := List.ext_getElem? fun i => by
  rcases Nat.lt_or_ge i m1.O.l.length with h' | h'
  ·exact hm i h'
  ·rw [List.getElem?_eq_none h', List.getElem?_eq_none (by omega)]
 refine go TK_ok 200 rfl ?_
 refine ret (ret1 (v := .bool true) Try.results44 rfl ⟨?_, q⟩)
 rw [decide_eq_true]
 rw [hsp]
 exact ⟨hN, hO⟩
end Go.Proofs.Yteenhfnamjbaiaa
