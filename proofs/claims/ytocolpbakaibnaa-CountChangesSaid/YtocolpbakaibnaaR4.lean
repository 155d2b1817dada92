/- The contracts of Same and SameSpans. -/
import Derived.Test.YtocolpbakaibnaaR3
import Derived.Laws.StructEq
namespace Go.Proofs.Ytocolpbakaibnaa
open Go.Ev Go.Proofs Go.Cnt

theorem eqF (d : Nat) (xs ys : Array Value) (w : World) (f : Field) (fs : List Field) (hn : (f.name != "_") = true) (k : IntKind) (a b : Int) (hx : (part f.type xs f.offset).run Try.prog w = .ok (.int k a) w) (hy : (part f.type ys f.offset).run Try.prog w = .ok (.int k b) w)
    (hu : ∃ k', Try.prog.underlying f.type = some (.int k')) : (Op.eqFields (d + 1) xs ys (f :: fs)).run Try.prog w = if a = b then (Op.eqFields (d + 1) xs ys fs).run Try.prog w else .ok false w := by
  obtain ⟨k', hu⟩ := hu
  have hn : f.name ≠ "_" := by simpa using hn
  simp only [Op.eqFields, hn, ne_eq, not_false_eq_true, if_true, Sem.run_bind, hx, hy, Result.andThen_ok, run_equalIn_int w d f.type k k' a b hu]
  by_cases h : a = b <;> simp [h]
theorem part3 (xs : Array Value) (off : Nat) (v : Value) (h : xs[off]? = some v) (w : World) : (part 3 xs off).run Try.prog w = .ok v w := by
  have hu : Try.prog.underlying 3 = some (.int .i64) := by kernel_rfl
  have ha : aggB Try.prog 3 = false := by kernel_rfl
  simp [part, run_isAgg _ _ hu, ha, h]
def twoInts (P : Program) (t : TypeId) : Bool := match (P.fieldsOf t).toList with
  | [f, g] => Nat.beq f.type 3 && (Nat.beq f.offset 0 && ((f.name != "_") && (Nat.beq g.type 3 && (Nat.beq g.offset 1 && (g.name != "_")))))
  | _ => false
theorem eq65 (a b c d : Int) (w : World) : (Op.equalIn 10000 65 (.agg #[.int .i64 a, .int .i64 b]) (.agg #[.int .i64 c, .int .i64 d])).run Try.prog w = .ok (a == c && b == d) w := by
  have hS : Try.prog.underlying 65 = some (.struct (Try.prog.fieldsOf 65)) := by kernel_rfl
  have hp : Try.prog.stoodInHeld 65 = false := by kernel_rfl
  have ht : twoInts Try.prog 65 = true := by kernel_rfl
  have hu : Try.prog.underlying 3 = some (.int .i64) := by kernel_rfl
  rw [show (10000 : Nat) = 9998 + 1 + 1 from rfl, run_equalIn_agg w (9998 + 1) 65 _ _ hS hp]
  unfold twoInts at ht
  split at ht
  · rename_i f g hfg
    simp only [Bool.and_eq_true] at ht
    obtain ⟨h1, h2, h3, h4, h5, h6⟩ := ht
    have h1 := Nat.eq_of_beq_eq_true h1
    have h2 := Nat.eq_of_beq_eq_true h2
    have h4 := Nat.eq_of_beq_eq_true h4
    have h5 := Nat.eq_of_beq_eq_true h5
    rw [hfg, eqF _ _ _ w f [g] h3 .i64 a c (by rw [h1, h2]; exact part3 _ _ _ rfl w) (by rw [h1, h2]; exact part3 _ _ _ rfl w) ⟨_, h1 ▸ hu⟩,
      eqF _ _ _ w g [] h6 .i64 b d (by rw [h4, h5]; exact part3 _ _ _ rfl w) (by rw [h4, h5]; exact part3 _ _ _ rfl w) ⟨_, h4 ▸ hu⟩]
    simp only [Op.eqFields, Sem.run_pure]
    by_cases e1 : a = c <;> by_cases e2 : b = d <;> simp [e1, e2]
  · cases ht
theorem r_neq65 {n : Nat} {ρ : Env} {w : World} {o : Oper} {x y : Operand} {a b c d : Int} (ho : o.op = .binOp .neq 65 x y 65) (hx : ev n ρ x = .agg #[.int .i64 a, .int .i64 b]) (hy : ev n ρ y = .agg #[.int .i64 c, .int .i64 d]) :
    (execOp (ev n ρ) o).run Try.prog w = .ok (.value (.bool (!(a == c && b == d)))) w := by
  have hg : Try.prog.eqGuardType Try.prog.depth 65 = false := by kernel_rfl
  simp only [execOp, ho, hx, hy, Sem.run_bind, run_eqGuard_agg w .neq 65 x y _ _ hg, Result.andThen_ok, run_neq_struct, eq65, Sem.run_pure]
attribute [local irreducible] At AtH
theorem Same_any (l m : List Int) (A A2 : Option Addr) (c c2 B B2 : Nat) (w : World) (h : Sl w B 1 A l.length (l.map (.int .i64))) (h2 : Sl w B2 1 A2 m.length (m.map (.int .i64))) (hl : l.length ≤ 1000000) :
    Ret Try.prog 34 [.slice A l.length c, .slice A2 m.length c2] w fun v w' => v = .bool (l == m) ∧ Chg No w w' := by
  refine enter Try.func34 rfl Try.ntmps34 rfl ?_
  refine go T_ok 100 rfl ?_
  refine cond rfl (fun hne => ?_) (fun hne => ?_)
  · have hne : ¬ l.length = m.length := by
      have := bne_iff_ne.1 hne
      omega
    refine go T_ok 100 rfl ?_
    refine ret (ret1 (v := .bool _) Try.results34 rfl ⟨?_, Chg.refl _ _⟩)
    have : (l == m) = false := beq_eq_false_iff_ne.2 (fun e => hne (by rw [e]))
    rw [this]
  · have hlen : l.length = m.length := by
      have := bne_eq_false_iff_eq.1 hne
      omega
    refine go T_ok 100 rfl ?_
    refine loop [0, 1, 5] (fun i : Nat => [.slice A l.length c, .slice A2 m.length c2, .int .i64 (i : Int)])
      (fun i w' => Chg No w w' ∧ i ≤ l.length ∧ (l == m) = (l.drop i == m.drop i)) (fun i => l.length - i) 0 (fun _ => rfl) rfl ⟨Chg.refl _ _, by omega, by simp⟩ ?_
    rintro i τ w1 ⟨q, hi, hd⟩
    refine go T_ok 100 rfl ?_
    refine condD rfl (fun hlt => ?_) (fun hlt => ?_)
    · have hlt : i < l.length := by omega
      obtain ⟨_, _, hA⟩ := h.no q
      obtain ⟨b, off, rfl, hb, hcells⟩ := hA (by omega)
      obtain ⟨_, _, hA2⟩ := h2.no q
      obtain ⟨b2, off2, rfl, hb2, hcells2⟩ := hA2 (by omega)
      have L1 := hcells i (.int .i64 l[i]) (by simp [hlt])
      have L2 := hcells2 i (.int .i64 (m[i]'(by omega))) (by simp [hlen ▸ hlt])
      have hd : (l == m) = (l[i] == (m[i]'(by omega)) && (l.drop (i + 1) == m.drop (i + 1))) := by
        rw [hd, List.drop_eq_getElem_cons hlt, List.drop_eq_getElem_cons (show i < m.length by omega)]
        rfl
      refine go T_ok 100 rfl ?_
      refine draw mixed (fun w' => w' = w1.drew) ((List.range 9).map fun i => (i, true)) rfl (by kernel_rfl) rfl ?_
      refine goH T_ok 100 rfl ?_
      refine quietH rfl (fun w' hS => r_idx T_ok rfl rfl rfl rfl i rfl (by omega)) ?_
      refine goH T_ok 100 rfl ?_
      rw [show off + i * 1 = off + i by omega]
      refine quietH rfl (fun w' hS => r_load T_ok rfl rfl rfl (by rw [hS]; exact L1)) ?_
      refine goH T_ok 100 rfl ?_
      refine quietH rfl (fun w' hS => r_idx T_ok rfl rfl rfl rfl i rfl (by omega)) ?_
      refine goH T_ok 100 rfl ?_
      rw [show off2 + i * 1 = off2 + i by omega]
      refine quietH rfl (fun w' hS => r_load T_ok rfl rfl rfl (by rw [hS]; exact L2)) ?_
      refine goH T_ok 100 rfl ?_
      refine endH ?_
      refine go T_ok 100 rfl ?_
      have ei : w64 ((i : Int) + 1) = ((i + 1 : Nat) : Int) := w64_id (by omega) (by omega)
      refine cond rfl (fun he => ?_) (fun he => ?_)
      · refine go T_ok 100 rfl ?_
        refine ret (ret1 (v := .bool _) Try.results34 rfl ⟨?_, q.no (Chg.drew _)⟩)
        rw [hd, beq_eq_false_iff_ne.2 (bne_iff_ne.1 he), Bool.false_and]
      · refine go T_ok 100 rfl ?_
        rw [ei]
        refine round ⟨i + 1, rfl, ⟨q.no (Chg.drew _), by omega, ?_⟩, by omega⟩
        rw [hd, beq_iff_eq.2 (bne_eq_false_iff_eq.1 he), Bool.true_and]
    · refine go T_ok 100 rfl ?_
      refine ret (ret1 (v := .bool _) Try.results34 rfl ⟨?_, q⟩)
      rw [hd, List.drop_eq_nil_of_le (by omega), List.drop_eq_nil_of_le (by omega)]
      rfl
end Go.Proofs.Ytocolpbakaibnaa
