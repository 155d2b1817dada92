/- The contract of states (the law's own); scanners that are kept. -/
import Derived.Test.YteenhfnamjbaiaaW2
namespace Go.Proofs.Yteenhfnamjbaiaa
open Go.Ev Go.Proofs
open Go.Camp (Sc ScOk Sc8 smallP small_ok)
attribute [local irreducible] At AtH
set_option maxRecDepth 20000 in
set_option maxHeartbeats 8000000 in
theorem states_any (m : Scm) (k : Int) (B : Nat) (w0 : World) (H : ScM w0 B m) : Ret Try.prog 40 [.agg (scL m).toArray, I k] w0 fun v w' => (∃ b, v = .bool b ∧ (b = true → ((m.N.l.length : Int) ≤ k ∨ 128 < m.N.l.length ∧ m.N.l.length ≤ 133) ∧ m.O.l.length ≤ 133)) ∧ Chg No w0 w' := by
 have ln := H.ln
 have lo := H.lo
 refine enter Try.func40 rfl Try.ntmps40 rfl ?_
 refine go TD_ok 200 rfl ?_
 refine bx rfl rfl rfl (cs := scL m) rfl ?_
 intro g2 u2 hg2 hs2 q2 B2
 have q := q2
 refine go TD_ok 200 rfl ?_
 repeat ((first | refine ldA TD_ok rfl rfl rfl rfl rfl (Bk.all B2) ?_ | refine ld TD_ok rfl rfl rfl rfl (Bk.get B2 rfl) ?_ | refine gT rfl rfl rfl rfl ?_ | refine gF rfl rfl rfl rfl ?_ | refine condT rfl rfl ?_ | refine condF rfl rfl ?_); refine go TD_ok 200 rfl ?_)
 by_cases h1 : (m.N.l.length : Int) ≤ k
 ·rw [decide_eq_true h1]
  refine go TD_ok 200 rfl ?_
  repeat ((first | refine ldA TD_ok rfl rfl rfl rfl rfl (Bk.all B2) ?_ | refine ld TD_ok rfl rfl rfl rfl (Bk.get B2 rfl) ?_ | refine gT rfl rfl rfl rfl ?_ | refine gF rfl rfl rfl rfl ?_ | refine condT rfl rfl ?_ | refine condF rfl rfl ?_); refine go TD_ok 200 rfl ?_)
  by_cases h4 : (m.O.l.length : Int) ≤ 133
  ·rw [decide_eq_true h4]
   refine go TD_ok 200 rfl ?_
   repeat ((first | refine ldA TD_ok rfl rfl rfl rfl rfl (Bk.all B2) ?_ | refine ld TD_ok rfl rfl rfl rfl (Bk.get B2 rfl) ?_ | refine gT rfl rfl rfl rfl ?_ | refine gF rfl rfl rfl rfl ?_ | refine condT rfl rfl ?_ | refine condF rfl rfl ?_); refine go TD_ok 200 rfl ?_)
   exact ret (ret1 (v := .bool true) Try.results40 rfl ⟨⟨true, rfl, fun _ => ⟨by omega, by omega⟩⟩, q⟩)
  ·rw [decide_eq_false h4]
   refine go TD_ok 200 rfl ?_
   repeat ((first | refine ldA TD_ok rfl rfl rfl rfl rfl (Bk.all B2) ?_ | refine ld TD_ok rfl rfl rfl rfl (Bk.get B2 rfl) ?_ | refine gT rfl rfl rfl rfl ?_ | refine gF rfl rfl rfl rfl ?_ | refine condT rfl rfl ?_ | refine condF rfl rfl ?_); refine go TD_ok 200 rfl ?_)
   exact ret (ret1 (v := .bool false) Try.results40 rfl ⟨⟨false, rfl, fun e => by cases e⟩, q⟩)
 rw [decide_eq_false h1]
 refine go TD_ok 200 rfl ?_
 repeat ((first | refine ldA TD_ok rfl rfl rfl rfl rfl (Bk.all B2) ?_ | refine ld TD_ok rfl rfl rfl rfl (Bk.get B2 rfl) ?_ | refine gT rfl rfl rfl rfl ?_ | refine gF rfl rfl rfl rfl ?_ | refine condT rfl rfl ?_ | refine condF rfl rfl ?_); refine go TD_ok 200 rfl ?_)
 by_cases h2 : 128 < (m.N.l.length : Int)
 ·rw [decide_eq_true h2]
  refine go TD_ok 200 rfl ?_
  repeat ((first | refine ldA TD_ok rfl rfl rfl rfl rfl (Bk.all B2) ?_ | refine ld TD_ok rfl rfl rfl rfl (Bk.get B2 rfl) ?_ | refine gT rfl rfl rfl rfl ?_ | refine gF rfl rfl rfl rfl ?_ | refine condT rfl rfl ?_ | refine condF rfl rfl ?_); refine go TD_ok 200 rfl ?_)
  by_cases h3 : (m.N.l.length : Int) ≤ 133
  ·rw [decide_eq_true h3]
   refine go TD_ok 200 rfl ?_
   repeat ((first | refine ldA TD_ok rfl rfl rfl rfl rfl (Bk.all B2) ?_ | refine ld TD_ok rfl rfl rfl rfl (Bk.get B2 rfl) ?_ | refine gT rfl rfl rfl rfl ?_ | refine gF rfl rfl rfl rfl ?_ | refine condT rfl rfl ?_ | refine condF rfl rfl ?_); refine go TD_ok 200 rfl ?_)
   by_cases h4 : (m.O.l.length : Int) ≤ 133
   ·rw [decide_eq_true h4]
    refine go TD_ok 200 rfl ?_
    repeat ((first | refine ldA TD_ok rfl rfl rfl rfl rfl (Bk.all B2) ?_ | refine ld TD_ok rfl rfl rfl rfl (Bk.get B2 rfl) ?_ | refine gT rfl rfl rfl rfl ?_ | refine gF rfl rfl rfl rfl ?_ | refine condT rfl rfl ?_ | refine condF rfl rfl ?_); refine go TD_ok 200 rfl ?_)
    exact ret (ret1 (v := .bool true) Try.results40 rfl ⟨⟨true, rfl, fun _ => ⟨by omega, by omega⟩⟩, q⟩)
   ·rw [decide_eq_false h4]
    refine go TD_ok 200 rfl ?_
    repeat ((first | refine ldA TD_ok rfl rfl rfl rfl rfl (Bk.all B2) ?_ | refine ld TD_ok rfl rfl rfl rfl (Bk.get B2 rfl) ?_ | refine gT rfl rfl rfl rfl ?_ | refine gF rfl rfl rfl rfl ?_ | refine condT rfl rfl ?_ | refine condF rfl rfl ?_); refine go TD_ok 200 rfl ?_)
    exact ret (ret1 (v := .bool false) Try.results40 rfl ⟨⟨false, rfl, fun e => by cases e⟩, q⟩)
  ·rw [decide_eq_false h3]
   refine go TD_ok 200 rfl ?_
   repeat ((first | refine ldA TD_ok rfl rfl rfl rfl rfl (Bk.all B2) ?_ | refine ld TD_ok rfl rfl rfl rfl (Bk.get B2 rfl) ?_ | refine gT rfl rfl rfl rfl ?_ | refine gF rfl rfl rfl rfl ?_ | refine condT rfl rfl ?_ | refine condF rfl rfl ?_); refine go TD_ok 200 rfl ?_)
   exact ret (ret1 (v := .bool false) Try.results40 rfl ⟨⟨false, rfl, fun e => by cases e⟩, q⟩)
 ·rw [decide_eq_false h2]
  refine go TD_ok 200 rfl ?_
  repeat ((first | refine ldA TD_ok rfl rfl rfl rfl rfl (Bk.all B2) ?_ | refine ld TD_ok rfl rfl rfl rfl (Bk.get B2 rfl) ?_ | refine gT rfl rfl rfl rfl ?_ | refine gF rfl rfl rfl rfl ?_ | refine condT rfl rfl ?_ | refine condF rfl rfl ?_); refine go TD_ok 200 rfl ?_)
  exact ret (ret1 (v := .bool false) Try.results40 rfl ⟨⟨false, rfl, fun e => by cases e⟩, q⟩)
theorem SmV.no {w0 w w' : World} {s : Sc} {v : Value} (h : SmV w0 w s v) (q : Chg No w w') : SmV w0 w' s v := by
 obtain ⟨gx, go, e, a, b, Bx, Bo⟩ := h.ex
 exact ⟨gx, go, e, a, b, Bx.no q, Bo.no q⟩
def mZ : Scm := ⟨⟨none, [], 0⟩, ⟨none, [], 0⟩⟩
theorem mZ_m (w : World) : ScM w 0 mZ := ⟨Sl.nil w 2 none, Sl.nil w 2 none, by decide, by decide⟩
end Go.Proofs.Yteenhfnamjbaiaa
