/- The contract of range tables that are as defined. -/
import Derived.Test.YtolhfimknimliaaC4
import Derived.Test.YtolhfimknimliaaC5
namespace Go.Proofs.Ytolhfimknimliaa
open Go.Ev Go.Proofs Go.Top
attribute [local irreducible] At AtH
set_option maxRecDepth 20000 in
theorem ranged_any (t : List Rw) (A : Option Addr) (c B : Nat) (w : World) (S0 : Sl w B 3 A t.length (t.flatMap rwL)) (hl : t.length ≤ 9223372036854775807) :
    Ret Try.prog 78 [.slice A t.length c] w fun x w' => (∃ b, x = .bool b ∧ (b = true ↔ Mono 1 1000000 1000000 true t)) ∧ Chg No w w' := by
  refine enter Try.func78 rfl Try.ntmps78 rfl ?_
  refine go T_ok 200 rfl ?_
  refine call rfl rfl rfl (ok _ (by decide) rfl) (monoR_any t 1 1000000 1000000 A c B _ S0 hl) ?_
  rintro x w1 ⟨⟨b, rfl, hb⟩, q⟩
  refine go T_ok 200 rfl ?_
  exact ret (ret1 (v := .bool _) Try.results78 rfl ⟨⟨b, rfl, hb⟩, q⟩)
end Go.Proofs.Ytolhfimknimliaa
