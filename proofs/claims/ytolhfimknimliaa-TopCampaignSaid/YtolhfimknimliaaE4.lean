/- The arguments of the laws of campaigns in layer 10, as they come in. -/
import Derived.Test.YtolhfimknimliaaE3
import Derived.Test.YtolhfimknimliaaKM
namespace Go.Proofs.Ytolhfimknimliaa.K
open Go.Ev Go.Proofs Go.Camp
def SiI (s : Site) : Prop := I64 s.cost ∧ I64 s.lo ∧ I64 s.hi ∧ I64 s.tru
theorem flatI (l : List Int) : (l.flatMap fun x => [Value.int .i64 x]) = iL l := by
  induction l with
  | nil => rfl
  | cons x l ih => rw [List.flatMap_cons, ih]; rfl
abbrev InI (w : World) (s : Sli Int) : Prop := SliOk w 1 (fun x => [Value.int .i64 x]) I64 s
theorem InI.sl {w : World} {s : Sli Int} (h : InI w s) : Sl w w.heap.size 1 s.A s.l.length (iL s.l) := by rw [← flatI]; exact h.2.2.1
theorem max63 {n : Nat} (h : n ≤ maxLen) : n ≤ 9223372036854775807 := by unfold maxLen at h; exact h
structure InC (w : World) (m : Cm) : Prop where
  b : I64 m.c.parts ∧ I64 m.c.level ∧ I64 m.c.budget
  s : SliOk w 4 siL SiI ⟨m.A, m.c.sites, m.cap⟩
theorem InC.m {w : World} {m : Cm} (h : InC w m) : CpM w m := h.s.2.2.1
section
variable {H : Type} {enc : TypeId × Value → H} {w : World}
theorem op_I : Opn enc Try.prog w 45 (fun s : Sli Int => [.slice s.A s.l.length s.c]) (InI w) := opn_slice Try.underlying45 (by kernel_rfl) (by decide) (opn_int Try.underlying3) (fun _ => rfl)
theorem op_si : Opn enc Try.prog w 77 siL SiI :=
  (opn_struct Try.underlying77 (n := 4) (by kernel_rfl) (opF_cons (opn_int Try.underlying3) rfl (sz := 1) (by kernel_rfl) (opF_cons (opn_int Try.underlying3) rfl (sz := 1) (by kernel_rfl) (opF_cons (opn_int Try.underlying3) rfl (sz := 1) (by kernel_rfl) (opF_cons (opn_int Try.underlying3) rfl (sz := 1) (by kernel_rfl) (opF_nil _ _ rfl)))))).to
    (fun p => (⟨p.1, p.2.1, p.2.2.1, p.2.2.2.1⟩ : Site)) fun a h => ⟨rfl, h.1, h.2.1, h.2.2.1, h.2.2.2.1⟩
theorem op_sites : Opn enc Try.prog w 61 (fun s : Sli Site => [.slice s.A s.l.length s.c]) (SliOk w 4 siL SiI) := opn_slice Try.underlying61 (by kernel_rfl) (by decide) op_si (fun _ => rfl)
theorem op_cp : Opn enc Try.prog w 63 cpL (InC w) :=
  (opn_struct Try.underlying63 (n := 4) (by kernel_rfl) (opF_cons (opn_int Try.underlying3) rfl (sz := 1) (by kernel_rfl) (opF_cons (opn_int Try.underlying3) rfl (sz := 1) (by kernel_rfl) (opF_cons (opn_int Try.underlying3) rfl (sz := 1) (by kernel_rfl) (opF_cons op_sites rfl (sz := 1) (by kernel_rfl) (opF_nil _ _ rfl)))))).to
    (fun p => (⟨⟨p.1, p.2.1, p.2.2.1, p.2.2.2.1.l⟩, p.2.2.2.1.A, p.2.2.2.1.c⟩ : Cm)) fun a h => ⟨rfl, ⟨h.1, h.2.1, h.2.2.1⟩, h.2.2.2.1⟩
end
end Go.Proofs.Ytolhfimknimliaa.K
