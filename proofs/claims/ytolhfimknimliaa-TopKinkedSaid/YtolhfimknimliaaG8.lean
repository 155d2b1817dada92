/- The arguments of TopKinked, as they come in. -/
import Derived.Test.YtolhfimknimliaaE3
import Derived.Test.YtolhfimknimliaaG6
namespace Go.Proofs.Ytolhfimknimliaa.L
open Go.Ev Go.Proofs Go.Bend Go.Top
def RwJ (r : Rw) : Prop := I64 r.k ∧ I64 r.lo ∧ I64 r.hi
def GaI (g : Ga) : Prop := I64 g.z ∧ I64 g.lo ∧ I64 g.hi
abbrev Mu := Sli Ga × Sli Int
def muL (m : Mu) : List Value := [.slice m.1.A m.1.l.length m.1.c, .slice m.2.A m.2.l.length m.2.c]
theorem muL_len (m : Mu) : (muL m).length = 2 := rfl
theorem flatI (l : List Int) : (l.flatMap fun x => [Value.int .i64 x]) = iL l := by
  induction l with
  | nil => rfl
  | cons x l ih => rw [List.flatMap_cons, ih]; rfl
abbrev InG3 (w : World) (s : Sli Ga) : Prop := SliOk w 3 gaL GaI s
abbrev InI (w : World) (s : Sli Int) : Prop := SliOk w 1 (fun x => [Value.int .i64 x]) I64 s
theorem InI.sl {w : World} {s : Sli Int} (h : InI w s) : Sl w w.heap.size 1 s.A s.l.length (iL s.l) := by rw [← flatI]; exact h.2.2.1
def InM (w : World) (m : Mu) : Prop := InG3 w m.1 ∧ InI w m.2
abbrev InMs (w : World) (s : Sli Mu) : Prop := SliOk w 2 muL (InM w) s
abbrev InK (w : World) (s : Sli Rw) : Prop := SliOk w 3 rwL RwJ s
section
variable {H : Type} {enc : TypeId × Value → H} {w : World}
theorem op_ga : Opn enc Try.prog w 50 gaL GaI :=
  (opn_struct Try.underlying50 (n := 3) (by kernel_rfl) (opF_cons (opn_int Try.underlying3) rfl (sz := 1) (by kernel_rfl) (opF_cons (opn_int Try.underlying3) rfl (sz := 1) (by kernel_rfl) (opF_cons (opn_int Try.underlying3) rfl (sz := 1) (by kernel_rfl) (opF_nil _ _ rfl))))).to
    (fun p => (⟨p.1, p.2.1, p.2.2.1⟩ : Ga)) fun a h => ⟨rfl, h.1, h.2.1, h.2.2.1⟩
theorem op_gs : Opn enc Try.prog w 44 (fun s : Sli Ga => [.slice s.A s.l.length s.c]) (InG3 w) := opn_slice Try.underlying44 (by kernel_rfl) (by decide) op_ga (fun _ => rfl)
theorem op_is : Opn enc Try.prog w 45 (fun s : Sli Int => [.slice s.A s.l.length s.c]) (InI w) := opn_slice Try.underlying45 (by kernel_rfl) (by decide) (opn_int Try.underlying3) (fun _ => rfl)
theorem op_mu : Opn enc Try.prog w 47 muL (InM w) :=
  (opn_struct Try.underlying47 (n := 2) (by kernel_rfl) (opF_cons op_gs rfl (sz := 1) (by kernel_rfl) (opF_cons op_is rfl (sz := 1) (by kernel_rfl) (opF_nil _ _ rfl)))).to
    (fun p => ((p.1, p.2.1) : Mu)) fun a h => ⟨rfl, h.1, h.2.1⟩
theorem op_ms : Opn enc Try.prog w 41 (fun s : Sli Mu => [.slice s.A s.l.length s.c]) (InMs w) := opn_slice Try.underlying41 (by kernel_rfl) (by decide) op_mu (fun _ => rfl)
theorem op_sp : Opn enc Try.prog w 24 spL (fun s : Int × Int => I64 s.1 ∧ I64 s.2) :=
  (opn_struct Try.underlying24 (n := 2) (by kernel_rfl) (opF_cons (opn_int Try.underlying3) rfl (sz := 1) (by kernel_rfl) (opF_cons (opn_int Try.underlying3) rfl (sz := 1) (by kernel_rfl) (opF_nil _ _ rfl)))).to
    (fun p => (p.1, p.2.1)) fun a h => ⟨rfl, h.1, h.2.1⟩
theorem op_kr : Opn enc Try.prog w 110 rwL RwJ :=
  (opn_struct Try.underlying110 (n := 3) (by kernel_rfl) (opF_cons (opn_int Try.underlying3) rfl (sz := 1) (by kernel_rfl) (opF_cons op_sp rfl (sz := 2) (by kernel_rfl) (opF_nil _ _ rfl)))).to
    (fun p => (⟨p.1, p.2.1.1, p.2.1.2⟩ : Rw)) fun a h => ⟨rfl, h.1, h.2.1.1, h.2.1.2⟩
theorem op_ks : Opn enc Try.prog w 42 (fun s : Sli Rw => [.slice s.A s.l.length s.c]) (InK w) := opn_slice Try.underlying42 (by kernel_rfl) (by decide) op_kr (fun _ => rfl)
end
end Go.Proofs.Ytolhfimknimliaa.L
