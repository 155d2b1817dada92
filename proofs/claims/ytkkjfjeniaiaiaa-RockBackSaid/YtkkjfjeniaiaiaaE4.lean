/- The arguments of the laws of layer 6, as they come in. -/
import Derived.Test.YtkkjfjeniaiaiaaE3
import Derived.Test.YtkkjfjeniaiaiaaCB
namespace Go.Proofs.Ytkkjfjeniaiaiaa
open Go.Ev Go.Proofs Go.Rock
def VoI (v : Vo) : Prop := I64 v.nx ∧ I64 v.ny ∧ I64 v.nz ∧ I64 v.sz
def RaI (r : Ra) : Prop := I64 r.x ∧ I64 r.y ∧ I64 r.z ∧ I64 r.dx ∧ I64 r.dy ∧ I64 r.dz
def SpI (s : Int × Int) : Prop := I64 s.1 ∧ I64 s.2
def SuI (s : Su) : Prop := I64 s.col ∧ I64 s.lo ∧ I64 s.hi
theorem flatI (l : List Int) : (l.flatMap fun x => [I x]) = iL l := by
  induction l with
  | nil => rfl
  | cons x l ih => rw [List.flatMap_cons, ih]; rfl
abbrev InI (w : World) (s : Sli Int) : Prop := SliOk w 1 (fun x => [I x]) I64 s
abbrev InR (w : World) (s : Sli Ra) : Prop := SliOk w 6 rL RaI s
abbrev InD (w : World) (s : Sli (Int × Int)) : Prop := SliOk w 2 cL SpI s
abbrev InS (w : World) (s : Sli Su) : Prop := SliOk w 3 sL SuI s
theorem InI.sl {w : World} {s : Sli Int} (h : InI w s) : Sl w w.heap.size 1 s.A s.l.length (iL s.l) := by rw [← flatI]; exact h.2.2.1
section
variable {H : Type} {enc : TypeId × Value → H} {w : World}
theorem op_vo : Opn enc Try.prog w 23 vL VoI :=
  (opn_struct Try.underlying23 (n := 4) (by kernel_rfl) (opF_cons (opn_int Try.underlying3) rfl (sz := 1) (by kernel_rfl) (opF_cons (opn_int Try.underlying3) rfl (sz := 1) (by kernel_rfl) (opF_cons (opn_int Try.underlying3) rfl (sz := 1) (by kernel_rfl) (opF_cons (opn_int Try.underlying3) rfl (sz := 1) (by kernel_rfl) (opF_nil _ _ rfl)))))).to
    (fun p => (⟨p.1, p.2.1, p.2.2.1, p.2.2.2.1⟩ : Vo)) fun a h => ⟨rfl, h.1, h.2.1, h.2.2.1, h.2.2.2.1⟩
theorem op_ra : Opn enc Try.prog w 26 rL RaI :=
  (opn_struct Try.underlying26 (n := 6) (by kernel_rfl) (opF_cons (opn_int Try.underlying3) rfl (sz := 1) (by kernel_rfl) (opF_cons (opn_int Try.underlying3) rfl (sz := 1) (by kernel_rfl) (opF_cons (opn_int Try.underlying3) rfl (sz := 1) (by kernel_rfl) (opF_cons (opn_int Try.underlying3) rfl (sz := 1) (by kernel_rfl)
    (opF_cons (opn_int Try.underlying3) rfl (sz := 1) (by kernel_rfl) (opF_cons (opn_int Try.underlying3) rfl (sz := 1) (by kernel_rfl) (opF_nil _ _ rfl)))))))).to
    (fun p => (⟨p.1, p.2.1, p.2.2.1, p.2.2.2.1, p.2.2.2.2.1, p.2.2.2.2.2.1⟩ : Ra)) fun a h => ⟨rfl, h.1, h.2.1, h.2.2.1, h.2.2.2.1, h.2.2.2.2.1, h.2.2.2.2.2.1⟩
theorem op_sp : Opn enc Try.prog w 72 cL SpI :=
  (opn_struct Try.underlying72 (n := 2) (by kernel_rfl) (opF_cons (opn_int Try.underlying3) rfl (sz := 1) (by kernel_rfl) (opF_cons (opn_int Try.underlying3) rfl (sz := 1) (by kernel_rfl) (opF_nil _ _ rfl)))).to
    (fun p => (p.1, p.2.1)) fun a h => ⟨rfl, h.1, h.2.1⟩
theorem op_su : Opn enc Try.prog w 89 sL SuI :=
  (opn_struct Try.underlying89 (n := 3) (by kernel_rfl) (opF_cons (opn_int Try.underlying3) rfl (sz := 1) (by kernel_rfl) (opF_cons op_sp rfl (sz := 2) (by kernel_rfl) (opF_nil _ _ rfl)))).to
    (fun p => (⟨p.1, p.2.1.1, p.2.1.2⟩ : Su)) fun a h => ⟨rfl, h.1, h.2.1.1, h.2.1.2⟩
theorem op_I : Opn enc Try.prog w 24 (fun s : Sli Int => [.slice s.A s.l.length s.c]) (InI w) := opn_slice Try.underlying24 (by kernel_rfl) (by decide) (opn_int Try.underlying3) (fun _ => rfl)
theorem op_R : Opn enc Try.prog w 92 (fun s : Sli Ra => [.slice s.A s.l.length s.c]) (InR w) := opn_slice Try.underlying92 (by kernel_rfl) (by decide) op_ra (fun _ => rfl)
theorem op_D : Opn enc Try.prog w 70 (fun s : Sli (Int × Int) => [.slice s.A s.l.length s.c]) (InD w) := opn_slice Try.underlying70 (by kernel_rfl) (by decide) op_sp (fun _ => rfl)
theorem op_S : Opn enc Try.prog w 43 (fun s : Sli Su => [.slice s.A s.l.length s.c]) (InS w) := opn_slice Try.underlying43 (by kernel_rfl) (by decide) op_su (fun _ => rfl)
end
end Go.Proofs.Ytkkjfjeniaiaiaa
