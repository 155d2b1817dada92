/- The arguments of the laws of layer 9, as they come in. -/
import Derived.Test.YteenhfnamjbaiaaE3
import Derived.Test.YteenhfnamjbaiaaR1
namespace Go.Proofs.Yteenhfnamjbaiaa
open Go.Ev Go.Proofs Go.Camp
def DyI (d : Dy) : Prop := I64 d.slo ∧ I64 d.shi ∧ I64 d.llo ∧ I64 d.lhi ∧ I64 d.gas
def ClI (c : Cl) : Prop := I64 c.opn ∧ I64 c.due ∧ I64 c.work
def SiI (s : Site) : Prop := I64 s.cost ∧ I64 s.lo ∧ I64 s.hi ∧ I64 s.tru
def PrI (p : Int × Int) : Prop := I64 p.1 ∧ I64 p.2
theorem flatI (l : List Int) : (l.flatMap fun x => [Value.int .i64 x]) = iL l := by
  induction l with
  | nil => rfl
  | cons x l ih => rw [List.flatMap_cons, ih]; rfl
theorem flatB (l : List Bool) : (l.flatMap fun x => [Value.bool x]) = bL l := by
  induction l with
  | nil => rfl
  | cons x l ih => rw [List.flatMap_cons, ih]; rfl
abbrev InI (w : World) (s : Sli Int) : Prop := SliOk w 1 (fun x => [Value.int .i64 x]) I64 s
abbrev InB (w : World) (s : Sli Bool) : Prop := SliOk w 1 (fun x => [Value.bool x]) (fun _ => True) s
theorem InI.sl {w : World} {s : Sli Int} (h : InI w s) : Sl w w.heap.size 1 s.A s.l.length (iL s.l) := by rw [← flatI]; exact h.2.2.1
theorem InB.sl {w : World} {s : Sli Bool} (h : InB w s) : Sl w w.heap.size 1 s.A s.l.length (bL s.l) := by rw [← flatB]; exact h.2.2.1
structure InS (w : World) (m : Sm) : Prop where
  b : I64 m.a.b.ch ∧ I64 m.a.b.gas ∧ I64 m.a.b.dat ∧ I64 m.a.room ∧ I64 m.a.store ∧ I64 m.a.run ∧ I64 m.a.idle ∧ I64 m.a.burn ∧ I64 m.a.dat
  d : SliOk w 5 dyL DyI ⟨m.A, m.a.days, m.cap⟩
theorem max63 {n : Nat} (h : n ≤ maxLen) : n ≤ 9223372036854775807 := by unfold maxLen at h; exact h
theorem InS.m {w : World} {m : Sm} (h : InS w m) : SuM w m := ⟨h.d.2.2.1, max63 h.d.ml⟩
structure InT (w : World) (m : Tm) : Prop where
  y : SliOk w 1 slI (InI w) m.W
  s : SliOk w 3 clL ClI m.S
theorem InT.m {w : World} {m : Tm} (h : InT w m) : TrM w w.heap.size m :=
  ⟨h.y.2.2.1, fun s hs => ⟨(h.y.2.2.2 s hs).sl, max63 (h.y.2.2.2 s hs).ml⟩, h.s.2.2.1, max63 h.y.ml, max63 h.s.ml⟩
structure InN (w : World) (m : Scm) : Prop where
  n : SliOk w 2 nV PrI m.N
  o : SliOk w 2 bV (fun _ => True) m.O
theorem InN.m {w : World} {m : Scm} (h : InN w m) : ScM w w.heap.size m := ⟨h.n.2.2.1, h.o.2.2.1, max63 h.n.ml, max63 h.o.ml⟩
structure InC (w : World) (m : Cm) : Prop where
  b : I64 m.c.parts ∧ I64 m.c.level ∧ I64 m.c.budget
  s : SliOk w 4 siL SiI ⟨m.A, m.c.sites, m.cap⟩
theorem InC.m {w : World} {m : Cm} (h : InC w m) : CpM w m := h.s.2.2.1
section
variable {H : Type} {enc : TypeId × Value → H} {w : World}
theorem op_I : Opn enc Try.prog w 25 (fun s : Sli Int => [.slice s.A s.l.length s.c]) (InI w) := opn_slice Try.underlying25 (by kernel_rfl) (by decide) (opn_int Try.underlying3) (fun _ => rfl)
theorem op_B : Opn enc Try.prog w 46 (fun s : Sli Bool => [.slice s.A s.l.length s.c]) (InB w) := opn_slice Try.underlying46 (by kernel_rfl) (by decide) (opn_bool Try.underlying4) (fun _ => rfl)
theorem op_sk : Opn enc Try.prog w 41 skL (fun x => I64 x.ch ∧ I64 x.gas ∧ I64 x.dat) :=
  (opn_struct Try.underlying41 (n := 3) (by kernel_rfl) (opF_cons (opn_int Try.underlying3) rfl (sz := 1) (by kernel_rfl) (opF_cons (opn_int Try.underlying3) rfl (sz := 1) (by kernel_rfl) (opF_cons (opn_int Try.underlying3) rfl (sz := 1) (by kernel_rfl) (opF_nil _ _ rfl))))).to
    (fun p => (⟨p.1, p.2.1, p.2.2.1⟩ : Stk)) fun a h => ⟨rfl, h.1, h.2.1, h.2.2.1⟩
theorem op_sp : Opn enc Try.prog w 93 (fun p : Int × Int => spL p.1 p.2) PrI :=
  (opn_struct Try.underlying93 (n := 2) (by kernel_rfl) (opF_cons (opn_int Try.underlying3) rfl (sz := 1) (by kernel_rfl) (opF_cons (opn_int Try.underlying3) rfl (sz := 1) (by kernel_rfl) (opF_nil _ _ rfl)))).to
    (fun p => (p.1, p.2.1)) fun a h => ⟨rfl, h.1, h.2.1⟩
theorem op_dy : Opn enc Try.prog w 95 dyL DyI :=
  (opn_struct Try.underlying95 (n := 5) (by kernel_rfl) (opF_cons op_sp rfl (sz := 2) (by kernel_rfl) (opF_cons op_sp rfl (sz := 2) (by kernel_rfl) (opF_cons (opn_int Try.underlying3) rfl (sz := 1) (by kernel_rfl) (opF_nil _ _ rfl))))).to
    (fun p => (⟨p.1.1, p.1.2, p.2.1.1, p.2.1.2, p.2.2.1⟩ : Dy)) fun a h => ⟨rfl, h.1.1, h.1.2, h.2.1.1, h.2.1.2, h.2.2.1⟩
theorem op_days : Opn enc Try.prog w 42 (fun s : Sli Dy => [.slice s.A s.l.length s.c]) (SliOk w 5 dyL DyI) := opn_slice Try.underlying42 (by kernel_rfl) (by decide) op_dy (fun _ => rfl)
theorem op_su : Opn enc Try.prog w 44 suL (InS w) :=
  (opn_struct Try.underlying44 (n := 10) (by kernel_rfl) (opF_cons op_sk rfl (sz := 3) (by kernel_rfl) (opF_cons (opn_int Try.underlying3) rfl (sz := 1) (by kernel_rfl) (opF_cons (opn_int Try.underlying3) rfl (sz := 1) (by kernel_rfl) (opF_cons (opn_int Try.underlying3) rfl (sz := 1) (by kernel_rfl)
    (opF_cons (opn_int Try.underlying3) rfl (sz := 1) (by kernel_rfl) (opF_cons (opn_int Try.underlying3) rfl (sz := 1) (by kernel_rfl) (opF_cons (opn_int Try.underlying3) rfl (sz := 1) (by kernel_rfl) (opF_cons op_days rfl (sz := 1) (by kernel_rfl) (opF_nil _ _ rfl)))))))))).to
    (fun p => (⟨⟨p.1, p.2.1, p.2.2.1, p.2.2.2.1, p.2.2.2.2.1, p.2.2.2.2.2.1, p.2.2.2.2.2.2.1, p.2.2.2.2.2.2.2.1.l⟩, p.2.2.2.2.2.2.2.1.A, p.2.2.2.2.2.2.2.1.c⟩ : Sm))
    fun a h => ⟨rfl, ⟨h.1.1, h.1.2.1, h.1.2.2, h.2.1, h.2.2.1, h.2.2.2.1, h.2.2.2.2.1, h.2.2.2.2.2.1, h.2.2.2.2.2.2.1⟩, h.2.2.2.2.2.2.2.1⟩
theorem op_cl : Opn enc Try.prog w 148 clL ClI :=
  (opn_struct Try.underlying148 (n := 3) (by kernel_rfl) (opF_cons (opn_int Try.underlying3) rfl (sz := 1) (by kernel_rfl) (opF_cons (opn_int Try.underlying3) rfl (sz := 1) (by kernel_rfl) (opF_cons (opn_int Try.underlying3) rfl (sz := 1) (by kernel_rfl) (opF_nil _ _ rfl))))).to
    (fun p => (⟨p.1, p.2.1, p.2.2.1⟩ : Cl)) fun a h => ⟨rfl, h.1, h.2.1, h.2.2.1⟩
theorem op_ways : Opn enc Try.prog w 53 (fun s : Sli (Sli Int) => [.slice s.A s.l.length s.c]) (SliOk w 1 slI (InI w)) := opn_slice Try.underlying53 (by kernel_rfl) (by decide) op_I (fun _ => rfl)
theorem op_stops : Opn enc Try.prog w 54 (fun s : Sli Cl => [.slice s.A s.l.length s.c]) (SliOk w 3 clL ClI) := opn_slice Try.underlying54 (by kernel_rfl) (by decide) op_cl (fun _ => rfl)
theorem op_tr : Opn enc Try.prog w 56 tmL (InT w) :=
  (opn_struct Try.underlying56 (n := 2) (by kernel_rfl) (opF_cons op_ways rfl (sz := 1) (by kernel_rfl) (opF_cons op_stops rfl (sz := 1) (by kernel_rfl) (opF_nil _ _ rfl)))).to
    (fun p => (⟨p.1, p.2.1⟩ : Tm)) fun a h => ⟨rfl, h.1, h.2.1⟩
theorem op_nx : Opn enc Try.prog w 124 nV PrI := fun fuel cs x hx => by
  obtain ⟨l, rfl, h1, h2⟩ := opn_array Try.underlying124 (sz := 1) (by kernel_rfl) (by kernel_rfl) (opn_int Try.underlying3) fuel cs x hx
  match l, h1 with
  | [a, b], _ => exact ⟨(a, b), rfl, h2 a (by simp), h2 b (by simp)⟩
theorem op_al : Opn enc Try.prog w 125 bV (fun _ => True) := fun fuel cs x hx => by
  obtain ⟨l, rfl, h1, h2⟩ := opn_array Try.underlying125 (sz := 1) (by kernel_rfl) (by kernel_rfl) (opn_bool Try.underlying4) fuel cs x hx
  match l, h1 with
  | [a, b], _ => exact ⟨(a, b), rfl, trivial⟩
theorem op_nxs : Opn enc Try.prog w 74 (fun s : Sli (Int × Int) => [.slice s.A s.l.length s.c]) (SliOk w 2 nV PrI) := opn_slice Try.underlying74 (by kernel_rfl) (by decide) op_nx (fun _ => rfl)
theorem op_als : Opn enc Try.prog w 75 (fun s : Sli (Bool × Bool) => [.slice s.A s.l.length s.c]) (SliOk w 2 bV (fun _ => True)) := opn_slice Try.underlying75 (by kernel_rfl) (by decide) op_al (fun _ => rfl)
theorem op_sc : Opn enc Try.prog w 77 scL (InN w) :=
  (opn_struct Try.underlying77 (n := 2) (by kernel_rfl) (opF_cons op_nxs rfl (sz := 1) (by kernel_rfl) (opF_cons op_als rfl (sz := 1) (by kernel_rfl) (opF_nil _ _ rfl)))).to
    (fun p => (⟨p.1, p.2.1⟩ : Scm)) fun a h => ⟨rfl, h.1, h.2.1⟩
theorem op_si : Opn enc Try.prog w 65 siL SiI :=
  (opn_struct Try.underlying65 (n := 4) (by kernel_rfl) (opF_cons (opn_int Try.underlying3) rfl (sz := 1) (by kernel_rfl) (opF_cons (opn_int Try.underlying3) rfl (sz := 1) (by kernel_rfl) (opF_cons (opn_int Try.underlying3) rfl (sz := 1) (by kernel_rfl) (opF_cons (opn_int Try.underlying3) rfl (sz := 1) (by kernel_rfl) (opF_nil _ _ rfl)))))).to
    (fun p => (⟨p.1, p.2.1, p.2.2.1, p.2.2.2.1⟩ : Site)) fun a h => ⟨rfl, h.1, h.2.1, h.2.2.1, h.2.2.2.1⟩
theorem op_sites : Opn enc Try.prog w 22 (fun s : Sli Site => [.slice s.A s.l.length s.c]) (SliOk w 4 siL SiI) := opn_slice Try.underlying22 (by kernel_rfl) (by decide) op_si (fun _ => rfl)
theorem op_cp : Opn enc Try.prog w 24 cpL (InC w) :=
  (opn_struct Try.underlying24 (n := 4) (by kernel_rfl) (opF_cons (opn_int Try.underlying3) rfl (sz := 1) (by kernel_rfl) (opF_cons (opn_int Try.underlying3) rfl (sz := 1) (by kernel_rfl) (opF_cons (opn_int Try.underlying3) rfl (sz := 1) (by kernel_rfl) (opF_cons op_sites rfl (sz := 1) (by kernel_rfl) (opF_nil _ _ rfl)))))).to
    (fun p => (⟨⟨p.1, p.2.1, p.2.2.1, p.2.2.2.1.l⟩, p.2.2.2.1.A, p.2.2.2.1.c⟩ : Cm)) fun a h => ⟨rfl, ⟨h.1, h.2.1, h.2.2.1⟩, h.2.2.2.1⟩
end
end Go.Proofs.Yteenhfnamjbaiaa
