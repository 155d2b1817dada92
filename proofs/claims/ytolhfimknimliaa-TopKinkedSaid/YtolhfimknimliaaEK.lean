/- A step calculus over the kit's 'wp': keys of maps that are structs and arrays. No statement about the program is in it. -/
import Derived.DeepKeys4
import Derived.Test.YtolhfimknimliaaE8
namespace Go.Ev
/-- what fits a key's cell: a bool, or an int -/
def kFit (b : Bool) (v : Value) : Prop := match b, v with | true, .bool _ => True | false, .int .i64 x => (Lit.int .i64 x).wf = true | _, _ => False
def kindOk (P : Program) (b : Bool) (t : TypeId) : Bool := match b, P.underlying t with | true, some .bool => true | false, some (.int q) => Nat.beq (kid q) 3 | _, _ => false
theorem keyLits_one {P : Program} {d : Nat} {b : Bool} {t : TypeId} {v : Value} (h : kindOk P b t = true) (hv : kFit b v) : ∃ l, P.keyLits (d + 1) t [v] = some l := by
  unfold kindOk at h
  unfold Program.keyLits
  split at h
  · rename_i hu
    rw [hu]
    unfold kFit at hv
    split at hv <;> first | exact ⟨_, rfl⟩ | contradiction
  · rename_i q hu
    rw [hu]
    have hq : q = .i64 := kid_inj h
    subst hq
    unfold kFit at hv
    split at hv <;> first | contradiction | exact ⟨_, if_pos ⟨rfl, hv⟩⟩
  · cases h
def kFits : List Bool → List Value → Prop
  | [], [] => True
  | b :: bs, v :: vs => kFit b v ∧ kFits bs vs
  | _, _ => False
theorem kFits_len : ∀ {bs : List Bool} {vs : List Value}, kFits bs vs → vs.length = bs.length := by
  intro bs
  induction bs with
  | nil => intro vs h; cases vs with | nil => rfl | cons v vs => cases h
  | cons b bs ih => intro vs h; cases vs with | nil => cases h | cons v vs => simp [ih h.2]
def keyFs (P : Program) : Nat → List Field → List Bool → Bool
  | _, [], [] => true
  | o, f :: fs, b :: bs => Nat.beq f.offset o && (Nat.beq (P.cellsOf f.type) 1 && (kindOk P b f.type && keyFs P (o + 1) fs bs))
  | _, _, _ => false
def keyStr (P : Program) (t : TypeId) (bs : List Bool) : Bool :=
  match P.underlying t with
  | some (.struct fs) => P.keyType t && (Nat.beq (P.cellsOf t) bs.length && (fs.all (·.name != "_") && keyFs P 0 fs.toList bs))
  | _ => false
theorem keyFs_some {P : Program} {d : Nat} {cs : List Value} : ∀ (fs : List Field) (bs : List Bool) (o : Nat) (vs : List Value), keyFs P o fs bs = true → kFits bs vs → cs.drop o = vs →
    ∃ l, fs.mapM (fun f => P.keyLits (d + 1) f.type ((cs.drop f.offset).take (P.cellsOf f.type))) = some l := by
  intro fs
  induction fs with
  | nil => intro bs o vs _ _ _; exact ⟨[], rfl⟩
  | cons f fs ih =>
    intro bs o vs h hv hd
    cases bs with
    | nil => cases h
    | cons b bs =>
      cases vs with
      | nil => cases hv
      | cons v vs =>
        simp only [keyFs, Bool.and_eq_true] at h
        obtain ⟨h1, h2, h3, h4⟩ := h
        have h1 := Nat.eq_of_beq_eq_true h1
        have h2 := Nat.eq_of_beq_eq_true h2
        obtain ⟨l, hl⟩ := keyLits_one (P := P) (d := d) h3 hv.1
        have hd2 : cs.drop (o + 1) = vs := by rw [← List.drop_drop, hd]; rfl
        obtain ⟨m, hm⟩ := ih bs (o + 1) vs h4 hv.2 hd2
        refine ⟨l :: m, ?_⟩
        rw [List.mapM_cons, h1, h2, hd]
        rw [show List.take 1 (v :: vs) = [v] from rfl, hl]
        simp [hm]
theorem keyStr_some {P : Program} {t : TypeId} {bs : List Bool} (h : keyStr P t bs = true) {vs : List Value} (hv : kFits bs vs) (h1 : 1 ≤ P.types.size) : ∃ l, keyOf P t (.agg vs.toArray) = some l := by
  unfold keyStr at h
  split at h
  · rename_i fs hu
    simp only [Bool.and_eq_true] at h
    obtain ⟨a1, a2, a3, a4⟩ := h
    have a2 := Nat.eq_of_beq_eq_true a2
    obtain ⟨n, hn⟩ : ∃ n, P.types.size + 1 = n + 2 := ⟨P.types.size - 1, by omega⟩
    obtain ⟨l, hl⟩ := keyFs_some (P := P) (d := n) (cs := vs) fs.toList bs 0 vs a4 hv rfl
    have hlen := kFits_len hv
    have hf : (Value.agg vs.toArray).formed P t = true := by simp [Value.formed, hu, a2, hlen]
    refine Option.isSome_iff_exists.1 ?_
    unfold keyOf
    rw [hu]
    simp only [a1, hf, Bool.and_self, if_true, hn]
    unfold Program.keyLits
    rw [hu]
    simp only [Value.cells, a2, hlen, a3, and_self, if_true, hl, Option.map_some]
    rfl
  · cases h
def keyArr (P : Program) (t : TypeId) (n : Nat) (b : Bool) : Bool :=
  match P.underlying t with
  | some (.array m e) => P.keyType t && (Nat.beq (P.cellsOf t) n && (Nat.beq m n && (Nat.beq (P.cellsOf e) 1 && kindOk P b e)))
  | _ => false
theorem mapM_some {α β : Type} {f : α → Option β} : ∀ (l : List α), (∀ a ∈ l, ∃ b, f a = some b) → ∃ m, l.mapM f = some m := by
  intro l
  induction l with
  | nil => intro _; exact ⟨[], rfl⟩
  | cons a l ih =>
    intro h
    obtain ⟨b, hb⟩ := h a (by simp)
    obtain ⟨m, hm⟩ := ih fun x hx => h x (by simp [hx])
    exact ⟨b :: m, by rw [List.mapM_cons, hb]; simp [hm]⟩
theorem keyArr_some {P : Program} {t : TypeId} {n : Nat} {b : Bool} (h : keyArr P t n b = true) {vs : List Value} (hl : vs.length = n) (hv : ∀ v ∈ vs, kFit b v) (h1 : 1 ≤ P.types.size) : ∃ l, keyOf P t (.agg vs.toArray) = some l := by
  unfold keyArr at h
  split at h
  · rename_i m e hu
    simp only [Bool.and_eq_true] at h
    obtain ⟨a1, a2, a3, a4, a5⟩ := h
    have a2 := Nat.eq_of_beq_eq_true a2
    have a3 := Nat.eq_of_beq_eq_true a3
    have a4 := Nat.eq_of_beq_eq_true a4
    subst a3
    obtain ⟨k, hn⟩ : ∃ k, P.types.size + 1 = k + 2 := ⟨P.types.size - 1, by omega⟩
    obtain ⟨l, hm⟩ := mapM_some (f := fun i => P.keyLits (k + 1) e ((vs.drop (i * P.cellsOf e)).take (P.cellsOf e))) (List.range m) fun i hi => by
      have hi : i < vs.length := by rw [hl]; exact List.mem_range.1 hi
      rw [a4, Nat.mul_one]
      have : (vs.drop i).take 1 = [vs[i]] := by rw [List.drop_eq_getElem_cons hi]; rfl
      rw [this]
      exact keyLits_one a5 (hv _ (List.getElem_mem hi))
    have hf : (Value.agg vs.toArray).formed P t = true := by simp [Value.formed, hu, a2, hl]
    refine Option.isSome_iff_exists.1 ?_
    unfold keyOf
    rw [hu]
    simp only [a1, hf, Bool.and_self, if_true, hn]
    unfold Program.keyLits
    rw [hu]
    simp only [Value.cells, a2, hl, if_true, hm, Option.map_some]
    rfl
  · cases h
end Go.Ev
