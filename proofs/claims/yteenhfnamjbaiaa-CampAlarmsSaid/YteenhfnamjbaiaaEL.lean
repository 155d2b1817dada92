/- A step calculus over the kit's 'wp': keys of maps that are structs of structs. No statement about the program is in it. -/
import Derived.Test.YteenhfnamjbaiaaEK
namespace Go.Ev
def keyPart (P : Program) (t : TypeId) (bs : List Bool) : Bool :=
  (match bs with | [b] => kindOk P b t | _ => false) || (match P.underlying t with | some (.struct gs) => gs.all (·.name != "_") && keyFs P 0 gs.toList bs | _ => false)
theorem keyPart_some {P : Program} {d : Nat} {t : TypeId} {bs : List Bool} {vs : List Value} (h : keyPart P t bs = true) (hc : P.cellsOf t = bs.length) (hv : kFits bs vs) : ∃ l, P.keyLits (d + 2) t vs = some l := by
  unfold keyPart at h
  rw [Bool.or_eq_true] at h
  rcases h with h | h
  · split at h
    · rename_i b
      cases vs with
      | nil => cases hv
      | cons v vs =>
        cases vs with
        | nil => exact keyLits_one h hv.1
        | cons u us => exact hv.2.elim
    · cases h
  · split at h
    · rename_i gs hu
      rw [Bool.and_eq_true] at h
      obtain ⟨l, hl⟩ := keyFs_some (P := P) (d := d) (cs := vs) gs.toList bs 0 vs h.2 hv rfl
      refine Option.isSome_iff_exists.1 ?_
      unfold Program.keyLits
      rw [hu]
      simp only [hc, kFits_len hv, h.1, and_self, if_true, hl, Option.map_some]
      rfl
    · cases h
def keyFl (P : Program) : Nat → List Field → List (List Bool) → Bool
  | _, [], [] => true
  | o, f :: fs, bs :: bss => Nat.beq f.offset o && (Nat.beq (P.cellsOf f.type) bs.length && (keyPart P f.type bs && keyFl P (o + bs.length) fs bss))
  | _, _, _ => false
theorem kFits_app : ∀ {bs cs : List Bool} {vs : List Value}, kFits (bs ++ cs) vs → kFits bs (vs.take bs.length) ∧ kFits cs (vs.drop bs.length) := by
  intro bs
  induction bs with
  | nil => intro cs vs h; exact ⟨trivial, h⟩
  | cons b bs ih =>
    intro cs vs h
    cases vs with
    | nil => cases h
    | cons v vs => exact ⟨⟨h.1, (ih h.2).1⟩, (ih h.2).2⟩
theorem keyFl_some {P : Program} {d : Nat} {cs : List Value} : ∀ (fs : List Field) (bss : List (List Bool)) (o : Nat) (vs : List Value), keyFl P o fs bss = true → kFits bss.flatten vs → cs.drop o = vs →
    ∃ l, fs.mapM (fun f => P.keyLits (d + 2) f.type ((cs.drop f.offset).take (P.cellsOf f.type))) = some l := by
  intro fs
  induction fs with
  | nil => intro bss o vs _ _ _; exact ⟨[], rfl⟩
  | cons f fs ih =>
    intro bss o vs h hv hd
    cases bss with
    | nil => cases h
    | cons bs bss =>
      simp only [keyFl, Bool.and_eq_true] at h
      obtain ⟨h1, h2, h3, h4⟩ := h
      have h1 := Nat.eq_of_beq_eq_true h1
      have h2 := Nat.eq_of_beq_eq_true h2
      rw [List.flatten_cons] at hv
      obtain ⟨v1, v2⟩ := kFits_app hv
      obtain ⟨l, hl⟩ := keyPart_some (P := P) (d := d) h3 h2 v1
      obtain ⟨m, hm⟩ := ih bss (o + bs.length) _ h4 v2 (by rw [← hd, List.drop_drop])
      refine ⟨l :: m, ?_⟩
      rw [List.mapM_cons, h1, h2, hd, hl]
      simp [hm]
def keyStr2 (P : Program) (t : TypeId) (bss : List (List Bool)) : Bool :=
  match P.underlying t with
  | some (.struct fs) => P.keyType t && (Nat.beq (P.cellsOf t) bss.flatten.length && (fs.all (·.name != "_") && keyFl P 0 fs.toList bss))
  | _ => false
theorem keyStr2_some {P : Program} {t : TypeId} {bss : List (List Bool)} (h : keyStr2 P t bss = true) {vs : List Value} (hv : kFits bss.flatten vs) (h1 : 2 ≤ P.types.size) : ∃ l, keyOf P t (.agg vs.toArray) = some l := by
  unfold keyStr2 at h
  split at h
  · rename_i fs hu
    simp only [Bool.and_eq_true] at h
    obtain ⟨a1, a2, a3, a4⟩ := h
    have a2 := Nat.eq_of_beq_eq_true a2
    obtain ⟨n, hn⟩ : ∃ n, P.types.size + 1 = n + 3 := ⟨P.types.size - 2, by omega⟩
    obtain ⟨l, hl⟩ := keyFl_some (P := P) (d := n) (cs := vs) fs.toList bss 0 vs a4 hv rfl
    have hlen := kFits_len hv
    have hf : (Value.agg vs.toArray).formed P t = true := by simp [Value.formed, hu, a2, hlen]
    refine Option.isSome_iff_exists.1 ?_
    unfold keyOf
    rw [hu]
    simp only [a1, hf, Bool.and_self, if_true, hn]
    unfold Program.keyLits
    rw [hu]
    simp only [Value.cells, a2, hlen, a3, and_self, if_true, hl, Option.map_some]
    rfl
  · cases h
end Go.Ev
