/- A step calculus over the kit's 'wp': what changes, carried on; regions whose order forks. No statement about the program is in it. -/
import Derived.Test.YtolhfimknimliaaE2
namespace Go.Ev
/-! ### A region whose order forks: a segment, then either of two operations, and so on -/
inductive Tr where
  | fin (r : List (Nat × Bool))
  | fork (r : List (Nat × Bool)) (a b : Tr)
/-- the operations of a segment -/
def Tr.seg : Tr → List (Nat × Bool)
  | .fin r => r
  | .fork r _ _ => r
def Tr.len : Tr → Nat
  | .fin r => r.length
  | .fork r a _ => r.length + a.len
def listS : List (Nat × Bool) → Array Bool → Array Bool
  | [], L => L
  | (i, _) :: r, L => listS r (L.setIfInBounds i true)
/-- is a segment in order? (its first operation may be one of two that are ready) -/
def segOk (ops : Array Oper) : Bool → List (Nat × Bool) → Array Bool → Bool
  | _, [], _ => true
  | _, (i, true) :: r, L => (Region.ready .any ops L).contains i && (Region.free .any ops L i && segOk ops false r (L.setIfInBounds i true))
  | ff, (i, false) :: r, L => (ff || (Region.ready .any ops L == [i])) && segOk ops false r (L.setIfInBounds i true)
def headOf : List (Nat × Bool) → Option Nat
  | (i, false) :: _ => some i
  | _ => none
def Tr.ok (ops : Array Oper) : Bool → Tr → Array Bool → Bool
  | ff, .fin r, L => segOk ops ff r L && (Region.ready .any ops (listS r L) == [])
  | ff, .fork r a b, L => segOk ops ff r L && (Nat.beq a.len b.len && (match headOf a.seg, headOf b.seg with
      | some i, some j => Region.ready .any ops (listS r L) == [i, j]
      | _, _ => false) && (a.ok ops true (listS r L) && b.ok ops true (listS r L)))
section
variable {P : Program} {n : Nat} {R : Env → World → Prop} {fr : Fra} {S : World → Prop} {all : Array Oper} {k : List It} {ρ : Env} {dec : List Nat} {w : World}
/-- what is to be shown along a tree -/
def TrAt (P : Program) (n : Nat) (R : Env → World → Prop) (fr : Fra) (S : World → Prop) (all : Array Oper) (k : List It) : Tr → Env → World → Prop
  | .fin r, ρ, w => ∃ l, pickO all.toList r = some l ∧ AtH P n R fr S all l k ρ [] w
  | .fork r a b, ρ, w => ∃ l, pickO all.toList r = some l ∧ AtH P n R fr S all l [.lp fr.2 (fun ρ' w' => S w' ∧ (TrAt P n R fr S all k a ρ' w' ∧ TrAt P n R fr S all k b ρ' w'))] ρ [] w
theorem wpIn_Q {Fc : Fence} {nn : Nat} {o : Oper} {a : Act} {w : World} {K : Act → World → Prop} {Q Q' : Exit → Act → World → Prop} (hp : ∀ c a w, Q (.panic c) a w → Q' (.panic c) a w) (ho : ∀ a w, Q .outgrown a w → Q' .outgrown a w)
    (hh : o.wpIn Fc nn P a w K Q) : o.wpIn Fc nn P a w K Q' := by
  unfold Oper.wpIn at *
  refine ⟨hh.1, ?_⟩
  have hh := hh.2
  have hL : LetsOut Q → LetsOut Q' := fun ⟨a, w, h⟩ => ⟨a, w, ho a w h⟩
  generalize (o.semAt Fc.round a.eval).run P w = r at *
  cases r with
  | ok x w' =>
    cases x <;> simp only [Oper.uponIn] at hh ⊢ <;>
      first
        | exact hh
        | exact ⟨hh.1, CallsIn.mono hh.2 (fun e w'' he => by cases e <;> first | exact he | exact hp _ _ _ he | exact hL he)⟩
        | exact ⟨hh.1, RoundIn.mono hh.2 (fun e w'' he => by cases e <;> first | exact he | exact hp _ _ _ he | exact hL he)⟩
  | halt x w' =>
    cases x <;> simp only [Oper.uponIn] at hh ⊢ <;> first | exact hh | exact hp _ _ _ hh
theorem seg_first (_hnd : noDefer all.toList = true) (_hs : Region.noSelect all = true) {m : Nat} {k' : List It} {i : Nat} {r : List (Nat × Bool)} {L : Array Bool}
    (ih : ∀ (l : List (Oper × Bool)) (ρ : Env) (w : World), pickO all.toList r = some l → (S w ∨ l = []) → AtH P n R fr S all l k' ρ [] w → anyH P fr.1 .any all (Lq P n R fr.1 k) S (r.length + m) (L.setIfInBounds i true) (F fr.2 n ρ) w)
    {l : List (Oper × Bool)} (hp : pickO all.toList ((i, false) :: r) = some l) (hS : S w) (h : AtH P n R fr S all l k' ρ [] w) :
    wpOpIn (fen fr.1) 0 P all (Lq P n R fr.1 k) i (fun a' w' => (S w' ∨ ∀ o, all[i]? = some o → lastOk .any all o = true) ∧ anyH P fr.1 .any all (Lq P n R fr.1 k) S (r.length + m) (L.setIfInBounds i true) a' w') (F fr.2 n ρ) w := by
  simp only [pickO] at hp
  split at hp
  · rename_i o l' ho hl'
    simp only [Option.some.injEq] at hp
    subst hp
    rw [nthO_eq] at ho
    have ho' : all[i]? = some o := by simpa using ho
    unfold wpOpIn
    simp only [ho', want_eq]
    simp only [AtH] at h
    by_cases hw : wantB n ρ all o = true
    · rw [if_pos hw] at h ⊢
      refine Oper.wpIn_mono (fun a' w' h' => ?_) (wpIn_Q (Q := Lq P n R fr.1 k') (Q' := Lq P n R fr.1 k) (fun c a w h => h) (fun a w h => h) h)
      obtain ⟨ρ', rfl, hS', h'⟩ := h'
      rcases hS' with hS' | ⟨rfl, hlast⟩
      · exact ⟨.inl hS', ih l' _ w' hl' (.inl hS') h'⟩
      · exact ⟨.inr fun o' ho'' => by cases ho''; exact hlast, ih [] _ w' hl' (.inr rfl) h'⟩
    · rw [if_neg hw] at h ⊢
      rw [F_put]
      exact ⟨fun _ _ => trivial, .inl hS, ih l' _ w hl' (.inl hS) h⟩
  · cases hp
theorem seg_run (hnd : noDefer all.toList = true) (hs : Region.noSelect all = true) {m : Nat} {k' : List It} {fin : Array Bool} (hk : ∀ ρ w, (dn P n R fr.1 k').N fr.2 ρ w → anyH P fr.1 .any all (Lq P n R fr.1 k) S m fin (F fr.2 n ρ) w) :
    ∀ (r : List (Nat × Bool)) (l : List (Oper × Bool)) (L : Array Bool) (ρ : Env) (w : World), pickO all.toList r = some l → segOk all false r L = true → listS r L = fin → (S w ∨ l = []) →
      AtH P n R fr S all l k' ρ [] w → anyH P fr.1 .any all (Lq P n R fr.1 k) S (r.length + m) L (F fr.2 n ρ) w := by
  intro r
  induction r with
  | nil =>
    intro l L ρ w hp _ hf _ h
    simp only [pickO, Option.some.injEq] at hp
    subst hp
    simp only [listS] at hf
    subst hf
    have := hk ρ w h
    simpa using this
  | cons p r ih =>
    obtain ⟨i, q⟩ := p
    intro l L ρ w hp hc hf hS h
    have hpp := hp
    simp only [pickO] at hp
    split at hp
    · rename_i o l' ho hl'
      simp only [Option.some.injEq] at hp
      subst hp
      have hS0 : S w := hS.resolve_right fun e => by cases e
      rw [nthO_eq] at ho
      have ho' : all[i]? = some o := by simpa using ho
      rw [show ((i, q) :: r).length + m = (r.length + m) + 1 by simp; omega]
      cases q with
      | true =>
        simp only [segOk, Bool.and_eq_true] at hc
        obtain ⟨v, hy, h⟩ := h
        refine anyH_take hnd ho' hs hc.2.1 hc.1 (fun c a w h => lq_panic _ _ c a w h) hy hS0 ?_
        rw [F_put]
        exact ih l' _ _ w hl' hc.2.2 hf (.inl hS0) h
      | false =>
        simp only [segOk, Bool.false_or, Bool.and_eq_true, beq_iff_eq] at hc
        refine anyH_all hc.1 (by simp) fun j hj => ?_
        have hj : j = i := by simpa using hj
        subst hj
        exact seg_first hnd hs (fun l ρ w hl hS' h => ih l _ ρ w hl hc.2 hf hS' h) hpp hS0 h
    · cases hp
theorem tr_sound (hnd : noDefer all.toList = true) (hs : Region.noSelect all = true) : ∀ (t : Tr) (L : Array Bool) (ρ : Env) (w : World), S w → TrAt P n R fr S all k t ρ w →
    (t.ok all false L = true → anyH P fr.1 .any all (Lq P n R fr.1 k) S t.len L (F fr.2 n ρ) w) ∧
    (∀ i, t.ok all true L = true → headOf t.seg = some i → wpOpIn (fen fr.1) 0 P all (Lq P n R fr.1 k) i (fun a' w' => (S w' ∨ ∀ o, all[i]? = some o → lastOk .any all o = true) ∧ anyH P fr.1 .any all (Lq P n R fr.1 k) S (t.len - 1) (L.setIfInBounds i true) a' w') (F fr.2 n ρ) w) := by
  have head : ∀ {r : List (Nat × Bool)} {i : Nat}, headOf r = some i → ∃ r', r = (i, false) :: r' := by
    intro r i h
    unfold headOf at h
    split at h
    · cases h; exact ⟨_, rfl⟩
    · cases h
  intro t
  induction t with
  | fin r =>
    intro L ρ w hS ⟨l, hl, h⟩
    refine ⟨fun hc => ?_, fun i hc hh => ?_⟩
    · simp only [Tr.ok, Bool.and_eq_true, beq_iff_eq] at hc
      have := seg_run (m := 0) (k' := k) (k := k) hnd hs (fun ρ w h => anyH_done hc.2 ⟨ρ, _, rfl, h⟩ 0) r l L ρ w hl hc.1 rfl (.inl hS) h
      simpa [Tr.len] using this
    · obtain ⟨r', rfl⟩ := head hh
      simp only [Tr.ok, segOk, Bool.true_or, Bool.true_and, Bool.and_eq_true, beq_iff_eq] at hc
      have := seg_first (m := 0) (k' := k) (k := k) (L := L) hnd hs (fun l ρ w hl hS' h => seg_run hnd hs (fun ρ w h => anyH_done hc.2 ⟨ρ, _, rfl, h⟩ 0) r' l _ ρ w hl hc.1 rfl hS' h) hl hS h
      simpa [Tr.len] using this
  | fork r a b iha ihb =>
    intro L ρ w hS ⟨l, hl, h⟩
    have fork : ∀ fin, Nat.beq a.len b.len = true → (match headOf a.seg, headOf b.seg with
      | some i, some j => Region.ready .any all fin == [i, j]
      | _, _ => false) = true → a.ok all true fin = true → b.ok all true fin = true →
        ∀ ρ w, (dn P n R fr.1 [.lp fr.2 (fun ρ' w' => S w' ∧ (TrAt P n R fr S all k a ρ' w' ∧ TrAt P n R fr S all k b ρ' w'))]).N fr.2 ρ w → anyH P fr.1 .any all (Lq P n R fr.1 k) S a.len fin (F fr.2 n ρ) w := by
      rintro fin hlen hm ha hb ρ w ⟨_, hS, ta, tb⟩
      have hlen := Nat.eq_of_beq_eq_true hlen
      split at hm
      · rename_i i j hi hj
        have hpos : 0 < a.len := by
          obtain ⟨r', hr'⟩ := head hi
          cases a with
          | fin r => simp only [Tr.seg] at hr'; subst hr'; simp [Tr.len]
          | fork r x y => simp only [Tr.seg] at hr'; subst hr'; simp [Tr.len]; omega
        rw [show a.len = (a.len - 1) + 1 by omega]
        refine anyH_all (by simpa using hm) (by simp) fun x hx => ?_
        simp only [List.mem_cons, List.not_mem_nil, or_false] at hx
        rcases hx with rfl | rfl
        · exact (iha fin ρ w hS ta).2 _ ha hi
        · rw [hlen]
          exact (ihb fin ρ w hS tb).2 _ hb hj
      · cases hm
    refine ⟨fun hc => ?_, fun i hc hh => ?_⟩
    · simp only [Tr.ok, Bool.and_eq_true] at hc
      exact seg_run (m := a.len) hnd hs (fork _ hc.2.1.1 hc.2.1.2 hc.2.2.1 hc.2.2.2) r l L ρ w hl hc.1 rfl (.inl hS) h
    · obtain ⟨r', rfl⟩ := head hh
      simp only [Tr.ok, segOk, Bool.true_or, Bool.true_and, Bool.and_eq_true] at hc
      have := seg_first (m := a.len) (L := L) hnd hs (fun l ρ w hl hS' h => seg_run hnd hs (fork _ hc.2.1.1 hc.2.1.2 hc.2.2.1 hc.2.2.2) r' l _ ρ w hl hc.1 rfl hS' h) hl hS h
      have e : (Tr.fork ((i, false) :: r') a b).len - 1 = r'.length + a.len := by simp only [Tr.len, List.length_cons]; omega
      rw [e]
      exact this
def drawTOk (ops : Array Oper) (t : Tr) : Bool := noDefer ops.toList && (Region.noSelect ops && (Nat.beq t.len ops.size && t.ok ops false (Array.replicate ops.size false)))
/-- a drawn region whose order forks -/
theorem drawT (hm : P.follows .mixedOrders = true) (S : World → Prop) (t : Tr) {id : Nat} {ops all0 : Array Oper} (hk : drawTOk ops t = true) (hS : S w.drew) (h : TrAt P n R fr S ops k t ρ w.drew) : At P n R fr all0 [] (.code (.region id ops true) :: k) ρ dec w := by
  show (Code.region id ops true).wpIn (fen fr.1) 0 P (Lq P n R fr.1 k) (F fr.2 n ρ) w
  refine region_held (S := S) hm ?_
  simp only [drawTOk, Bool.and_eq_true] at hk
  obtain ⟨hnd, hs, hlen, hc⟩ := hk
  have := (tr_sound hnd hs t _ ρ w.drew hS h).1 hc
  rw [Nat.eq_of_beq_eq_true hlen] at this
  exact this
theorem pinsOf : ∀ (s : List Nat) (vs : List Value) (ρ : Env), vs.length = s.length → s.map ρ = vs → Pins (s.zip vs) ρ := by
  intro s
  induction s with
  | nil => intro vs ρ hl h; cases vs <;> trivial
  | cons i s ih =>
    intro vs ρ hl h
    cases vs with
    | nil => simp at hl
    | cons v vs =>
      simp only [List.map_cons, List.cons.injEq] at h
      exact ⟨h.1, ih vs ρ (by simpa using hl) h.2⟩
/-- what comes out of a piece of code, told once: its ways join -/
theorem join {α : Type} {c : Code} (s : List Nat) (V : α → List Value) (I : α → World → Prop) (hlen : ∀ x, (V x).length = s.length)
    (h1 : At P n R fr #[] [] (.code c :: .lp fr.2 (fun ρ' w' => ∃ y, s.map ρ' = V y ∧ I y w') :: k) ρ dec w)
    (h2 : ∀ y τ w, I y w → At P n R fr #[] [] k (pin (s.zip (V y)) τ) [] w) {all0 : Array Oper} : At P n R fr all0 [] (.code c :: k) ρ dec w := by
  show c.wpIn (fen fr.1) 0 P (Lq P n R fr.1 k) (F fr.2 n ρ) w
  refine wpIn_mono (c := c) h1 ?_
  intro e a' w' h'
  cases e with
  | normal =>
    obtain ⟨ρ', ds', rfl, rfl, y, g1, g2⟩ := h'
    refine ⟨ρ', _, rfl, ?_⟩
    have hb := h2 y ρ' w' g2
    rw [pin_of (pinsOf s (V y) ρ' (hlen y) g1)] at hb
    exact hb
  | exit id => exact h'
  | goto l => exact h'
  | ret => exact h'
  | panic c => exact h'
  | outgrown => exact h'
/-- a segment begins -/
theorem segF {r : List (Nat × Bool)} {l : List (Oper × Bool)} (hl : pickO all.toList r = some l) (h : AtH P n R fr S all l k ρ [] w) : TrAt P n R fr S all k (.fin r) ρ w := ⟨l, hl, h⟩
theorem segK {r : List (Nat × Bool)} {a b : Tr} {l : List (Oper × Bool)} (hl : pickO all.toList r = some l) (h : AtH P n R fr S all l [.lp fr.2 (fun ρ' w' => S w' ∧ (TrAt P n R fr S all k a ρ' w' ∧ TrAt P n R fr S all k b ρ' w'))] ρ [] w) : TrAt P n R fr S all k (.fork r a b) ρ w := ⟨l, hl, h⟩
/-- the end of a segment: both goes on -/
theorem forkK {a b : Tr} (hS : S w) (ha : TrAt P n R fr S all k a ρ w) (hb : TrAt P n R fr S all k b ρ w) : AtH P n R fr S all [] [.lp fr.2 (fun ρ' w' => S w' ∧ (TrAt P n R fr S all k a ρ' w' ∧ TrAt P n R fr S all k b ρ' w'))] ρ dec w := ⟨rfl, hS, ha, hb⟩
end
end Go.Ev
