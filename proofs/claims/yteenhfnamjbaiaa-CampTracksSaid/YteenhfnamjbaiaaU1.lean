/- Plain laws of scanners (layer 9): states that are equal in effect; the least scanner. No walk in it. -/
import Derived.Test.YteenhfnamjbaiaaSM
namespace Go.Camp
/-- the alarms that a scanner gives from a state on -/
def runS (s : Sc) : Nat → List Bool → List Bool
 | _, [] => []
 | x, c :: cs => alC s x c :: runS s (nxC s x c) cs
/-- where a scanner comes to -/
def desS (s : Sc) : Nat → List Bool → Nat
 | x, [] => x
 | x, c :: cs => desS s (nxC s x c) cs
theorem runS_len (s : Sc) : ∀ (cs : List Bool) (x : Nat), (runS s x cs).length = cs.length := by
 intro cs
 induction cs with
 | nil => intro x; rfl
 | cons c cs ih => intro x; simp [runS, ih]
theorem runS_snoc (s : Sc) : ∀ (cs : List Bool) (x : Nat) (c : Bool), runS s x (cs ++ [c]) = runS s x cs ++ [alC s (desS s x cs) c] := by
 intro cs
 induction cs with
 | nil => intro x c; rfl
 | cons d cs ih => intro x c; simp [runS, desS, ih]
theorem desS_snoc (s : Sc) : ∀ (cs : List Bool) (x : Nat) (c : Bool), desS s x (cs ++ [c]) = nxC s (desS s x cs) c := by
 intro cs
 induction cs with
 | nil => intro x c; rfl
 | cons d cs ih => intro x c; simp [desS, ih]
/-- two states are equal in effect -/
def Eq2 (a b : Sc) (x y : Nat) : Prop := ∀ cs, runS a x cs = runS b y cs
theorem Eq2.refl (a : Sc) (x : Nat) : Eq2 a a x x := fun _ => rfl
theorem Eq2.symm {a b : Sc} {x y : Nat} (h : Eq2 a b x y) : Eq2 b a y x := fun cs => (h cs).symm
theorem Eq2.trans {a b c : Sc} {x y z : Nat} (h : Eq2 a b x y) (k : Eq2 b c y z) : Eq2 a c x z := fun cs => (h cs).trans (k cs)
theorem Eq2.al {a b : Sc} {x y : Nat} (h : Eq2 a b x y) (c : Bool) : alC a x c = alC b y c := by
 have := h [c]
 simpa [runS] using this
theorem Eq2.nx {a b : Sc} {x y : Nat} (h : Eq2 a b x y) (c : Bool) : Eq2 a b (nxC a x c) (nxC b y c) := fun cs => by
 have := h (c :: cs)
 simp only [runS, List.cons.injEq] at this
 exact this.2
theorem Eq2.des {a b : Sc} : ∀ (cs : List Bool) {x y : Nat}, Eq2 a b x y → Eq2 a b (desS a x cs) (desS b y cs) := by
 intro cs
 induction cs with
 | nil => intro x y h; exact h
 | cons c cs ih => intro x y h; exact ih (h.nx c)
theorem bisim {a b : Sc} {R : Nat → Nat → Prop} (hR : ∀ x y, R x y → ∀ c, alC a x c = alC b y c ∧ R (nxC a x c) (nxC b y c)) {x y : Nat} (h : R x y) : Eq2 a b x y := by
 intro cs
 induction cs generalizing x y with
 | nil => rfl
 | cons c cs ih =>
  obtain ⟨h1, h2⟩ := hR x y h c
  simp only [runS, h1, ih h2]
theorem Eq2.al2 {a b : Sc} {x y : Nat} (h : Eq2 a b x y) : alA a x = alA b y := by
 have h0 := h.al false
 have h1 := h.al true
 unfold alC at h0 h1
 simp at h0 h1
 exact Prod.ext h0 h1
theorem Eq2.n1 {a b : Sc} {x y : Nat} (h : Eq2 a b x y) : Eq2 a b (nxA a x).1 (nxA b y).1 := h.nx false
theorem Eq2.n2 {a b : Sc} {x y : Nat} (h : Eq2 a b x y) : Eq2 a b (nxA a x).2 (nxA b y).2 := h.nx true
/-- a table of which states are equal in effect -/
def EqT (s : Sc) (E : Nat → Nat → Bool) : Prop := ∀ x y, x < s.nx.length → y < s.nx.length → (E x y = true ↔ Eq2 s s x y)
theorem exists_eqT (s : Sc) : ∃ E, EqT s E := ⟨fun x y => @decide _ (Classical.propDecidable (Eq2 s s x y)), fun x y _ _ => by simp⟩
def ixE (E : Nat → Nat → Bool) (l : List Nat) (x : Nat) : Nat := l.findIdx fun y => E y x
def addE (E : Nat → Nat → Bool) (l : List Nat) (x : Nat) : List Nat := if ixE E l x = l.length then l ++ [x] else l
def ddE (E : Nat → Nat → Bool) (l : List Nat) : List Nat := l.foldl (addE E) []
abbrev Cov (E : Nat → Nat → Bool) (l : List Nat) (x : Nat) : Prop := ∃ y ∈ l, E y x = true
section
variable {E : Nat → Nat → Bool} {l r : List Nat} {x : Nat}
theorem ixE_lt : ixE E l x < l.length ↔ Cov E l x := List.findIdx_lt_length
theorem ixE_le : ixE E l x ≤ l.length := List.findIdx_le_length
theorem addE_pos (h : Cov E l x) : addE E l x = l := by
 unfold addE
 rw [if_neg]
 have := ixE_lt.2 h
 omega
theorem addE_neg (h : ¬ Cov E l x) : addE E l x = l ++ [x] := by
 unfold addE
 rw [if_pos]
 have h1 := ixE_le (E := E) (l := l) (x := x)
 have h2 : ¬ ixE E l x < l.length := fun h' => h (ixE_lt.1 h')
 omega
theorem addE_pre : l <+: addE E l x := by
 unfold addE
 split
 ·exact List.prefix_append _ _
 ·exact List.prefix_rfl
theorem cov_pre (h : l <+: r) (hc : Cov E l x) : Cov E r x := by
 obtain ⟨y, hy, e⟩ := hc
 exact ⟨y, h.subset hy, e⟩
theorem ixE_pre (h : l <+: r) (hc : Cov E l x) : ixE E r x = ixE E l x := by
 obtain ⟨t, rfl⟩ := h
 unfold ixE
 rw [List.findIdx_append, if_pos]
 exact List.findIdx_lt_length.2 hc
theorem addE_cov (hx : E x x = true) : Cov E (addE E l x) x := by
 by_cases h : Cov E l x
 ·rw [addE_pos h]; exact h
 ·rw [addE_neg h]; exact ⟨x, by simp, hx⟩
theorem addE_ix (hx : E x x = true) : ixE E (addE E l x) x = ixE E l x := by
 by_cases h : Cov E l x
 ·rw [addE_pos h]
 ·rw [addE_neg h]
  unfold ixE
  have h1 := ixE_le (E := E) (l := l) (x := x)
  have h2 : ¬ ixE E l x < l.length := fun h' => h (ixE_lt.1 h')
  have h3 : ixE E l x = l.length := by omega
  unfold ixE at h2 h3
  rw [List.findIdx_append, if_neg h2, h3]
  simp [hx]
theorem addE_mem {y : Nat} (h : y ∈ addE E l x) : y ∈ l ∨ y = x := by
 unfold addE at h
 split at h
 ·simpa using h
 ·exact .inl h
theorem ixE_get (h : Cov E l x) : ∃ y, l[ixE E l x]? = some y ∧ E y x = true := by
 have h1 := ixE_lt.2 h
 exact ⟨l[ixE E l x], List.getElem?_eq_getElem h1, List.findIdx_getElem (p := fun y => E y x) (w := h1)⟩
end
theorem ddE_snoc (E : Nat → Nat → Bool) (l : List Nat) (x : Nat) : ddE E (l ++ [x]) = addE E (ddE E l) x := by simp [ddE, List.foldl_append]
theorem ddE_ind (E : Nat → Nat → Bool) (P : List Nat → List Nat → Prop) (h0 : P [] []) (hs : ∀ l d x, P l d → P (l ++ [x]) (addE E d x)) (l : List Nat) : P l (ddE E l) := by
 have h : ∀ l : List Nat, P l.reverse (ddE E l.reverse) := by
  intro l
  induction l with
  | nil => exact h0
  | cons k l ih => rw [List.reverse_cons, ddE_snoc]; exact hs _ _ _ ih
 have := h l.reverse
 rwa [List.reverse_reverse] at this
theorem ddE_sub (E : Nat → Nat → Bool) (l : List Nat) : ∀ y ∈ ddE E l, y ∈ l := by
 refine ddE_ind E (fun l d => ∀ y ∈ d, y ∈ l) (fun y h => h) (fun l d x ih y hy => ?_) l
 rcases addE_mem hy with h | rfl
 ·exact List.mem_append_left _ (ih y h)
 ·simp
theorem ddE_len (E : Nat → Nat → Bool) (l : List Nat) : (ddE E l).length ≤ l.length := by
 refine ddE_ind E (fun l d => d.length ≤ l.length) (Nat.le_refl _) (fun l d x ih => ?_) l
 unfold addE
 split <;> simp <;> omega
theorem ddE_pre (E : Nat → Nat → Bool) (l : List Nat) : ∀ r, ddE E l <+: ddE E (l ++ r) := by
 intro r
 unfold ddE
 rw [List.foldl_append]
 generalize l.foldl (addE E) [] = d
 induction r generalizing d with
 | nil => exact List.prefix_rfl
 | cons x r ih => exact addE_pre.trans (ih _)
theorem ddE_cov {E : Nat → Nat → Bool} {l : List Nat} (hr : ∀ x ∈ l, E x x = true) : ∀ x ∈ l, Cov E (ddE E l) x := by
 have := ddE_ind E (fun l d => (∀ x ∈ l, E x x = true) → ∀ x ∈ l, Cov E d x) (fun _ x h => by cases h) (fun l d x ih hr y hy => ?_) l
 ·exact this hr
 ·rcases List.mem_append.1 hy with h | h
  ·exact cov_pre addE_pre (ih (fun z hz => hr z (List.mem_append_left _ hz)) y h)
  ·simp at h
   subst h
   exact addE_cov (hr y (by simp))
/-- no two of them are equal in effect -/
theorem ddE_apart (E : Nat → Nat → Bool) (l : List Nat) : ∀ (i j x y : Nat), i < j → (ddE E l)[i]? = some x → (ddE E l)[j]? = some y → E x y = false := by
 refine ddE_ind E (fun _ d => ∀ (i j x y : Nat), i < j → d[i]? = some x → d[j]? = some y → E x y = false) (fun i j x y _ h => by simp at h) (fun l d z ih i j x y hij hx hy => ?_) l
 by_cases h : Cov E d z
 ·rw [addE_pos h] at hx hy; exact ih i j x y hij hx hy
 ·rw [addE_neg h] at hx hy
  have hj := (List.getElem?_eq_some_iff.1 hy).1
  simp at hj
  rw [List.getElem?_append_left (by omega)] at hx
  rcases Nat.lt_or_ge j d.length with h' | h'
  ·rw [List.getElem?_append_left h'] at hy
   exact ih i j x y hij hx hy
  ·obtain rfl : j = d.length := by omega
   simp at hy
   subst hy
   cases he : E x z with
   | false => rfl
   | true => exact absurd ⟨x, List.mem_of_getElem? hx, he⟩ h
/-- the least scanner, as the document builds it -/
def rsR (s : Sc) (E : Nat → Nat → Bool) : Nat → Nat → List Nat → List (Int × Int) → List (Bool × Bool) → Sc
 | 0, _, _, N, O => ⟨N, O⟩
 | f + 1, i, l, N, O => match l[i]? with
  | none => ⟨N, O⟩
  | some x => rsR s E f (i + 1) (addE E (addE E l (nxA s x).1) (nxA s x).2) (N ++ [(((ixE E l (nxA s x).1 : Nat) : Int), ((ixE E (addE E l (nxA s x).1) (nxA s x).2 : Nat) : Int))]) (O ++ [alA s x])
def rsP (s : Sc) (E : Nat → Nat → Bool) : Sc := rsR s E s.nx.length 0 [0] [] []
def rfR (s : Sc) (E : Nat → Nat → Bool) : Nat → Nat → List Nat → List Nat
 | 0, _, l => l
 | f + 1, i, l => match l[i]? with
  | none => l
  | some x => rfR s E f (i + 1) (addE E (addE E l (nxA s x).1) (nxA s x).2)
def valE (s : Sc) (E : Nat → Nat → Bool) (D : List Nat) (x : Nat) : Int × Int := (((ixE E D (nxA s x).1 : Nat) : Int), ((ixE E D (nxA s x).2 : Nat) : Int))
/-- the least scanner -/
def canS (s : Sc) (E : Nat → Nat → Bool) (D : List Nat) : Sc := ⟨D.map (valE s E D), D.map (alA s)⟩
section
variable {s : Sc} {E : Nat → Nat → Bool}
theorem eqT_refl (hE : EqT s E) {x : Nat} (hx : x < s.nx.length) : E x x = true := (hE x x hx hx).2 (Eq2.refl s x)
theorem amE_add (hE : EqT s E) {l : List Nat} (h : Among s.nx.length l) {k : Nat} (hk : k < s.nx.length) : Among s.nx.length (addE E l k) := by
 by_cases hc : Cov E l k
 ·rw [addE_pos hc]; exact h
 ·rw [addE_neg hc]
  have hn : k ∉ l := fun hm => hc ⟨k, hm, eqT_refl hE hk⟩
  have := h.add hk
  unfold addN at this
  rwa [if_neg hn] at this
theorem rfR_none {f i : Nat} {l : List Nat} (h : l.length ≤ i) : rfR s E f i l = l := by
 cases f with
 | zero => rfl
 | succ f => unfold rfR; rw [List.getElem?_eq_none h]
theorem rsR_can (h : ScOk s) (hE : EqT s E) : ∀ (f i : Nat) (l : List Nat) (N : List (Int × Int)) (O : List (Bool × Bool)), Among s.nx.length l → s.nx.length ≤ i + f → i ≤ l.length → (∀ x ∈ l.take i, Cov E l (nxA s x).1 ∧ Cov E l (nxA s x).2) →
  N = (l.take i).map (valE s E l) → O = (l.take i).map (alA s) → rsR s E f i l N O = canS s E (rfR s E f i l) := by
 intro f
 induction f with
 | zero =>
  intro i l N O hl hf hi _ hN hO
  have := hl.len
  obtain rfl : i = l.length := by omega
  rw [List.take_length] at hN hO
  subst hN; subst hO
  rfl
 | succ f ih =>
  intro i l N O hl hf hi hc hN hO
  cases hx : l[i]? with
  | none =>
   have : l.length ≤ i := List.getElem?_eq_none_iff.1 hx
   obtain rfl : i = l.length := by omega
   rw [List.take_length] at hN hO
   subst hN; subst hO
   unfold rsR rfR
   rw [hx]
   rfl
  | some x =>
   unfold rsR rfR
   rw [hx]
   simp only
   obtain ⟨hilt, _⟩ := List.getElem?_eq_some_iff.1 hx
   obtain ⟨x1, x2⟩ := nxA_lt h x
   have r1 := eqT_refl hE x1
   have r2 := eqT_refl hE x2
   obtain ⟨l1, hl1⟩ : ∃ l1, l1 = addE E l (nxA s x).1 := ⟨_, rfl⟩
   obtain ⟨l2, hl2⟩ : ∃ l2, l2 = addE E l1 (nxA s x).2 := ⟨_, rfl⟩
   rw [← hl1, ← hl2]
   have p1 : l <+: l1 := hl1 ▸ addE_pre
   have p2 : l1 <+: l2 := hl2 ▸ addE_pre
   have c1 : Cov E l1 (nxA s x).1 := hl1 ▸ addE_cov r1
   have c2 : Cov E l2 (nxA s x).2 := hl2 ▸ addE_cov r2
   have e1 : ixE E l2 (nxA s x).1 = ixE E l (nxA s x).1 := by rw [ixE_pre p2 c1, hl1, addE_ix r1]
   have e2 : ixE E l2 (nxA s x).2 = ixE E l1 (nxA s x).2 := by rw [hl2, addE_ix r2]
   have a2 : Among s.nx.length l2 := by
    rw [hl2, hl1]
    exact amE_add hE (amE_add hE hl x1) x2
   have hlen := (p1.trans p2).length_le
   have htk : l2.take (i + 1) = l.take i ++ [x] := by
    obtain ⟨t, ht⟩ := p1.trans p2
    rw [← ht, List.take_append_of_le_length (by omega), List.take_add_one, hx]
    rfl
   refine ih (i + 1) l2 _ _ a2 (by omega) (by omega) (fun y hy => ?_) ?_ ?_
   ·rw [htk] at hy
    rcases List.mem_append.1 hy with hy | hy
    ·exact ⟨cov_pre (p1.trans p2) (hc y hy).1, cov_pre (p1.trans p2) (hc y hy).2⟩
    ·simp at hy
     subst hy
     exact ⟨cov_pre p2 c1, c2⟩
   ·rw [htk, List.map_append, hN]
    congr 1
    ·refine List.map_congr_left fun y hy => ?_
     unfold valE
     rw [ixE_pre (p1.trans p2) (hc y hy).1, ixE_pre (p1.trans p2) (hc y hy).2]
    ·simp only [List.map_cons, List.map_nil, valE]
     rw [e1, e2]
   ·rw [htk, List.map_append, hO]
    rfl
/-- the states that are reached, in their order, one of each class -/
theorem reach_dd (h : ScOk s) (hE : EqT s E) : ∀ (f i : Nat) (l : List Nat) (f' : Nat), Among s.nx.length l → s.nx.length ≤ i + f → i ≤ l.length → (∀ x ∈ l.take i, (nxA s x).1 ∈ l ∧ (nxA s x).2 ∈ l) → s.nx.length ≤ (ddE E (l.take i)).length + f' →
  ddE E (reachR s f i l) = rfR s E f' (ddE E (l.take i)).length (ddE E l) ∧ l <+: reachR s f i l ∧ ∀ x ∈ reachR s f i l, (nxA s x).1 ∈ reachR s f i l ∧ (nxA s x).2 ∈ reachR s f i l := by
 intro f
 induction f with
 | zero =>
  intro i l f' hl hf hi hc _
  have := hl.len
  obtain rfl : i = l.length := by omega
  rw [List.take_length] at hc ⊢
  exact ⟨(rfR_none (Nat.le_refl _)).symm, List.prefix_rfl, hc⟩
 | succ f ih =>
  intro i l f' hl hf hi hc hf'
  cases hx : l[i]? with
  | none =>
   have : l.length ≤ i := List.getElem?_eq_none_iff.1 hx
   obtain rfl : i = l.length := by omega
   rw [List.take_length] at hc ⊢
   unfold reachR
   rw [hx]
   exact ⟨(rfR_none (Nat.le_refl _)).symm, List.prefix_rfl, hc⟩
  | some x =>
   unfold reachR
   rw [hx]
   simp only
   obtain ⟨hilt, _⟩ := List.getElem?_eq_some_iff.1 hx
   have hxm := List.mem_of_getElem? hx
   have hxn := hl.lt x hxm
   obtain ⟨x1, x2⟩ := nxA_lt h x
   have addN_pre : ∀ (l : List Nat) (k : Nat), l <+: addN l k := fun l k => by
    unfold addN
    split
    ·exact List.prefix_rfl
    ·exact List.prefix_append _ _
   have addN_mem : ∀ (l : List Nat) (k : Nat), k ∈ addN l k := fun l k => by
    unfold addN
    split
    ·assumption
    ·simp
   have dd_add : ∀ (l : List Nat), Among s.nx.length l → ∀ k, k < s.nx.length → ddE E (addN l k) = addE E (ddE E l) k := fun l hl k hk => by
    unfold addN
    split
    ·rename_i hm
     exact (addE_pos (ddE_cov (fun z hz => eqT_refl hE (hl.lt z hz)) k hm)).symm
    ·exact ddE_snoc E l k
   have am1 : Among s.nx.length (addN l (nxA s x).1) := hl.add x1
   have am2 : Among s.nx.length (addN (addN l (nxA s x).1) (nxA s x).2) := am1.add x2
   have hd2 : ddE E (addN (addN l (nxA s x).1) (nxA s x).2) = addE E (addE E (ddE E l) (nxA s x).1) (nxA s x).2 := by
    rw [dd_add _ am1 _ x2, dd_add _ hl _ x1]
   have p2 : l <+: addN (addN l (nxA s x).1) (nxA s x).2 := (addN_pre _ _).trans (addN_pre _ _)
   have m1 : (nxA s x).1 ∈ addN (addN l (nxA s x).1) (nxA s x).2 := (addN_pre _ _).subset (addN_mem _ _)
   have m2 : (nxA s x).2 ∈ addN (addN l (nxA s x).1) (nxA s x).2 := addN_mem _ _
   generalize addN (addN l (nxA s x).1) (nxA s x).2 = l2 at *
   have hlen := p2.length_le
   have htk : l2.take (i + 1) = l.take i ++ [x] := by
    obtain ⟨t, ht⟩ := p2
    rw [← ht, List.take_append_of_le_length (by omega), List.take_add_one, hx]
    rfl
   have htk1 : l.take (i + 1) = l.take i ++ [x] := by rw [List.take_add_one, hx]; rfl
   have hc2 : ∀ y ∈ l2.take (i + 1), (nxA s y).1 ∈ l2 ∧ (nxA s y).2 ∈ l2 := fun y hy => by
    rw [htk] at hy
    rcases List.mem_append.1 hy with hy | hy
    ·exact ⟨p2.subset (hc y hy).1, p2.subset (hc y hy).2⟩
    ·simp at hy
     subst hy
     exact ⟨m1, m2⟩
   by_cases hcv : Cov E (ddE E (l.take i)) x
   ·obtain ⟨y, hy, hyx⟩ := hcv
    have hyt := ddE_sub E _ y hy
    have hyn := hl.lt y (List.mem_of_mem_take hyt)
    have hq := (hE y x hyn hxn).1 hyx
    have hcl := ddE_cov (E := E) (l := l) (fun z hz => eqT_refl hE (hl.lt z hz))
    have cv : ∀ u v, u ∈ l → v < s.nx.length → Eq2 s s u v → Cov E (ddE E l) v := fun u v hu hv hq => by
     obtain ⟨z, hz, hzu⟩ := hcl u hu
     have hzn := hl.lt z (ddE_sub E _ z hz)
     exact ⟨z, hz, (hE z v hzn hv).2 (((hE z u hzn (hl.lt u hu)).1 hzu).trans hq)⟩
    have k1 := cv _ _ (hc y hyt).1 x1 hq.n1
    have k2 := cv _ _ (hc y hyt).2 x2 hq.n2
    have hd3 : ddE E l2 = ddE E l := by rw [hd2, addE_pos k1, addE_pos k2]
    have ht3 : ddE E (l2.take (i + 1)) = ddE E (l.take i) := by rw [htk, ddE_snoc]; exact addE_pos ⟨y, hy, hyx⟩
    obtain ⟨g1, g2, g3⟩ := ih (i + 1) l2 f' am2 (by omega) (by omega) hc2 (by rw [ht3]; exact hf')
    rw [ht3, hd3] at g1
    exact ⟨g1, p2.trans g2, g3⟩
   ·have ht3 : ddE E (l2.take (i + 1)) = ddE E (l.take i) ++ [x] := by rw [htk, ddE_snoc]; exact addE_neg hcv
    have hpre : ddE E (l.take i) ++ [x] <+: ddE E l := by
     have := ddE_pre E (l.take (i + 1)) (l.drop (i + 1))
     rw [List.take_append_drop, htk1, ddE_snoc, addE_neg hcv] at this
     exact this
    have hget : (ddE E l)[(ddE E (l.take i)).length]? = some x := by
     obtain ⟨t, ht⟩ := hpre
     rw [← ht]
     simp
    have hdl := ddE_len E l
    have hln := hl.len
    have hlt := (List.getElem?_eq_some_iff.1 hget).1
    cases f' with
    | zero => omega
    | succ f' =>
    obtain ⟨g1, g2, g3⟩ := ih (i + 1) l2 f' am2 (by omega) (by omega) hc2 (by rw [ht3]; simp; omega)
    refine ⟨?_, p2.trans g2, g3⟩
    rw [g1, ht3, hd2]
    conv => rhs; unfold rfR
    rw [hget]
    simp
end
/-- what is reached: closed, begins with 0; its classes are what the document finds -/
theorem reachP_dd {s : Sc} {E : Nat → Nat → Bool} (h : ScOk s) (hE : EqT s E) : ddE E (reachP s) = rfR s E s.nx.length 0 [0] ∧ (reachP s)[0]? = some 0 ∧ ∀ x ∈ reachP s, (nxA s x).1 ∈ reachP s ∧ (nxA s x).2 ∈ reachP s := by
 have n1 := h.n1
 have ham : Among s.nx.length [0] := ⟨by simp, fun x hx => by simp at hx; omega⟩
 obtain ⟨g1, g2, g3⟩ := reach_dd h hE s.nx.length 0 [0] s.nx.length ham (by omega) (by simp) (fun x hx => by simp at hx) (by simp [ddE])
 refine ⟨?_, ?_, g3⟩
 ·have e : ddE E [0] = [0] := by simp [ddE, addE, ixE]
  rw [e] at g1
  exact g1
 ·obtain ⟨t, ht⟩ := g2
  have ht : [0] ++ t = reachP s := ht
  rw [← ht]
  rfl
theorem rsP_can {s : Sc} {E : Nat → Nat → Bool} (h : ScOk s) (hE : EqT s E) : rsP s E = canS s E (ddE E (reachP s)) := by
 have n1 := h.n1
 rw [(reachP_dd h hE).1]
 exact rsR_can h hE _ _ _ _ _ ⟨by simp, fun x hx => by simp at hx; omega⟩ (by omega) (by simp) (fun x hx => by simp at hx) rfl rfl
end Go.Camp
