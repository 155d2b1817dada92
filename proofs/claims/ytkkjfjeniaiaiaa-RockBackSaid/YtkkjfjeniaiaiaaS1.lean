/- Rays through rock, plainly: ticks, crossings, pieces, cuts. No program in sight. -/
namespace Go.Rock
structure Vo where
  (nx ny nz sz : Int)
structure Ra where
  (x y z dx dy dz : Int)
structure Pc where
  (c a u : Int)
  deriving DecidableEq
def VoOk (v : Vo) : Prop := (1 ≤ v.nx ∧ v.nx ≤ 12) ∧ (1 ≤ v.ny ∧ v.ny ≤ 12) ∧ (1 ≤ v.nz ∧ v.nz ≤ 12) ∧ v.nx * v.ny * v.nz ≤ 600 ∧ (1 ≤ v.sz ∧ v.sz ≤ 1000)
def RaOk (r : Ra) : Prop := (-100000 ≤ r.x ∧ r.x ≤ 100000) ∧ (-100000 ≤ r.y ∧ r.y ≤ 100000) ∧ (-100000 ≤ r.z ∧ r.z ≤ 100000) ∧ (-60 ≤ r.dx ∧ r.dx ≤ 60) ∧ (-60 ≤ r.dy ∧ r.dy ≤ 60) ∧ (-60 ≤ r.dz ∧ r.dz ≤ 60) ∧ (r.dx ≠ 0 ∨ r.dy ≠ 0 ∨ r.dz ≠ 0)
instance (v : Vo) : Decidable (VoOk v) := by unfold VoOk; infer_instance
instance (r : Ra) : Decidable (RaOk r) := by unfold RaOk; infer_instance

theorem mul_bd {a b A B : Int} (ha : 0 ≤ a) (hb : 0 ≤ b) (hA : a ≤ A) (hB : b ≤ B) : 0 ≤ a * b ∧ a * b ≤ A * B := ⟨Int.mul_nonneg ha hb, Int.mul_le_mul hA hB hb (by omega)⟩

/-! ### Ticks -/
def absI (d : Int) : Int := if 0 ≤ d then d else -d
def tkS (l d : Int) : Int := if d = 0 then l else l / (Int.gcd l d : Int) * absI d
def tk (r : Ra) : Int := tkS (tkS (tkS 1 r.dx) r.dy) r.dz
theorem absI_dvd {d n : Int} : absI d ∣ n ↔ d ∣ n := by
  unfold absI
  split
  · exact Iff.rfl
  · exact Int.neg_dvd
theorem tkS_pos {l d : Int} (hl : 0 < l) : 0 < tkS l d := by
  unfold tkS
  split
  · exact hl
  · rename_i h
    have hg : (Int.gcd l d : Int) ∣ l := Int.gcd_dvd_left ..
    have hg0 : 0 < (Int.gcd l d : Int) := by
      have := Int.gcd_pos_of_ne_zero_left d (show l ≠ 0 by omega)
      omega
    have h1 : 0 < l / (Int.gcd l d : Int) := Int.ediv_pos_of_pos_of_dvd hl (by omega) hg
    have h2 : 0 < absI d := by unfold absI; split <;> omega
    exact Int.mul_pos h1 h2
theorem tkS_dvd_l {l d : Int} : l ∣ tkS l d := by
  unfold tkS
  split
  · exact Int.dvd_refl _
  · rename_i h
    have hg : (Int.gcd l d : Int) ∣ l := Int.gcd_dvd_left ..
    have hd : (Int.gcd l d : Int) ∣ absI d := by
      have : (Int.gcd l d : Int) ∣ d := Int.gcd_dvd_right ..
      unfold absI
      split
      · exact this
      · exact Int.dvd_neg.2 this
    obtain ⟨e, he⟩ := hd
    refine ⟨e, ?_⟩
    rw [he, ← Int.mul_assoc, Int.ediv_mul_cancel hg]
theorem tkS_dvd_d {l d : Int} (h0 : d ≠ 0) : d ∣ tkS l d := by
  unfold tkS
  rw [if_neg h0]
  exact Int.dvd_trans (absI_dvd.1 (Int.dvd_refl _)) (Int.dvd_mul_left _ _)
theorem tkS_le {l d : Int} (hl : 0 < l) (hd : -60 ≤ d) (hd' : d ≤ 60) : tkS l d ≤ l * 60 := by
  unfold tkS
  split
  · omega
  · have h1 : l / (Int.gcd l d : Int) ≤ l := Int.ediv_le_self _ (by omega)
    have h2 : absI d ≤ 60 := by unfold absI; split <;> omega
    have h3 : 0 ≤ absI d := by unfold absI; split <;> omega
    have h0 : 0 ≤ l / (Int.gcd l d : Int) := Int.ediv_nonneg (by omega) (by omega)
    exact Int.mul_le_mul h1 h2 h3 (by omega)
theorem tk_pos (r : Ra) : 0 < tk r := tkS_pos (tkS_pos (tkS_pos (by decide)))
theorem tk_le {r : Ra} (h : RaOk r) : tk r ≤ 216000 := by
  unfold RaOk at h
  have h1 := tkS_le (l := 1) (d := r.dx) (by decide) (by omega) (by omega)
  have p1 := tkS_pos (l := 1) (d := r.dx) (by decide)
  have h2 := tkS_le (l := tkS 1 r.dx) (d := r.dy) p1 (by omega) (by omega)
  have p2 := tkS_pos (l := tkS 1 r.dx) (d := r.dy) p1
  have h3 := tkS_le (l := tkS (tkS 1 r.dx) r.dy) (d := r.dz) p2 (by omega) (by omega)
  unfold tk
  omega
theorem tk_dx {r : Ra} (h : r.dx ≠ 0) : r.dx ∣ tk r := Int.dvd_trans (tkS_dvd_d h) ((Int.dvd_trans tkS_dvd_l tkS_dvd_l))
theorem tk_dy {r : Ra} (h : r.dy ≠ 0) : r.dy ∣ tk r := Int.dvd_trans (tkS_dvd_d h) tkS_dvd_l
theorem tk_dz {r : Ra} (h : r.dz ≠ 0) : r.dz ∣ tk r := tkS_dvd_d h
theorem tdiv_exact {a t d : Int} (h : d ∣ t) : (a * t).tdiv d = a * (t / d) := by
  rw [Int.tdiv_eq_ediv_of_dvd (Int.dvd_trans h (Int.dvd_mul_left _ _)), Int.mul_ediv_assoc _ h]

/-! ### Crossings -/
/-- the crossing of plane k of an axis -/
def cr (t sz b d : Int) (k : Nat) : Int := ((k : Int) * sz - b) * (t / d)
def crA (t sz b d : Int) (m : Nat) : List Int := if d = 0 then [] else (List.range (m + 1)).map (cr t sz b d)
def put : List Int → Int → List Int
  | [], n => [n]
  | x :: l, n => if x < n then x :: put l n else if x = n then x :: l else n :: x :: l
def crR (l : List Int) (t b d : Int) (m : Nat) (sz : Int) : List Int := if d = 0 then l else (List.range (m + 1)).foldl (fun l k => if 0 < cr t sz b d k then put l (cr t sz b d k) else l) l
def ts (v : Vo) (r : Ra) : List Int := crR (crR (crR [0] (tk r) r.x r.dx v.nx.toNat v.sz) (tk r) r.y r.dy v.ny.toNat v.sz) (tk r) r.z r.dz v.nz.toNat v.sz
def crs (v : Vo) (r : Ra) : List Int := crA (tk r) v.sz r.x r.dx v.nx.toNat ++ (crA (tk r) v.sz r.y r.dy v.ny.toNat ++ crA (tk r) v.sz r.z r.dz v.nz.toNat)
abbrev Inc (l : List Int) : Prop := l.Pairwise (· < ·)
theorem mem_put {a n : Int} {l : List Int} : a ∈ put l n ↔ a = n ∨ a ∈ l := by
  induction l with
  | nil => simp [put]
  | cons x l ih =>
    unfold put
    split
    · simp only [List.mem_cons, ih]
      constructor
      · rintro (h | h | h) <;> simp [h]
      · rintro (h | h | h) <;> simp [h]
    · split
      · rename_i h
        subst h
        simp
      · simp
theorem inc_put {n : Int} {l : List Int} (h : Inc l) : Inc (put l n) := by
  induction l with
  | nil => simp [put, Inc]
  | cons x l ih =>
    unfold put
    have h' := List.pairwise_cons.1 h
    split
    · refine List.pairwise_cons.2 ⟨fun a ha => ?_, ih h'.2⟩
      rcases mem_put.1 ha with rfl | ha
      · assumption
      · exact h'.1 a ha
    · split
      · exact h
      · refine List.pairwise_cons.2 ⟨fun a ha => ?_, h⟩
        rcases List.mem_cons.1 ha with rfl | ha
        · omega
        · have := h'.1 a ha
          omega
theorem fold_put (f : Nat → Int) : ∀ (ks : List Nat) (l : List Int), Inc l → Inc (ks.foldl (fun l k => if 0 < f k then put l (f k) else l) l) ∧
    ∀ a, a ∈ ks.foldl (fun l k => if 0 < f k then put l (f k) else l) l ↔ a ∈ l ∨ (0 < a ∧ a ∈ ks.map f) := by
  intro ks
  induction ks with
  | nil => intro l h; simpa using h
  | cons k ks ih =>
    intro l h
    simp only [List.foldl_cons, List.map_cons]
    by_cases h0 : 0 < f k
    · rw [if_pos h0]
      obtain ⟨h1, h2⟩ := ih (put l (f k)) (inc_put h)
      refine ⟨h1, fun a => ?_⟩
      rw [h2, mem_put, List.mem_cons]
      constructor
      · rintro ((rfl | h) | ⟨h, h'⟩)
        · exact .inr ⟨h0, .inl rfl⟩
        · exact .inl h
        · exact .inr ⟨h, .inr h'⟩
      · rintro (h | ⟨h, rfl | h'⟩)
        · exact .inl (.inr h)
        · exact .inl (.inl rfl)
        · exact .inr ⟨h, h'⟩
    · rw [if_neg h0]
      obtain ⟨h1, h2⟩ := ih l h
      refine ⟨h1, fun a => ?_⟩
      rw [h2, List.mem_cons]
      constructor
      · rintro (h | ⟨h, h'⟩)
        · exact .inl h
        · exact .inr ⟨h, .inr h'⟩
      · rintro (h | ⟨h, rfl | h'⟩)
        · exact .inl h
        · exact absurd h h0
        · exact .inr ⟨h, h'⟩
theorem crR_spec {l : List Int} {t b d sz : Int} {m : Nat} (h : Inc l) : Inc (crR l t b d m sz) ∧ ∀ a, a ∈ crR l t b d m sz ↔ a ∈ l ∨ (0 < a ∧ a ∈ crA t sz b d m) := by
  unfold crR crA
  split
  · exact ⟨h, fun a => by simp⟩
  · exact fold_put (cr t sz b d) _ _ h
theorem ts_inc (v : Vo) (r : Ra) : Inc (ts v r) := (crR_spec (crR_spec (crR_spec (by simp [Inc])).1).1).1
theorem ts_mem (v : Vo) (r : Ra) (a : Int) : a ∈ ts v r ↔ a = 0 ∨ (0 < a ∧ a ∈ crs v r) := by
  unfold ts crs
  have i0 : Inc [(0 : Int)] := by simp [Inc]
  have i1 := (crR_spec (t := tk r) (b := r.x) (d := r.dx) (sz := v.sz) (m := v.nx.toNat) i0)
  have i2 := (crR_spec (t := tk r) (b := r.y) (d := r.dy) (sz := v.sz) (m := v.ny.toNat) i1.1)
  have i3 := (crR_spec (t := tk r) (b := r.z) (d := r.dz) (sz := v.sz) (m := v.nz.toNat) i2.1)
  rw [i3.2, i2.2, i1.2, List.mem_append, List.mem_append, List.mem_singleton]
  constructor
  · rintro (((h | ⟨h, h'⟩) | ⟨h, h'⟩) | ⟨h, h'⟩)
    · exact .inl h
    · exact .inr ⟨h, .inl h'⟩
    · exact .inr ⟨h, .inr (.inl h')⟩
    · exact .inr ⟨h, .inr (.inr h')⟩
  · rintro (h | ⟨h, h' | h' | h'⟩)
    · exact .inl (.inl (.inl h))
    · exact .inl (.inl (.inr ⟨h, h'⟩))
    · exact .inl (.inr ⟨h, h'⟩)
    · exact .inr ⟨h, h'⟩
theorem ts_nonneg {v : Vo} {r : Ra} {a : Int} (h : a ∈ ts v r) : 0 ≤ a := by
  rcases (ts_mem v r a).1 h with h | h <;> omega
/-- the next crossing behind a number of ticks, as the program looks for it; -1: none -/
def nxS (at_ : Int) (nx t : Int) : Int := if at_ < t ∧ (nx < 0 ∨ t < nx) then t else nx
def nxF (at_ : Int) (nx : Int) (l : List Int) : Int := l.foldl (nxS at_) nx
theorem nxF_spec {at_ : Int} (h0 : 0 ≤ at_) : ∀ (l : List Int) (nx : Int) (S : Int → Prop), (nx = -1 ∧ (∀ t, S t → t ≤ at_) ∨ at_ < nx ∧ S nx ∧ ∀ t, S t → at_ < t → nx ≤ t) →
    (nxF at_ nx l = -1 ∧ (∀ t, S t ∨ t ∈ l → t ≤ at_) ∨ at_ < nxF at_ nx l ∧ (S (nxF at_ nx l) ∨ nxF at_ nx l ∈ l) ∧ ∀ t, S t ∨ t ∈ l → at_ < t → nxF at_ nx l ≤ t) := by
  intro l
  induction l with
  | nil => intro nx S h; simpa [nxF] using h
  | cons x l ih =>
    intro nx S h
    have e : nxF at_ nx (x :: l) = nxF at_ (nxS at_ nx x) l := rfl
    rw [e]
    have := ih (nxS at_ nx x) (fun t => S t ∨ t = x) ?_
    · rcases this with ⟨h1, h2⟩ | ⟨h1, h2, h3⟩
      · refine .inl ⟨h1, fun t ht => h2 t ?_⟩
        rcases ht with ht | ht
        · exact .inl (.inl ht)
        · rcases List.mem_cons.1 ht with ht | ht
          · exact .inl (.inr ht)
          · exact .inr ht
      · refine .inr ⟨h1, ?_, fun t ht => h3 t ?_⟩
        · rcases h2 with (h2 | h2) | h2
          · exact .inl h2
          · exact .inr (List.mem_cons.2 (.inl h2))
          · exact .inr (List.mem_cons.2 (.inr h2))
        · rcases ht with ht | ht
          · exact .inl (.inl ht)
          · rcases List.mem_cons.1 ht with ht | ht
            · exact .inl (.inr ht)
            · exact .inr ht
    · unfold nxS
      split
      · rename_i hc
        rcases h with ⟨rfl, h⟩ | ⟨h1, h2, h3⟩
        · refine .inr ⟨hc.1, .inr rfl, fun t ht hlt => ?_⟩
          rcases ht with ht | rfl
          · have := h t ht; omega
          · omega
        · refine .inr ⟨hc.1, .inr rfl, fun t ht hlt => ?_⟩
          rcases ht with ht | rfl
          · have := h3 t ht hlt; omega
          · omega
      · rename_i hc
        rcases h with ⟨rfl, h⟩ | ⟨h1, h2, h3⟩
        · refine .inl ⟨rfl, fun t ht => ?_⟩
          rcases ht with ht | rfl
          · exact h t ht
          · rcases Int.lt_or_le at_ t with h5 | h5
            · exact absurd ⟨h5, .inl (by omega)⟩ hc
            · exact h5
        · refine .inr ⟨h1, .inl h2, fun t ht hlt => ?_⟩
          rcases ht with ht | rfl
          · exact h3 t ht hlt
          · rcases Int.lt_or_le t nx with h5 | h5
            · exact absurd ⟨hlt, .inr h5⟩ hc
            · exact h5
/-- the crossings follow each other as the program finds them -/
theorem ts_next {v : Vo} {r : Ra} {i : Nat} {a : Int} (h : (ts v r)[i]? = some a) : nxF a (-1) (crs v r) = ((ts v r)[i + 1]?).getD (-1) := by
  obtain ⟨hi, hx⟩ := List.getElem?_eq_some_iff.1 h
  have hin := List.pairwise_iff_getElem.1 (ts_inc v r)
  have ha : 0 ≤ a := ts_nonneg (List.mem_of_getElem? h)
  have := nxF_spec ha (crs v r) (-1) (fun _ => False) (.inl ⟨rfl, fun _ h => h.elim⟩)
  simp only [false_or] at this
  cases hn : (ts v r)[i + 1]? with
  | none =>
    rw [Option.getD_none]
    rcases this with ⟨h1, _⟩ | ⟨h1, h2, _⟩
    · exact h1
    · exfalso
      have hm : nxF a (-1) (crs v r) ∈ ts v r := (ts_mem _ _ _).2 (.inr ⟨by omega, h2⟩)
      obtain ⟨j, hj, e⟩ := List.getElem_of_mem hm
      have hle := List.getElem?_eq_none_iff.1 hn
      rcases Nat.lt_trichotomy j i with h5 | h5 | h5
      · have := hin j i hj hi h5; omega
      · subst h5; omega
      · omega
  | some b =>
    rw [Option.getD_some]
    obtain ⟨hi1, hb⟩ := List.getElem?_eq_some_iff.1 hn
    have hab := hin i (i + 1) hi hi1 (by omega)
    have hbm : b ∈ ts v r := List.mem_of_getElem? hn
    have hbc : b ∈ crs v r := by
      rcases (ts_mem _ _ _).1 hbm with h5 | h5
      · omega
      · exact h5.2
    rcases this with ⟨_, h2⟩ | ⟨h1, h2, h3⟩
    · have := h2 b hbc; omega
    · have hle := h3 b hbc (by omega)
      have hm : nxF a (-1) (crs v r) ∈ ts v r := (ts_mem _ _ _).2 (.inr ⟨by omega, h2⟩)
      obtain ⟨j, hj, e⟩ := List.getElem_of_mem hm
      rcases Nat.lt_trichotomy j (i + 1) with h5 | h5 | h5
      · rcases Nat.lt_or_ge j i with h6 | h6
        · have := hin j i hj hi h6; omega
        · have : j = i := by omega
          subst this; omega
      · subst h5; omega
      · have := hin (i + 1) j hi1 hj h5; omega
theorem ts_head (v : Vo) (r : Ra) : (ts v r)[0]? = some 0 := by
  have hm : (0 : Int) ∈ ts v r := (ts_mem _ _ _).2 (.inl rfl)
  obtain ⟨j, hj, e⟩ := List.getElem_of_mem hm
  have hin := List.pairwise_iff_getElem.1 (ts_inc v r)
  have h0 : 0 < (ts v r).length := by omega
  rw [List.getElem?_eq_getElem h0]
  rcases Nat.eq_zero_or_pos j with h5 | h5
  · subst h5; rw [e]
  · have := hin 0 j h0 hj h5
    have h6 := ts_nonneg (List.getElem_mem h0)
    omega

/-! ### Pieces -/
def celA (t sz b d : Int) (m a c : Int) : Int := if 2 * t * b + d * (a + c) < 0 ∨ 2 * t * sz * m ≤ 2 * t * b + d * (a + c) then -1 else (2 * t * b + d * (a + c)) / (2 * t * sz)
def cel (v : Vo) (r : Ra) (a c : Int) : Int :=
  if 0 ≤ celA (tk r) v.sz r.x r.dx v.nx a c ∧ 0 ≤ celA (tk r) v.sz r.y r.dy v.ny a c ∧ 0 ≤ celA (tk r) v.sz r.z r.dz v.nz a c then
    (celA (tk r) v.sz r.z r.dz v.nz a c * v.ny + celA (tk r) v.sz r.y r.dy v.ny a c) * v.nx + celA (tk r) v.sz r.x r.dx v.nx a c
  else -1
def pc1 (f : Int → Int → Int) (a c : Int) : List Pc := if 0 ≤ f a c then [⟨f a c, a, c⟩] else []
def pcsF (f : Int → Int → Int) : List Int → List Pc
  | a :: c :: l => pc1 f a c ++ pcsF f (c :: l)
  | _ => []
def pcs (v : Vo) (r : Ra) : List Pc := pcsF (cel v r) (ts v r)
theorem pcsF_snoc (f : Int → Int → Int) (x : Int) : ∀ (l : List Int) (a : Int), l.getLast? = some a → pcsF f (l ++ [x]) = pcsF f l ++ pc1 f a x := by
  intro l
  induction l with
  | nil => intro a h; cases h
  | cons y l ih =>
    intro a h
    cases l with
    | nil =>
      simp at h
      subst h
      simp [pcsF]
    | cons z l =>
      have := ih a (by simpa using h)
      simp only [List.cons_append] at this ⊢
      rw [pcsF, pcsF, this, List.append_assoc]
/-- what a cut leaves -/
def cutS (f : Pc → Pc) (l : List Pc) : List Pc := (l.map f).filter fun p => decide (p.a < p.u)
def chs (l : List Pc) : List (Int × Int) := l.map fun p => (p.c, p.u - p.a)
def btw (a u : Int) (p : Pc) : Pc := ⟨p.c, max p.a a, min p.u u⟩
/-- what is under a ground -/
def hgt (v : Vo) (g : List Int) (c : Int) : Int := g.getD (c % (v.nx * v.ny)).toNat 0
def und (v : Vo) (r : Ra) (g : List Int) (p : Pc) : Pc :=
  if 0 < r.dz then ⟨p.c, p.a, min p.u ((hgt v g p.c - r.z) * (tk r / r.dz))⟩
  else if r.dz < 0 then ⟨p.c, max p.a ((hgt v g p.c - r.z) * (tk r / r.dz)), p.u⟩
  else if hgt v g p.c ≤ r.z then ⟨p.c, p.a, p.a⟩ else p
theorem celA_bd {t sz b d m a c : Int} (ht : 0 < t) (hs : 0 < sz) (h : 0 ≤ celA t sz b d m a c) : celA t sz b d m a c < m := by
  unfold celA at h ⊢
  split
  · rename_i h1
    rw [if_pos h1] at h
    omega
  · rename_i h1
    have h3 : 0 < 2 * t * sz := Int.mul_pos (by omega) hs
    refine Int.ediv_lt_of_lt_mul h3 ?_
    rw [Int.mul_comm m]
    omega
theorem cel_bd {v : Vo} {r : Ra} {a c : Int} (hv : VoOk v) (h : 0 ≤ cel v r a c) : cel v r a c < v.nx * v.ny * v.nz := by
  unfold VoOk at hv
  obtain ⟨⟨h1, _⟩, ⟨h2, _⟩, ⟨h3, _⟩, _, ⟨h4, _⟩⟩ := hv
  unfold cel at h ⊢
  split
  · rename_i hc
    obtain ⟨hx, hy, hz⟩ := hc
    have bx := celA_bd (tk_pos r) (by omega) hx
    have by_ := celA_bd (tk_pos r) (by omega) hy
    have bz := celA_bd (tk_pos r) (by omega) hz
    generalize celA (tk r) v.sz r.x r.dx v.nx a c = x at *
    generalize celA (tk r) v.sz r.y r.dy v.ny a c = y at *
    generalize celA (tk r) v.sz r.z r.dz v.nz a c = z at *
    have e1 : z * v.ny + y ≤ v.nz * v.ny - 1 := by
      have : (z + 1) * v.ny ≤ v.nz * v.ny := Int.mul_le_mul_of_nonneg_right (by omega) (by omega)
      rw [Int.add_mul, Int.one_mul] at this
      omega
    have e2 : (z * v.ny + y) * v.nx ≤ (v.nz * v.ny - 1) * v.nx := Int.mul_le_mul_of_nonneg_right e1 (by omega)
    have e3 : v.nx * v.ny * v.nz = v.nz * v.ny * v.nx := by rw [Int.mul_comm (v.nx * v.ny), Int.mul_comm v.nx, Int.mul_assoc]
    rw [Int.sub_mul, Int.one_mul] at e2
    omega
  · rename_i hc
    rw [if_neg hc] at h
    omega
theorem mem_pcsF {f : Int → Int → Int} {p : Pc} : ∀ {l : List Int}, p ∈ pcsF f l → ∃ i, l[i]? = some p.a ∧ l[i + 1]? = some p.u ∧ p.c = f p.a p.u ∧ 0 ≤ p.c := by
  intro l
  induction l with
  | nil => intro h; cases h
  | cons y l ih =>
    intro h
    cases l with
    | nil => cases h
    | cons z l =>
      rw [pcsF, List.mem_append] at h
      rcases h with h | h
      · unfold pc1 at h
        split at h
        · rename_i h0
          simp at h
          subst h
          exact ⟨0, rfl, rfl, rfl, h0⟩
        · cases h
      · obtain ⟨i, h1, h2, h3⟩ := ih h
        exact ⟨i + 1, h1, h2, h3⟩
theorem mem_pcs {v : Vo} {r : Ra} {p : Pc} (hv : VoOk v) (h : p ∈ pcs v r) : 0 ≤ p.c ∧ p.c < v.nx * v.ny * v.nz ∧ 0 ≤ p.a ∧ p.a < p.u ∧ p.c = cel v r p.a p.u ∧ p.a ∈ ts v r ∧ p.u ∈ ts v r := by
  obtain ⟨i, h1, h2, h3, h4⟩ := mem_pcsF h
  obtain ⟨hi, e1⟩ := List.getElem?_eq_some_iff.1 h1
  obtain ⟨hj, e2⟩ := List.getElem?_eq_some_iff.1 h2
  have := List.pairwise_iff_getElem.1 (ts_inc v r) i (i + 1) hi hj (by omega)
  refine ⟨h4, ?_, ts_nonneg (List.mem_of_getElem? h1), by omega, h3, List.mem_of_getElem? h1, List.mem_of_getElem? h2⟩
  rw [h3] at h4 ⊢
  exact cel_bd hv h4
theorem natAbs_ediv_le {t d : Int} (ht : 0 < t) : (t / d).natAbs ≤ t.natAbs := by
  rcases Int.lt_trichotomy d 0 with h | h | h
  · have e : t / d = -(t / -d) := by rw [Int.ediv_neg, Int.neg_neg]
    have h1 : t / -d ≤ t := Int.ediv_le_self _ (by omega)
    have h2 : 0 ≤ t / -d := Int.ediv_nonneg (by omega) (by omega)
    omega
  · subst h
    simp
  · have h1 : t / d ≤ t := Int.ediv_le_self _ (by omega)
    have h2 : 0 ≤ t / d := Int.ediv_nonneg (by omega) (by omega)
    omega
/-- bounds of crossings -/
theorem cr_bd {t sz b d : Int} {k m : Nat} (ht : 0 < t) (ht' : t ≤ 216000) (hs : 0 ≤ sz) (hs' : sz ≤ 1000) (hb : -100000 ≤ b) (hb' : b ≤ 100000) (hk : k ≤ m) (hm : m ≤ 12) : -24192000000 ≤ cr t sz b d k ∧ cr t sz b d k ≤ 24192000000 := by
  unfold cr
  have h1 : 0 ≤ (k : Int) * sz := Int.mul_nonneg (by omega) hs
  have h2 : (k : Int) * sz ≤ 12 * 1000 := Int.mul_le_mul (by omega) hs' hs (by omega)
  have h3 : (t / d).natAbs ≤ t.natAbs := natAbs_ediv_le ht
  have h4 : ((k : Int) * sz - b).natAbs ≤ 112000 := by omega
  have h5 : (((k : Int) * sz - b) * (t / d)).natAbs ≤ 112000 * 216000 := by
    rw [Int.natAbs_mul]
    exact Nat.mul_le_mul h4 (by omega)
  omega
theorem crA_bd {t sz b d a : Int} {m : Nat} (ht : 0 < t) (ht' : t ≤ 216000) (hs : 0 ≤ sz) (hs' : sz ≤ 1000) (hb : -100000 ≤ b) (hb' : b ≤ 100000) (hm : m ≤ 12) (h : a ∈ crA t sz b d m) : -24192000000 ≤ a ∧ a ≤ 24192000000 := by
  unfold crA at h
  split at h
  · cases h
  · rename_i hd
    obtain ⟨k, hk, rfl⟩ := List.mem_map.1 h
    have hk := List.mem_range.1 hk
    exact cr_bd ht ht' hs hs' hb hb' (by omega : k ≤ m) hm
theorem crs_bd {v : Vo} {r : Ra} (hv : VoOk v) (hr : RaOk r) {a : Int} (h : a ∈ crs v r) : -24192000000 ≤ a ∧ a ≤ 24192000000 := by
  have h1 := tk_pos r
  have h2 := tk_le hr
  unfold VoOk at hv
  unfold RaOk at hr
  unfold crs at h
  rw [List.mem_append, List.mem_append] at h
  rcases h with h | h | h <;> exact crA_bd h1 h2 (by omega) (by omega) (by omega) (by omega) (by omega) h
theorem ts_bd {v : Vo} {r : Ra} (hv : VoOk v) (hr : RaOk r) {a : Int} (h : a ∈ ts v r) : 0 ≤ a ∧ a ≤ 24192000000 := by
  refine ⟨ts_nonneg h, ?_⟩
  rcases (ts_mem _ _ _).1 h with h | h
  · omega
  · exact (crs_bd hv hr h.2).2
end Go.Rock
