/- Rays through rock, plainly: a ray's cell at a half tick; pieces as the runs of it. No program in sight. -/
import Derived.Test.YtkkjfjeniaiaiaaS1
namespace Go.Rock
/-! ### Cells at half ticks -/
theorem celA_mid (t sz b d m a c : Int) : celA t sz b d m a c = celA t sz b d m 0 (a + c) := by unfold celA; rw [Int.zero_add]
def ceM (v : Vo) (r : Ra) (m : Int) : Int := cel v r 0 m
theorem cel_mid (v : Vo) (r : Ra) (a c : Int) : cel v r a c = ceM v r (a + c) := by
  unfold ceM cel
  rw [celA_mid _ _ r.x, celA_mid _ _ r.y, celA_mid _ _ r.z]
def flr (P n p : Int) : Int := if p < 0 ∨ P * n ≤ p then -1 else p / P
theorem celA_flr (t sz b d m a c : Int) : celA t sz b d m a c = flr (2 * t * sz) m (2 * t * b + d * (a + c)) := rfl
theorem flr_le {P n p q : Int} (hP : 0 < P) (h : p ≤ q) (hn : ∀ k, 0 ≤ k → k ≤ n → ¬ (p < P * k ∧ P * k ≤ q)) (h0 : 0 ≤ n) : flr P n p = flr P n q := by
  unfold flr
  by_cases hp : p < 0
  · have := hn 0 (Int.le_refl _) h0
    rw [Int.mul_zero] at this
    rw [if_pos (.inl hp), if_pos (.inl (by omega))]
  · by_cases hp2 : P * n ≤ p
    · rw [if_pos (.inr hp2), if_pos (.inr (by omega))]
    · have := hn n h0 (Int.le_refl _)
      have hq2 : ¬ P * n ≤ q := by omega
      rw [if_neg (by omega), if_neg (by omega)]
      have e1 := Int.ediv_mul_le p (Int.ne_of_gt hP)
      have e2 := Int.lt_ediv_add_one_mul_self p hP
      have e3 := Int.ediv_mul_le q (Int.ne_of_gt hP)
      have e4 := Int.lt_ediv_add_one_mul_self q hP
      have hle : p / P ≤ q / P := Int.ediv_le_ediv hP h
      rcases Int.lt_or_eq_of_le hle with hlt | he
      · exfalso
        have hk := hn (q / P) (Int.ediv_nonneg (by omega) (by omega)) (by
          have : q / P < n := Int.ediv_lt_of_lt_mul hP (by rw [Int.mul_comm]; omega)
          omega)
        rw [Int.mul_comm P] at hk
        have : (p / P + 1) * P ≤ q / P * P := Int.mul_le_mul_of_nonneg_right (by omega) (by omega)
        omega
      · exact he
/-- where an axis is at a plane, it is at a crossing -/
theorem on_plane {t sz b d k m : Int} (hd : d ∣ t) (h0 : d ≠ 0) : 2 * t * b + d * m - 2 * t * sz * k = d * (m - 2 * ((k * sz - b) * (t / d))) := by
  obtain ⟨e, rfl⟩ := hd
  rw [Int.mul_ediv_cancel_left _ h0]
  rw [Int.mul_sub, Int.sub_mul (k * sz), Int.mul_sub 2, Int.mul_sub d]
  have e1 : 2 * (d * e) * b = d * (2 * (b * e)) := by ac_rfl
  have e2 : 2 * (d * e) * sz * k = d * (2 * (k * sz * e)) := by ac_rfl
  rw [e1, e2]
  omega
theorem pos_lt {d x : Int} (hd : 0 < d) (h : 0 < d * x) : 0 < x := by
  rcases Int.lt_or_le 0 x with h1 | h1
  · exact h1
  · have := Int.mul_nonpos_of_nonneg_of_nonpos (Int.le_of_lt hd) h1
    omega
theorem pos_le {d x : Int} (hd : 0 < d) (h : 0 ≤ d * x) : 0 ≤ x := by
  rcases Int.lt_or_le x 0 with h1 | h1
  · have := Int.mul_neg_of_pos_of_neg hd h1
    omega
  · exact h1
theorem neg_lt' {d x : Int} (hd : d < 0) (h : 0 < d * x) : x < 0 := by
  rcases Int.lt_or_le x 0 with h1 | h1
  · exact h1
  · have := Int.mul_nonpos_of_nonpos_of_nonneg (Int.le_of_lt hd) h1
    omega
theorem neg_le' {d x : Int} (hd : d < 0) (h : 0 ≤ d * x) : x ≤ 0 := by
  rcases Int.lt_or_le 0 x with h1 | h1
  · have := Int.mul_neg_of_neg_of_pos hd h1
    omega
  · exact h1
/-- within a gap, the cell along an axis stays -/
theorem celA_const {t sz b d m1 m2 a c : Int} {n : Nat} (ht : 0 < t) (hs : 0 < sz) (hd : d ≠ 0 → d ∣ t) (hn : ∀ x ∈ crA t sz b d n, ¬ (a < x ∧ x < c)) (h1 : 2 * a < m1) (h2 : m1 ≤ m2) (h3 : m2 < 2 * c) :
    celA t sz b d n 0 m1 = celA t sz b d n 0 m2 := by
  rw [celA_flr, celA_flr, Int.zero_add, Int.zero_add]
  have hP : 0 < 2 * t * sz := Int.mul_pos (by omega) hs
  by_cases h0 : d = 0
  · subst h0; rw [Int.zero_mul, Int.zero_mul]
  · have hd := hd h0
    have hm : ∀ k : Int, 0 ≤ k → k ≤ (n : Int) → ¬ (a < (k * sz - b) * (t / d) ∧ (k * sz - b) * (t / d) < c) := by
      intro k k0 k1
      refine hn _ ?_
      unfold crA
      rw [if_neg h0]
      refine List.mem_map.2 ⟨k.toNat, List.mem_range.2 (by omega), ?_⟩
      unfold cr
      rw [Int.toNat_of_nonneg k0]
    rcases Int.lt_or_gt_of_ne h0 with hneg | hpos
    · refine (flr_le hP ?_ ?_ (by omega)).symm
      · have := Int.mul_le_mul_of_nonpos_left (a := d) (by omega) h2
        omega
      · rintro k k0 k1 ⟨e1, e2⟩
        have p1 := on_plane (sz := sz) (b := b) (k := k) (m := m2) hd h0
        have p2 := on_plane (sz := sz) (b := b) (k := k) (m := m1) hd h0
        have g1 : d * (m1 - 2 * ((k * sz - b) * (t / d))) ≥ 0 := by omega
        have g1 := neg_le' hneg g1
        have g2 : 0 < d * (2 * ((k * sz - b) * (t / d)) - m2) := by
          rw [show 2 * ((k * sz - b) * (t / d)) - m2 = -(m2 - 2 * ((k * sz - b) * (t / d))) by omega, Int.mul_neg]
          omega
        have g2 := neg_lt' hneg g2
        exact hm k k0 k1 ⟨by omega, by omega⟩
    · refine flr_le hP ?_ ?_ (by omega)
      · have := Int.mul_le_mul_of_nonneg_left (c := d) h2 (by omega)
        omega
      · rintro k k0 k1 ⟨e1, e2⟩
        have p1 := on_plane (sz := sz) (b := b) (k := k) (m := m2) hd h0
        have p2 := on_plane (sz := sz) (b := b) (k := k) (m := m1) hd h0
        have g1 : d * (m2 - 2 * ((k * sz - b) * (t / d))) ≥ 0 := by omega
        have g1 := pos_le hpos g1
        have g2 : 0 < d * (2 * ((k * sz - b) * (t / d)) - m1) := by
          rw [show 2 * ((k * sz - b) * (t / d)) - m1 = -(m1 - 2 * ((k * sz - b) * (t / d))) by omega, Int.mul_neg]
          omega
        have g2 := pos_lt hpos g2
        exact hm k k0 k1 ⟨by omega, by omega⟩
theorem crs_x {v : Vo} {r : Ra} {x : Int} (h : x ∈ crA (tk r) v.sz r.x r.dx v.nx.toNat) : x ∈ crs v r := List.mem_append.2 (.inl h)
theorem crs_y {v : Vo} {r : Ra} {x : Int} (h : x ∈ crA (tk r) v.sz r.y r.dy v.ny.toNat) : x ∈ crs v r := List.mem_append.2 (.inr (List.mem_append.2 (.inl h)))
theorem crs_z {v : Vo} {r : Ra} {x : Int} (h : x ∈ crA (tk r) v.sz r.z r.dz v.nz.toNat) : x ∈ crs v r := List.mem_append.2 (.inr (List.mem_append.2 (.inr h)))
theorem ceM_const {v : Vo} {r : Ra} {m1 m2 a c : Int} (hv : VoOk v) (hn : ∀ x ∈ crs v r, ¬ (a < x ∧ x < c)) (h1 : 2 * a < m1) (h1' : m1 < 2 * c) (h2 : 2 * a < m2) (h3 : m2 < 2 * c) : ceM v r m1 = ceM v r m2 := by
  have key : ∀ m1 m2, 2 * a < m1 → m1 ≤ m2 → m2 < 2 * c → ceM v r m1 = ceM v r m2 := by
    intro m1 m2 h1 h2 h3
    unfold VoOk at hv
    have ex := celA_const (n := v.nx.toNat) (tk_pos r) (by omega : 0 < v.sz) (fun h => tk_dx h) (fun x hx => hn x (crs_x hx)) h1 h2 h3
    have ey := celA_const (n := v.ny.toNat) (tk_pos r) (by omega : 0 < v.sz) (fun h => tk_dy h) (fun x hx => hn x (crs_y hx)) h1 h2 h3
    have ez := celA_const (n := v.nz.toNat) (tk_pos r) (by omega : 0 < v.sz) (fun h => tk_dz h) (fun x hx => hn x (crs_z hx)) h1 h2 h3
    rw [Int.toNat_of_nonneg (by omega)] at ex ey ez
    unfold ceM cel
    rw [ex, ey, ez]
  rcases Int.le_total m1 m2 with h | h
  · exact key _ _ h1 h h3
  · exact (key _ _ h2 h h1').symm
/-- the three coordinates of a cell -/
theorem cel_split {v : Vo} {r : Ra} {a c : Int} (hv : VoOk v) (h : 0 ≤ cel v r a c) :
    (0 ≤ celA (tk r) v.sz r.x r.dx v.nx a c ∧ celA (tk r) v.sz r.x r.dx v.nx a c < v.nx) ∧ (0 ≤ celA (tk r) v.sz r.y r.dy v.ny a c ∧ celA (tk r) v.sz r.y r.dy v.ny a c < v.ny) ∧ (0 ≤ celA (tk r) v.sz r.z r.dz v.nz a c ∧ celA (tk r) v.sz r.z r.dz v.nz a c < v.nz) ∧
      cel v r a c % v.nx = celA (tk r) v.sz r.x r.dx v.nx a c ∧ cel v r a c / v.nx % v.ny = celA (tk r) v.sz r.y r.dy v.ny a c ∧ cel v r a c / v.nx / v.ny = celA (tk r) v.sz r.z r.dz v.nz a c := by
  unfold VoOk at hv
  unfold cel at h ⊢
  split
  · rename_i hc
    obtain ⟨hx, hy, hz⟩ := hc
    have bx := celA_bd (tk_pos r) (by omega) hx
    have by_ := celA_bd (tk_pos r) (by omega) hy
    have bz := celA_bd (tk_pos r) (by omega) hz
    generalize celA (tk r) v.sz r.x r.dx v.nx a c = x at *
    generalize celA (tk r) v.sz r.y r.dy v.ny a c = y at *
    generalize celA (tk r) v.sz r.z r.dz v.nz a c = z at *
    have e1 : ((z * v.ny + y) * v.nx + x) % v.nx = x := by
      rw [Int.add_comm, Int.add_mul_emod_self_right, Int.emod_eq_of_lt hx bx]
    have e2 : ((z * v.ny + y) * v.nx + x) / v.nx = z * v.ny + y := by
      rw [Int.add_comm, Int.add_mul_ediv_right _ _ (by omega), Int.ediv_eq_zero_of_lt hx bx, Int.zero_add]
    have e3 : (z * v.ny + y) % v.ny = y := by
      rw [Int.add_comm, Int.add_mul_emod_self_right, Int.emod_eq_of_lt hy by_]
    have e4 : (z * v.ny + y) / v.ny = z := by
      rw [Int.add_comm, Int.add_mul_ediv_right _ _ (by omega), Int.ediv_eq_zero_of_lt hy by_, Int.zero_add]
    refine ⟨⟨hx, bx⟩, ⟨hy, by_⟩, ⟨hz, bz⟩, e1, ?_, ?_⟩
    · rw [e2, e3]
    · rw [e2, e4]
  · rename_i hc
    rw [if_neg hc] at h
    omega
theorem celA_in {t sz b d m a c : Int} (ht : 0 < t) (hs : 0 < sz) : (0 ≤ celA t sz b d m a c) ↔ (0 ≤ 2 * t * b + d * (a + c) ∧ 2 * t * b + d * (a + c) < 2 * t * sz * m) := by
  have hP : 0 < 2 * t * sz := Int.mul_pos (by omega) hs
  unfold celA
  split
  · constructor <;> omega
  · rename_i h
    have := Int.ediv_nonneg (a := 2 * t * b + d * (a + c)) (b := 2 * t * sz) (by omega) (by omega)
    constructor <;> omega
theorem cel_in {v : Vo} {r : Ra} {a c : Int} (hv : VoOk v) : 0 ≤ cel v r a c ↔ (0 ≤ celA (tk r) v.sz r.x r.dx v.nx a c ∧ 0 ≤ celA (tk r) v.sz r.y r.dy v.ny a c ∧ 0 ≤ celA (tk r) v.sz r.z r.dz v.nz a c) := by
  constructor
  · intro h
    have := cel_split hv h
    exact ⟨this.1.1, this.2.1.1, this.2.2.1.1⟩
  · rintro h
    unfold VoOk at hv
    unfold cel
    rw [if_pos h]
    have h1 := Int.mul_nonneg h.2.2 (by omega : 0 ≤ v.ny)
    have h2 := Int.mul_nonneg (by omega : 0 ≤ celA (tk r) v.sz r.z r.dz v.nz a c * v.ny + celA (tk r) v.sz r.y r.dy v.ny a c) (by omega : 0 ≤ v.nx)
    omega
/-- convexity -/
theorem lin_mid {d x m1 m2 m3 : Int} (h1 : m1 ≤ m2) (h2 : m2 ≤ m3) : (x + d * m1 ≤ x + d * m2 ∧ x + d * m2 ≤ x + d * m3) ∨ (x + d * m3 ≤ x + d * m2 ∧ x + d * m2 ≤ x + d * m1) := by
  rcases Int.le_total 0 d with h | h
  · left
    have a1 := Int.mul_le_mul_of_nonneg_left h1 h
    have a2 := Int.mul_le_mul_of_nonneg_left h2 h
    omega
  · right
    have a1 := Int.mul_le_mul_of_nonpos_left (a := d) h h1
    have a2 := Int.mul_le_mul_of_nonpos_left (a := d) h h2
    omega
theorem celA_conv {t sz b d m m1 m2 m3 : Int} (ht : 0 < t) (hs : 0 < sz) (h12 : m1 ≤ m2) (h23 : m2 ≤ m3) (h1 : 0 ≤ celA t sz b d m 0 m1) (h3 : 0 ≤ celA t sz b d m 0 m3) : 0 ≤ celA t sz b d m 0 m2 := by
  rw [celA_in ht hs] at *
  rw [Int.zero_add] at *
  have := lin_mid (d := d) (x := 2 * t * b) h12 h23
  omega
theorem ceM_conv {v : Vo} {r : Ra} {m1 m2 m3 : Int} (hv : VoOk v) (h12 : m1 ≤ m2) (h23 : m2 ≤ m3) (h1 : 0 ≤ ceM v r m1) (h3 : 0 ≤ ceM v r m3) : 0 ≤ ceM v r m2 := by
  unfold ceM at *
  rw [cel_in hv] at *
  unfold VoOk at hv
  have ht := tk_pos r
  exact ⟨celA_conv ht (by omega) h12 h23 h1.1 h3.1, celA_conv ht (by omega) h12 h23 h1.2.1 h3.2.1, celA_conv ht (by omega) h12 h23 h1.2.2 h3.2.2⟩
/-! ### Gaps -/
theorem gap_free {v : Vo} {r : Ra} {i : Nat} {a c : Int} (h1 : (ts v r)[i]? = some a) (h2 : (ts v r)[i + 1]? = some c) : ∀ x ∈ crs v r, ¬ (a < x ∧ x < c) := by
  rintro x hx ⟨h3, h4⟩
  have h0 := ts_nonneg (List.mem_of_getElem? h1)
  have hm : x ∈ ts v r := (ts_mem _ _ _).2 (.inr ⟨by omega, hx⟩)
  obtain ⟨j, hj, rfl⟩ := List.getElem_of_mem hm
  obtain ⟨hi, e1⟩ := List.getElem?_eq_some_iff.1 h1
  obtain ⟨hi1, e2⟩ := List.getElem?_eq_some_iff.1 h2
  have hin := List.pairwise_iff_getElem.1 (ts_inc v r)
  rcases Nat.lt_trichotomy j i with h5 | h5 | h5
  · have := hin j i hj hi h5; omega
  · subst h5; omega
  · rcases Nat.lt_trichotomy j (i + 1) with h6 | h6 | h6
    · omega
    · subst h6; omega
    · have := hin (i + 1) j hi1 hj h6; omega
theorem pcsF_mem {f : Int → Int → Int} {a c : Int} : ∀ {l : List Int} {i : Nat}, l[i]? = some a → l[i + 1]? = some c → 0 ≤ f a c → (⟨f a c, a, c⟩ : Pc) ∈ pcsF f l := by
  intro l
  induction l with
  | nil => intro i h; cases h
  | cons y l ih =>
    intro i h1 h2 h3
    cases l with
    | nil => simp at h2
    | cons z l =>
      rw [pcsF, List.mem_append]
      cases i with
      | zero =>
        simp at h1 h2
        subst h1; subst h2
        left
        unfold pc1
        rw [if_pos h3]
        simp
      | succ i => exact .inr (ih (by simpa using h1) (by simpa using h2) h3)
theorem pcsF_from {f : Int → Int → Int} {l : List Int} {p : Pc} (h : p ∈ pcsF f l) : p.a ∈ l ∧ p.u ∈ l := by
  obtain ⟨i, h1, h2, _⟩ := mem_pcsF h
  exact ⟨List.mem_of_getElem? h1, List.mem_of_getElem? h2⟩
theorem pcsF_sorted {f : Int → Int → Int} : ∀ {l : List Int}, Inc l → (pcsF f l).Pairwise (fun p q => p.u ≤ q.a) := by
  intro l
  induction l with
  | nil => intro _; simp [pcsF]
  | cons y l ih =>
    intro h
    cases l with
    | nil => simp [pcsF]
    | cons z l =>
      have h' := List.pairwise_cons.1 h
      rw [pcsF, List.pairwise_append]
      refine ⟨by unfold pc1; split <;> simp, ih h'.2, fun p hp q hq => ?_⟩
      unfold pc1 at hp
      split at hp
      · simp at hp
        subst hp
        have := (pcsF_from hq).1
        rcases List.mem_cons.1 this with h5 | h5
        · show z ≤ q.a; omega
        · have := (List.pairwise_cons.1 h'.2).1 _ h5
          show z ≤ q.a; omega
      · cases hp
/-- at the point in the middle of each tick a ray is where a piece tells -/
theorem pcs_cell {v : Vo} {r : Ra} {p : Pc} {j : Int} (hv : VoOk v) (h : p ∈ pcs v r) (h1 : p.a ≤ j) (h2 : j < p.u) : ceM v r (2 * j + 1) = p.c := by
  obtain ⟨i, e1, e2, e3, _⟩ := mem_pcsF h
  rw [e3, cel_mid]
  exact ceM_const hv (gap_free e1 e2) (by omega) (by omega) (by omega) (by omega)
/-- behind all crossings a ray is in no cell -/
theorem far_out {v : Vo} {r : Ra} {m : Int} (hv : VoOk v) (hr : RaOk r) (h : ∀ x ∈ crs v r, 2 * x < m) : ceM v r m < 0 := by
  have key : ∀ (b d : Int) (n : Nat), d ≠ 0 → d ∣ tk r → (∀ x ∈ crA (tk r) v.sz b d n, 2 * x < m) → ¬ 0 ≤ celA (tk r) v.sz b d n 0 m := by
    intro b d n h0 hd hx
    unfold VoOk at hv
    rw [celA_in (tk_pos r) (by omega), Int.zero_add]
    have hc : ∀ k : Int, 0 ≤ k → k ≤ (n : Int) → 2 * ((k * v.sz - b) * (tk r / d)) < m := by
      intro k k0 k1
      refine hx _ ?_
      unfold crA
      rw [if_neg h0]
      refine List.mem_map.2 ⟨k.toNat, List.mem_range.2 (by omega), ?_⟩
      unfold cr
      rw [Int.toNat_of_nonneg k0]
    rcases Int.lt_or_gt_of_ne h0 with hneg | hpos
    · have p1 := on_plane (sz := v.sz) (b := b) (k := 0) (m := m) hd h0
      have c1 := hc 0 (Int.le_refl _) (by omega)
      have := Int.mul_neg_of_neg_of_pos hneg (by omega : 0 < m - 2 * ((0 * v.sz - b) * (tk r / d)))
      rw [Int.mul_zero] at p1
      omega
    · have p1 := on_plane (sz := v.sz) (b := b) (k := n) (m := m) hd h0
      have c1 := hc n (by omega) (Int.le_refl _)
      have := Int.mul_pos hpos (by omega : 0 < m - 2 * (((n : Int) * v.sz - b) * (tk r / d)))
      omega
  have hv' := hv
  unfold VoOk at hv'
  rcases Int.lt_or_le (ceM v r m) 0 with h5 | h5
  · exact h5
  · exfalso
    unfold ceM at h5
    rw [cel_in hv] at h5
    have hr7 := hr.2.2.2.2.2.2
    rcases hr7 with h6 | h6 | h6
    · have := key r.x r.dx v.nx.toNat h6 (tk_dx h6) (fun x hx => h x (crs_x hx))
      rw [Int.toNat_of_nonneg (by omega)] at this
      exact this h5.1
    · have := key r.y r.dy v.ny.toNat h6 (tk_dy h6) (fun x hx => h x (crs_y hx))
      rw [Int.toNat_of_nonneg (by omega)] at this
      exact this h5.2.1
    · have := key r.z r.dz v.nz.toNat h6 (tk_dz h6) (fun x hx => h x (crs_z hx))
      rw [Int.toNat_of_nonneg (by omega)] at this
      exact this h5.2.2
/-- the gap of a tick -/
theorem gap_at {l : List Int} {j a : Int} (h0 : l[0]? = some a) (ha : a ≤ j) : (∃ i x y, l[i]? = some x ∧ l[i + 1]? = some y ∧ x ≤ j ∧ j < y) ∨ ∃ x, l[l.length - 1]? = some x ∧ x ≤ j := by
  have key : ∀ n, n < l.length → (∃ i x y, l[i]? = some x ∧ l[i + 1]? = some y ∧ x ≤ j ∧ j < y) ∨ ∃ x, l[n]? = some x ∧ x ≤ j := by
    intro n
    induction n with
    | zero => intro _; exact .inr ⟨a, h0, ha⟩
    | succ n ih =>
      intro hn
      rcases ih (by omega) with h | ⟨x, h1, h2⟩
      · exact .inl h
      · have h3 : l[n + 1]? = some l[n + 1] := List.getElem?_eq_getElem hn
        rcases Int.lt_or_le j l[n + 1] with h4 | h4
        · exact .inl ⟨n, x, _, h1, h3, h2, h4⟩
        · exact .inr ⟨_, h3, h4⟩
  have hl := (List.getElem?_eq_some_iff.1 h0).1
  exact key _ (by omega)
/-- each tick in which a ray is in a cell belongs to a piece -/
theorem pcs_cover {v : Vo} {r : Ra} {j : Int} (hv : VoOk v) (hr : RaOk r) (h0 : 0 ≤ j) (h : 0 ≤ ceM v r (2 * j + 1)) : ∃ p ∈ pcs v r, p.a ≤ j ∧ j < p.u := by
  rcases gap_at (ts_head v r) h0 with ⟨i, x, y, h1, h2, h3, h4⟩ | ⟨x, h1, h2⟩
  · have hc := ceM_const (m1 := 2 * j + 1) (m2 := x + y) hv (gap_free h1 h2) (by omega) (by omega) (by omega) (by omega)
    have hp := pcsF_mem (f := cel v r) h1 h2 (by rw [cel_mid, ← hc]; exact h)
    exact ⟨_, hp, h3, h4⟩
  · exfalso
    have := far_out (m := 2 * j + 1) hv hr (fun z hz => by
      rcases Int.lt_or_le 0 z with h5 | h5
      · have hm : z ∈ ts v r := (ts_mem _ _ _).2 (.inr ⟨h5, hz⟩)
        obtain ⟨k, hk, rfl⟩ := List.getElem_of_mem hm
        obtain ⟨hi, e1⟩ := List.getElem?_eq_some_iff.1 h1
        rcases Nat.lt_or_ge k ((ts v r).length - 1) with h6 | h6
        · have := List.pairwise_iff_getElem.1 (ts_inc v r) k _ hk hi h6
          omega
        · have : k = (ts v r).length - 1 := by omega
          subst this
          omega
      · omega)
    omega
/-- the cells on the two sides of a crossing differ -/
theorem cross_ne {v : Vo} {r : Ra} {x m1 m2 : Int} (hv : VoOk v) (hx : x ∈ crs v r) (h1 : m1 < 2 * x) (h2 : 2 * x < m2) (c1 : 0 ≤ ceM v r m1) (c2 : 0 ≤ ceM v r m2) : ceM v r m1 ≠ ceM v r m2 := by
  have hv' := hv
  unfold VoOk at hv'
  intro he
  have s1 := cel_split hv c1
  have s2 := cel_split hv c2
  unfold ceM at he
  have key : ∀ (b d : Int) (n : Nat), (d ≠ 0 → d ∣ tk r) → x ∈ crA (tk r) v.sz b d n → 0 ≤ celA (tk r) v.sz b d n 0 m1 → 0 ≤ celA (tk r) v.sz b d n 0 m2 → celA (tk r) v.sz b d n 0 m1 ≠ celA (tk r) v.sz b d n 0 m2 := by
    intro b d n hd hx d1 d2 e
    unfold crA at hx
    split at hx
    · cases hx
    · rename_i h0
      obtain ⟨k, _, rfl⟩ := List.mem_map.1 hx
      unfold cr at h1 h2
      have hd := hd h0
      have hP : 0 < 2 * tk r * v.sz := Int.mul_pos (by have := tk_pos r; omega) (by omega)
      have p1 := on_plane (sz := v.sz) (b := b) (k := k) (m := m1) hd h0
      have p2 := on_plane (sz := v.sz) (b := b) (k := k) (m := m2) hd h0
      have i1 := (celA_in (tk_pos r) (by omega)).1 d1
      have i2 := (celA_in (tk_pos r) (by omega)).1 d2
      unfold celA at e
      rw [if_neg (by omega), if_neg (by omega)] at e
      rw [Int.zero_add] at *
      rw [Int.zero_add] at *
      have l1 := Int.ediv_mul_le (2 * tk r * b + d * m1) (Int.ne_of_gt hP)
      have l2 := Int.lt_ediv_add_one_mul_self (2 * tk r * b + d * m1) hP
      have l3 := Int.ediv_mul_le (2 * tk r * b + d * m2) (Int.ne_of_gt hP)
      have l4 := Int.lt_ediv_add_one_mul_self (2 * tk r * b + d * m2) hP
      rw [e] at l1 l2
      generalize (2 * tk r * b + d * m2) / (2 * tk r * v.sz) = q at l1 l2 l3 l4
      have hk1 : (2 * tk r * v.sz) * ((k : Int) - q) = 2 * tk r * v.sz * k - q * (2 * tk r * v.sz) := by rw [Int.mul_sub, Int.mul_comm _ q]
      have hk2 : (2 * tk r * v.sz) * (q + 1 - (k : Int)) = (q + 1) * (2 * tk r * v.sz) - 2 * tk r * v.sz * k := by rw [Int.mul_sub, Int.mul_comm _ (q + 1)]
      rcases Int.lt_or_gt_of_ne h0 with hneg | hpos
      · have a1 := Int.mul_neg_of_neg_of_pos hneg (by omega : 0 < m2 - 2 * (((k : Int) * v.sz - b) * (tk r / d)))
        have a2 := Int.mul_pos_of_neg_of_neg hneg (by omega : m1 - 2 * (((k : Int) * v.sz - b) * (tk r / d)) < 0)
        have b1 := pos_lt hP (by omega : 0 < (2 * tk r * v.sz) * ((k : Int) - q))
        have b2 := pos_lt hP (by omega : 0 < (2 * tk r * v.sz) * (q + 1 - (k : Int)))
        omega
      · have a1 := Int.mul_pos hpos (by omega : 0 < m2 - 2 * (((k : Int) * v.sz - b) * (tk r / d)))
        have a2 := Int.mul_neg_of_pos_of_neg hpos (by omega : m1 - 2 * (((k : Int) * v.sz - b) * (tk r / d)) < 0)
        have b1 := pos_lt hP (by omega : 0 < (2 * tk r * v.sz) * ((k : Int) - q))
        have b2 := pos_lt hP (by omega : 0 < (2 * tk r * v.sz) * (q + 1 - (k : Int)))
        omega
  rw [he] at s1
  unfold crs at hx
  rw [List.mem_append, List.mem_append] at hx
  rcases hx with hx | hx | hx
  · have := key r.x r.dx v.nx.toNat (fun h => tk_dx h) hx
    rw [Int.toNat_of_nonneg (by omega)] at this
    exact this s1.1.1 s2.1.1 (by rw [← s1.2.2.2.1, s2.2.2.2.1])
  · have := key r.y r.dy v.ny.toNat (fun h => tk_dy h) hx
    rw [Int.toNat_of_nonneg (by omega)] at this
    exact this s1.2.1.1 s2.2.1.1 (by rw [← s1.2.2.2.2.1, s2.2.2.2.2.1])
  · have := key r.z r.dz v.nz.toNat (fun h => tk_dz h) hx
    rw [Int.toNat_of_nonneg (by omega)] at this
    exact this s1.2.2.1.1 s2.2.2.1.1 (by rw [← s1.2.2.2.2.2, s2.2.2.2.2.2])
/-! ### Runs -/
/-- a list of pieces is the runs of o between lo and hi (hi none: without end) -/
structure Runs (o : Int → Int) (In : Int → Prop) (l : List Pc) : Prop where
  sorted : l.Pairwise (fun p q => p.u ≤ q.a)
  pos : ∀ p ∈ l, p.a < p.u
  tell : ∀ p ∈ l, ∀ j, p.a ≤ j → j < p.u → In j ∧ o j = p.c
  nn : ∀ p ∈ l, 0 ≤ p.c
  cover : ∀ j, In j → 0 ≤ o j → ∃ p ∈ l, p.a ≤ j ∧ j < p.u
  adj : ∀ p ∈ l, ∀ q ∈ l, p.u = q.a → p.c ≠ q.c
theorem sorted_tri {l : List Pc} (h : l.Pairwise (fun p q => p.u ≤ q.a)) {p q : Pc} (hp : p ∈ l) (hq : q ∈ l) : p = q ∨ p.u ≤ q.a ∨ q.u ≤ p.a := by
  induction l with
  | nil => cases hp
  | cons x l ih =>
    have h' := List.pairwise_cons.1 h
    rcases List.mem_cons.1 hp with e1 | h1
    · rcases List.mem_cons.1 hq with e2 | h2
      · exact .inl (e1.trans e2.symm)
      · exact .inr (.inl (by rw [e1]; exact h'.1 _ h2))
    · rcases List.mem_cons.1 hq with e2 | h2
      · exact .inr (.inr (by rw [e2]; exact h'.1 _ h1))
      · exact ih h'.2 h1 h2
theorem Runs.sub {o : Int → Int} {In : Int → Prop} {l m : List Pc} (h : Runs o In l) (h' : Runs o In m) {p : Pc} (hp : p ∈ l) : p ∈ m := by
  have p0 := h.pos p hp
  have pc := h.nn p hp
  obtain ⟨i1, o1⟩ := h.tell p hp p.a (Int.le_refl _) p0
  obtain ⟨q, hq, q1, q2⟩ := h'.cover p.a i1 (by omega)
  have o2 := (h'.tell q hq p.a q1 q2).2
  have hc : q.c = p.c := by omega
  have key : ∀ (l m : List Pc) (h : Runs o In l) (h' : Runs o In m) (p : Pc) (hp : p ∈ l) (q : Pc) (hq : q ∈ m), q.a ≤ p.a → p.a < q.u → q.c = p.c → q.a = p.a := by
    intro l m h h' p hp q hq q1 q2 hc
    rcases Int.lt_or_eq_of_le q1 with hlt | he
    · exfalso
      obtain ⟨i3, o3⟩ := h'.tell q hq (p.a - 1) (by omega) (by omega)
      have pc := h.nn p hp
      obtain ⟨p', hp', a1, a2⟩ := h.cover (p.a - 1) i3 (by omega)
      have o4 := (h.tell p' hp' _ a1 a2).2
      have p0 := h.pos p hp
      have p0' := h.pos p' hp'
      rcases sorted_tri h.sorted hp' hp with rfl | h5 | h5
      · omega
      · exact h.adj p' hp' p hp (by omega) (by omega)
      · omega
    · exact he
  have ea : q.a = p.a := key l m h h' p hp q hq q1 q2 hc
  have q0 := h'.pos q hq
  have endE : ∀ (l m : List Pc) (h : Runs o In l) (h' : Runs o In m) (p : Pc) (hp : p ∈ l) (q : Pc) (hq : q ∈ m), q.a = p.a → q.c = p.c → ¬ p.u < q.u := by
    intro l m h h' p hp q hq ea hc hlt
    have p0 := h.pos p hp
    obtain ⟨i3, o3⟩ := h'.tell q hq p.u (by omega) hlt
    have pc := h.nn p hp
    obtain ⟨p', hp', a1, a2⟩ := h.cover p.u i3 (by omega)
    have o4 := (h.tell p' hp' _ a1 a2).2
    rcases sorted_tri h.sorted hp' hp with rfl | h5 | h5
    · omega
    · have := h.pos p' hp'; omega
    · exact h.adj p hp p' hp' (by omega) (by omega)
  have eu : q.u = p.u := by
    have e1 := endE l m h h' p hp q hq ea hc
    have e2 := endE m l h' h q hq p hp ea.symm hc.symm
    omega
  have : q = p := by
    cases q; cases p
    simp_all
  rw [← this]
  exact hq
theorem sorted_ext : ∀ {l m : List Pc}, l.Pairwise (fun p q => p.u ≤ q.a) → m.Pairwise (fun p q => p.u ≤ q.a) → (∀ p ∈ l, p.a < p.u) → (∀ p ∈ m, p.a < p.u) → (∀ p, p ∈ l ↔ p ∈ m) → l = m := by
  intro l
  induction l with
  | nil =>
    intro m _ _ _ _ h
    cases m with
    | nil => rfl
    | cons y m => exact absurd ((h y).2 (by simp)) (by simp)
  | cons x l ih =>
    intro m hl hm pl pm h
    cases m with
    | nil => exact absurd ((h x).1 (by simp)) (by simp)
    | cons y m =>
      have hl' := List.pairwise_cons.1 hl
      have hm' := List.pairwise_cons.1 hm
      have exy : x = y := by
        rcases List.mem_cons.1 ((h x).1 (by simp)) with e | e
        · exact e
        · rcases List.mem_cons.1 ((h y).2 (by simp)) with e' | e'
          · exact e'.symm
          · have a1 := hm'.1 x e
            have a2 := hl'.1 y e'
            have a3 := pl x (by simp)
            have a4 := pm y (by simp)
            omega
      subst exy
      congr 1
      refine ih hl'.2 hm'.2 (fun p hp => pl p (by simp [hp])) (fun p hp => pm p (by simp [hp])) fun p => ?_
      have hx0 := pl x (by simp)
      constructor
      · intro hp
        rcases List.mem_cons.1 ((h p).1 (by simp [hp])) with e | e
        · subst e
          have := hl'.1 p hp
          omega
        · exact e
      · intro hp
        rcases List.mem_cons.1 ((h p).2 (by simp [hp])) with e | e
        · subst e
          have := hm'.1 p hp
          omega
        · exact e
theorem Runs.uniq {o : Int → Int} {In : Int → Prop} {l m : List Pc} (h : Runs o In l) (h' : Runs o In m) : l = m :=
  sorted_ext h.sorted h'.sorted h.pos h'.pos fun _ => ⟨h.sub h', h'.sub h⟩
theorem pcs_runs {v : Vo} {r : Ra} (hv : VoOk v) (hr : RaOk r) : Runs (fun j => ceM v r (2 * j + 1)) (fun j => 0 ≤ j) (pcs v r) where
  sorted := pcsF_sorted (ts_inc v r)
  pos := fun p hp => (mem_pcs hv hp).2.2.2.1
  tell := fun p hp j h1 h2 => ⟨by have := (mem_pcs hv hp).2.2.1; omega, pcs_cell hv hp h1 h2⟩
  nn := fun p hp => (mem_pcs hv hp).1
  cover := fun j h0 h => pcs_cover hv hr h0 h
  adj := fun p hp q hq e => by
    have mp := mem_pcs hv hp
    have mq := mem_pcs hv hq
    have e1 := pcs_cell (j := p.u - 1) hv hp (by omega) (by omega)
    have e2 := pcs_cell (j := q.a) hv hq (by omega) (by omega)
    have hx : p.u ∈ crs v r := by
      rcases (ts_mem _ _ _).1 mp.2.2.2.2.2.2 with h | h
      · omega
      · exact h.2
    have := cross_ne (m1 := 2 * (p.u - 1) + 1) (m2 := 2 * q.a + 1) hv hx (by omega) (by omega) (by omega) (by omega)
    omega
end Go.Rock
