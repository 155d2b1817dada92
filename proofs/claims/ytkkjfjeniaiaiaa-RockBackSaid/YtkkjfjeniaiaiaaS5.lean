/- Plain laws of rays turned over, west and east exchanged. No walk in it. -/
import Derived.Test.YtkkjfjeniaiaiaaS3
namespace Go.Rock
def rT (v : Vo) (r : Ra) : Ra := { r with x := v.nx * v.sz - r.x, dx := -r.dx }
theorem absI_neg' (a : Int) : absI (-a) = absI a := by unfold absI; split <;> split <;> omega
theorem tkS_neg (l d : Int) : tkS l (-d) = tkS l d := by
  unfold tkS
  rw [Int.gcd_neg, absI_neg']
  by_cases h : d = 0
  · subst h; rfl
  · rw [if_neg h, if_neg (by omega)]
theorem tk_rT (v : Vo) (r : Ra) : tk (rT v r) = tk r := by
  unfold tk
  show tkS (tkS (tkS 1 (-r.dx)) r.dy) r.dz = _
  rw [tkS_neg]
theorem crA_turn {t sz b d x : Int} {n : Nat} : x ∈ crA t sz ((n : Int) * sz - b) (-d) n ↔ x ∈ crA t sz b d n := by
  have one : ∀ (b d : Int), d ≠ 0 → x ∈ (List.range (n + 1)).map (cr t sz b d) → x ∈ (List.range (n + 1)).map (cr t sz ((n : Int) * sz - b) (-d)) := by
    intro b d h0 h
    obtain ⟨k, hk, rfl⟩ := List.mem_map.1 h
    have hk := List.mem_range.1 hk
    refine List.mem_map.2 ⟨n - k, List.mem_range.2 (by omega), ?_⟩
    unfold cr
    have e : ((n - k : Nat) : Int) * sz - ((n : Int) * sz - b) = -((k : Int) * sz - b) := by
      rw [show ((n - k : Nat) : Int) = (n : Int) - k by omega, Int.sub_mul]
      omega
    rw [Int.ediv_neg, e, Int.neg_mul_neg]
  unfold crA
  by_cases h : d = 0
  · subst h; simp
  · rw [if_neg h, if_neg (by omega)]
    constructor
    · intro hx
      have := one ((n : Int) * sz - b) (-d) (by omega) hx
      rwa [Int.neg_neg, show (n : Int) * sz - ((n : Int) * sz - b) = b by omega] at this
    · exact one b d h
theorem inc_ext : ∀ {l m : List Int}, Inc l → Inc m → (∀ x, x ∈ l ↔ x ∈ m) → l = m := by
  intro l
  induction l with
  | nil =>
    intro m _ _ h
    cases m with
    | nil => rfl
    | cons y m => exact absurd ((h y).2 (by simp)) (by simp)
  | cons x l ih =>
    intro m hl hm h
    cases m with
    | nil => exact absurd ((h x).1 (by simp)) (by simp)
    | cons y m =>
      have hl' := List.pairwise_cons.1 hl
      have hm' := List.pairwise_cons.1 hm
      have exy : x = y := by
        rcases List.mem_cons.1 ((h x).1 (by simp)) with e | e
        · exact e
        · rcases List.mem_cons.1 ((h y).2 (by simp)) with e' | e'
          · exact e'.symm
          · have a1 := hm'.1 x e
            have a2 := hl'.1 y e'
            omega
      subst exy
      congr 1
      refine ih hl'.2 hm'.2 fun p => ?_
      constructor
      · intro hp
        rcases List.mem_cons.1 ((h p).1 (by simp [hp])) with e | e
        · subst e; have := hl'.1 p hp; omega
        · exact e
      · intro hp
        rcases List.mem_cons.1 ((h p).2 (by simp [hp])) with e | e
        · subst e; have := hm'.1 p hp; omega
        · exact e
theorem ts_turn {v : Vo} (r : Ra) (hv : VoOk v) : ts v (rT v r) = ts v r := by
  refine inc_ext (ts_inc _ _) (ts_inc _ _) fun x => ?_
  rw [ts_mem, ts_mem]
  have hn : ((v.nx.toNat : Nat) : Int) = v.nx := by unfold VoOk at hv; omega
  have : x ∈ crs v (rT v r) ↔ x ∈ crs v r := by
    unfold crs
    rw [tk_rT, List.mem_append, List.mem_append, List.mem_append, List.mem_append]
    have := crA_turn (t := tk r) (sz := v.sz) (b := r.x) (d := r.dx) (x := x) (n := v.nx.toNat)
    rw [hn] at this
    show (x ∈ crA (tk r) v.sz (v.nx * v.sz - r.x) (-r.dx) v.nx.toNat ∨ _) ↔ _
    rw [this]
    exact Iff.rfl
  rw [this]
theorem flr_turn {P n p : Int} (hP : 0 < P) (hn : ∀ k, 0 ≤ k → k ≤ n → p ≠ P * k) (h0 : 0 ≤ n) : flr P n (P * n - p) = if flr P n p < 0 then -1 else n - 1 - flr P n p := by
  have k0 := hn 0 (Int.le_refl _) h0
  have k1 := hn n h0 (Int.le_refl _)
  rw [Int.mul_zero] at k0
  by_cases h1 : p < 0
  · have a1 : flr P n (P * n - p) = -1 := if_pos (.inr (by omega))
    have a2 : flr P n p = -1 := if_pos (.inl h1)
    rw [a1, a2, if_pos (by omega)]
  · by_cases h2 : P * n ≤ p
    · have a1 : flr P n (P * n - p) = -1 := if_pos (.inl (by omega))
      have a2 : flr P n p = -1 := if_pos (.inr h2)
      rw [a1, a2, if_pos (by omega)]
    · have e0 := Int.ediv_nonneg (by omega : 0 ≤ p) (by omega : 0 ≤ P)
      have a1 : flr P n (P * n - p) = (P * n - p) / P := if_neg (by omega)
      have a2 : flr P n p = p / P := if_neg (by omega)
      rw [a1, a2, if_neg (by omega)]
      have e1 := Int.ediv_mul_le p (Int.ne_of_gt hP)
      have e2 := Int.lt_ediv_add_one_mul_self p hP
      have e3 : p / P < n := Int.ediv_lt_of_lt_mul hP (by rw [Int.mul_comm]; omega)
      have e4 := hn (p / P) e0 (by omega)
      rw [Int.mul_comm P] at e4
      generalize p / P = q at *
      have f1 : (n - 1 - q) * P = P * n - P - q * P := by rw [Int.sub_mul, Int.sub_mul, Int.one_mul, Int.mul_comm n]
      have f2 : (q + 1) * P = q * P + P := by rw [Int.add_mul, Int.one_mul]
      refine Int.le_antisymm ?_ ?_
      · have : (P * n - p) / P < n - q := Int.ediv_lt_of_lt_mul hP (by rw [Int.sub_mul, Int.mul_comm n]; omega)
        omega
      · rw [Int.le_ediv_iff_mul_le hP]
        omega
theorem celA_turn {t sz b d a c : Int} {n : Nat} (ht : 0 < t) (hs : 0 < sz) (hd : d ≠ 0 → d ∣ t) (hac : a < c) (hn : ∀ x ∈ crA t sz b d n, ¬ (a < x ∧ x < c)) (h0 : d = 0 → ¬ sz ∣ b) :
    celA t sz ((n : Int) * sz - b) (-d) n a c = if celA t sz b d n a c < 0 then -1 else (n : Int) - 1 - celA t sz b d n a c := by
  have hP : 0 < 2 * t * sz := Int.mul_pos (by omega) hs
  rw [celA_flr, celA_flr]
  have e : 2 * t * ((n : Int) * sz - b) + -d * (a + c) = 2 * t * sz * n - (2 * t * b + d * (a + c)) := by
    rw [Int.mul_sub, Int.neg_mul, show 2 * t * ((n : Int) * sz) = 2 * t * sz * n by ac_rfl]
    omega
  rw [e]
  refine flr_turn hP (fun k k0 k1 he => ?_) (by omega)
  by_cases hd0 : d = 0
  · subst hd0
    refine h0 rfl ⟨k, ?_⟩
    rw [Int.zero_mul, Int.add_zero, Int.mul_assoc (2 * t)] at he
    exact Int.eq_of_mul_eq_mul_left (by omega) he
  · have p1 := on_plane (sz := sz) (b := b) (k := k) (m := a + c) (hd hd0) hd0
    have hz : d * (a + c - 2 * ((k * sz - b) * (t / d))) = 0 := by omega
    have hz := (Int.mul_eq_zero.1 hz).resolve_left hd0
    refine hn ((k * sz - b) * (t / d)) ?_ ⟨by omega, by omega⟩
    unfold crA
    rw [if_neg hd0]
    refine List.mem_map.2 ⟨k.toNat, List.mem_range.2 (by omega), ?_⟩
    unfold cr
    rw [Int.toNat_of_nonneg k0]
def mirC (v : Vo) (c : Int) : Int := c - c % v.nx + v.nx - 1 - c % v.nx
def mirT (v : Vo) (p : Pc) : Pc := ⟨mirC v p.c, p.a, p.u⟩
theorem pcsF_map {f f' : Int → Int → Int} {g : Pc → Pc} : ∀ (l : List Int), (∀ i a c, l[i]? = some a → l[i + 1]? = some c → pc1 f' a c = (pc1 f a c).map g) → pcsF f' l = (pcsF f l).map g := by
  intro l
  induction l with
  | nil => intro _; rfl
  | cons x l ih =>
    intro h
    cases l with
    | nil => rfl
    | cons y l =>
      rw [pcsF, pcsF, List.map_append, h 0 x y rfl rfl]
      congr 1
      exact ih fun i a c h1 h2 => h (i + 1) a c h1 h2
theorem pcs_turn {v : Vo} {r : Ra} (hv : VoOk v) (h0 : r.dx = 0 → ¬ v.sz ∣ r.x) : pcs v (rT v r) = (pcs v r).map (mirT v) := by
  unfold pcs
  rw [ts_turn r hv]
  refine pcsF_map _ fun i a c h1 h2 => ?_
  have hfree := gap_free h1 h2
  have hac : a < c := by
    obtain ⟨hi, e1⟩ := List.getElem?_eq_some_iff.1 h1
    obtain ⟨hj, e2⟩ := List.getElem?_eq_some_iff.1 h2
    have := List.pairwise_iff_getElem.1 (ts_inc v r) i (i + 1) hi hj (by omega)
    omega
  have hv' := hv
  unfold VoOk at hv'
  have hn : ((v.nx.toNat : Nat) : Int) = v.nx := by omega
  have hx := celA_turn (n := v.nx.toNat) (tk_pos r) (by omega : 0 < v.sz) (fun h => tk_dx h) hac (fun x hx => hfree x (crs_x hx)) h0
  rw [hn] at hx
  have hcel : cel v (rT v r) a c = if 0 ≤ cel v r a c then mirC v (cel v r a c) else -1 := by
    have e : cel v (rT v r) a c = if 0 ≤ celA (tk r) v.sz (v.nx * v.sz - r.x) (-r.dx) v.nx a c ∧ 0 ≤ celA (tk r) v.sz r.y r.dy v.ny a c ∧ 0 ≤ celA (tk r) v.sz r.z r.dz v.nz a c then
        (celA (tk r) v.sz r.z r.dz v.nz a c * v.ny + celA (tk r) v.sz r.y r.dy v.ny a c) * v.nx + celA (tk r) v.sz (v.nx * v.sz - r.x) (-r.dx) v.nx a c else -1 := by
      unfold cel
      rw [tk_rT]
      rfl
    by_cases hc : 0 ≤ cel v r a c
    · have s := cel_split hv hc
      have hin := (cel_in hv).1 hc
      have hx2 : celA (tk r) v.sz (v.nx * v.sz - r.x) (-r.dx) v.nx a c = v.nx - 1 - celA (tk r) v.sz r.x r.dx v.nx a c := by rw [hx, if_neg (by omega)]
      have hs : cel v r a c = (celA (tk r) v.sz r.z r.dz v.nz a c * v.ny + celA (tk r) v.sz r.y r.dy v.ny a c) * v.nx + celA (tk r) v.sz r.x r.dx v.nx a c := by
        unfold cel
        rw [if_pos hin]
      rw [e, if_pos hc, if_pos ⟨by rw [hx2]; omega, hin.2.1, hin.2.2⟩, hx2]
      unfold mirC
      rw [s.2.2.2.1]
      omega
    · rw [e, if_neg hc]
      have hin := fun h => hc ((cel_in hv).2 h)
      rw [if_neg]
      rintro ⟨g1, g2, g3⟩
      refine hin ⟨?_, g2, g3⟩
      rw [hx] at g1
      split at g1 <;> omega
  unfold pc1
  rw [hcel]
  by_cases hc : 0 ≤ cel v r a c
  · have s := cel_split hv hc
    have hm : 0 ≤ mirC v (cel v r a c) := by
      unfold mirC
      rw [s.2.2.2.1]
      have := Int.emod_nonneg (cel v r a c) (by omega : v.nx ≠ 0)
      have h5 := Int.ediv_mul_le (cel v r a c) (by omega : v.nx ≠ 0)
      have h6 := Int.emod_add_mul_ediv (cel v r a c) v.nx
      have h7 := Int.ediv_nonneg hc (by omega : 0 ≤ v.nx)
      rw [s.2.2.2.1] at h6
      have h8 := Int.mul_nonneg (by omega : 0 ≤ v.nx) h7
      omega
    rw [if_pos hc, if_pos hc, if_pos hm]
    rfl
  · rw [if_neg hc, if_neg hc]
    rfl
end Go.Rock
