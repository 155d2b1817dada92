/- Plain laws of surveys and grounds. No walk in it. -/
import Derived.Test.YtkkjfjeniaiaiaaCG
import Derived.Test.YtkkjfjeniaiaiaaR5
import Derived.Test.YtkkjfjeniaiaiaaR6
namespace Go.Proofs.Ytkkjfjeniaiaiaa
open Go.Rock
theorem absI_bd (a : Int) : a ≤ absI a ∧ -a ≤ absI a := by unfold absI; split <;> omega
theorem absI_le {a b : Int} (h1 : a ≤ b) (h2 : -a ≤ b) : absI a ≤ b := by unfold absI; split <;> omega
theorem far_tri (nx a b c : Int) : farI nx a c ≤ farI nx a b + farI nx b c := by
  unfold farI
  have h1 := absI_bd (a % nx - b % nx)
  have h2 := absI_bd (b % nx - c % nx)
  have h3 := absI_bd (a / nx - b / nx)
  have h4 := absI_bd (b / nx - c / nx)
  have h5 := absI_le (a := a % nx - c % nx) (b := absI (a % nx - b % nx) + absI (b % nx - c % nx)) (by omega) (by omega)
  have h6 := absI_le (a := a / nx - c / nx) (b := absI (a / nx - b / nx) + absI (b / nx - c / nx)) (by omega) (by omega)
  omega
theorem far_self (nx a : Int) : farI nx a a = 0 := by unfold farI; rw [Int.sub_self, Int.sub_self]; rfl
/-! ### The least and the greatest -/
theorem maxF_ge (f : Su → Int) : ∀ (l : List Su) (a : Int), a ≤ l.foldl (fun h s => max h (f s)) a ∧ ∀ s ∈ l, f s ≤ l.foldl (fun h s => max h (f s)) a := by
  intro l
  induction l with
  | nil => intro a; exact ⟨Int.le_refl _, fun s h => by cases h⟩
  | cons x l ih =>
    intro a
    obtain ⟨h1, h2⟩ := ih (max a (f x))
    rw [List.foldl_cons]
    refine ⟨by omega, fun s hs => ?_⟩
    rcases List.mem_cons.1 hs with rfl | hs
    · omega
    · exact h2 s hs
theorem maxF_le (f : Su → Int) {b : Int} : ∀ (l : List Su) (a : Int), a ≤ b → (∀ s ∈ l, f s ≤ b) → l.foldl (fun h s => max h (f s)) a ≤ b := by
  intro l
  induction l with
  | nil => intro a h _; exact h
  | cons x l ih =>
    intro a h hl
    rw [List.foldl_cons]
    have := hl x (by simp)
    exact ih _ (by omega) fun s hs => hl s (by simp [hs])
theorem minF_le (f : Su → Int) : ∀ (l : List Su) (a : Int), l.foldl (fun h s => min h (f s)) a ≤ a ∧ ∀ s ∈ l, l.foldl (fun h s => min h (f s)) a ≤ f s := by
  intro l
  induction l with
  | nil => intro a; exact ⟨Int.le_refl _, fun s h => by cases h⟩
  | cons x l ih =>
    intro a
    obtain ⟨h1, h2⟩ := ih (min a (f x))
    rw [List.foldl_cons]
    refine ⟨by omega, fun s hs => ?_⟩
    rcases List.mem_cons.1 hs with rfl | hs
    · omega
    · exact h2 s hs
theorem minF_ge (f : Su → Int) {b : Int} : ∀ (l : List Su) (a : Int), b ≤ a → (∀ s ∈ l, b ≤ f s) → b ≤ l.foldl (fun h s => min h (f s)) a := by
  intro l
  induction l with
  | nil => intro a h _; exact h
  | cons x l ih =>
    intro a h hl
    rw [List.foldl_cons]
    have := hl x (by simp)
    exact ih _ (by omega) fun s hs => hl s (by simp [hs])
section
variable {v : Vo} {st : Int} {l : List Su}
theorem lst_len : (lst v st l).length = (v.nx * v.ny).toNat := by simp [lst]
theorem mst_len : (mst v st l).length = (v.nx * v.ny).toNat := by simp [mst]
theorem lst_get {i : Nat} (h : i < (v.nx * v.ny).toNat) : (lst v st l)[i]? = some (lstC v st l (i : Int)) := by unfold lst; rw [List.getElem?_map, List.getElem?_range h]; rfl
theorem mst_get {i : Nat} (h : i < (v.nx * v.ny).toNat) : (mst v st l)[i]? = some (mstC v st l (i : Int)) := by unfold mst; rw [List.getElem?_map, List.getElem?_range h]; rfl
theorem gI_of {g : List Int} {i : Nat} {x : Int} (h : g[i]? = some x) : gI g i = x := by unfold gI; rw [List.getD_eq_getElem?_getD, h]; rfl
theorem lst_gr (hv : VoOk v) (hl : LdOk v st l) : GrOk v (lst v st l) ∧ GrOk v (mst v st l) := by
  have hxy := vo_xy hv
  refine ⟨⟨fun h hh => ?_, by rw [lst_len]; omega⟩, ⟨fun h hh => ?_, by rw [mst_len]; omega⟩⟩
  · obtain ⟨i, hi, rfl⟩ := List.getElem_of_mem hh
    have hi' : i < (v.nx * v.ny).toNat := by rw [← lst_len (st := st) (l := l)]; exact hi
    have := lst_get (st := st) (l := l) hi'
    rw [List.getElem?_eq_getElem hi] at this
    rw [Option.some.inj this]
    exact (lstF_bd hv hl.2.1 hl.2.2 (by omega) (by omega) l hl.1).1
  · obtain ⟨i, hi, rfl⟩ := List.getElem_of_mem hh
    have hi' : i < (v.nx * v.ny).toNat := by rw [← mst_len (st := st) (l := l)]; exact hi
    have := mst_get (st := st) (l := l) hi'
    rw [List.getElem?_eq_getElem hi] at this
    rw [Option.some.inj this]
    exact (lstF_bd hv hl.2.1 hl.2.2 (by omega) (by omega) l hl.1).2
/-- no two clash -/
def NoCl (v : Vo) (st : Int) (l : List Su) : Prop := ∀ s ∈ l, ∀ t ∈ l, s.lo ≤ highS v st t s.col
theorem noCl_none (h : clsh v st l = none) : NoCl v st l := by
  intro s hs t ht
  obtain ⟨i, hi, rfl⟩ := List.getElem_of_mem hs
  obtain ⟨k, hk, rfl⟩ := List.getElem_of_mem ht
  have := fst2_none h i k (by omega) (by omega) hk
  unfold clP at this
  have := of_decide_eq_false this
  rw [List.getD_eq_getElem?_getD, List.getD_eq_getElem?_getD, List.getElem?_eq_getElem hi, List.getElem?_eq_getElem hk] at this
  simp only [Option.getD_some] at this
  omega
theorem cl_some {i k : Nat} (h : clsh v st l = some (i, k)) : ∃ s t, l[i]? = some s ∧ l[k]? = some t ∧ highS v st t s.col < s.lo := by
  obtain ⟨_, h1, h2, h3⟩ := fst2_some h
  have hi : i < l.length := by omega
  unfold clP at h3
  have h3 := of_decide_eq_true h3
  rw [List.getD_eq_getElem?_getD, List.getD_eq_getElem?_getD, List.getElem?_eq_getElem hi, List.getElem?_eq_getElem h2] at h3
  exact ⟨_, _, List.getElem?_eq_getElem hi, List.getElem?_eq_getElem h2, h3⟩
/-! ### Neighbours -/
theorem nat_dm {nx i : Nat} (_h : 0 < nx) : ((i : Int) % (nx : Int) = ((i % nx : Nat) : Int)) ∧ ((i : Int) / (nx : Int) = ((i / nx : Nat) : Int)) := ⟨(Int.natCast_emod i nx).symm, (Int.natCast_ediv i nx).symm⟩
theorem far_nat (nx a b : Nat) (h : 0 < nx) : farI (nx : Int) (a : Int) (b : Int) = absI (((a % nx : Nat) : Int) - ((b % nx : Nat) : Int)) + absI (((a / nx : Nat) : Int) - ((b / nx : Nat) : Int)) := by
  unfold farI
  rw [(nat_dm (i := a) h).1, (nat_dm (i := b) h).1, (nat_dm (i := a) h).2, (nat_dm (i := b) h).2]
theorem succ_mod {i nx : Nat} (h : 0 < nx) (hm : ¬ (i + 1) % nx = 0) : (i + 1) % nx = i % nx + 1 ∧ (i + 1) / nx = i / nx := by
  have h1 := Nat.mod_lt i h
  have h2 := Nat.div_add_mod i nx
  have h3 : i % nx + 1 ≠ nx := by
    intro e
    apply hm
    have : i + 1 = nx * (i / nx + 1) := by rw [Nat.mul_add, Nat.mul_one]; omega
    rw [this]; exact Nat.mul_mod_right _ _
  have e : i + 1 = (i % nx + 1) + nx * (i / nx) := by omega
  constructor
  · rw [e, Nat.add_mul_mod_self_left, Nat.mod_eq_of_lt (by omega)]
  · rw [e, Nat.add_mul_div_left _ _ h, Nat.div_eq_of_lt (by omega), Nat.zero_add]
theorem far_nbr (hv : VoOk v) {i n : Nat} (hn : n < 2) (h : ¬ (n = 0 ∧ nbr v i n % v.nx.toNat = 0)) : farI v.nx (i : Int) ((nbr v i n : Nat) : Int) ≤ 1 := by
  unfold VoOk at hv
  have hx : ((v.nx.toNat : Nat) : Int) = v.nx := by omega
  rw [← hx, far_nat _ _ _ (by omega)]
  have hn2 : n = 0 ∨ n = 1 := by omega
  rcases hn2 with rfl | rfl
  · have h : ¬ (i + 1) % v.nx.toNat = 0 := fun e => h ⟨rfl, e⟩
    obtain ⟨h1, h2⟩ := succ_mod (by omega) h
    show absI (_ - (((i + 1) % v.nx.toNat : Nat) : Int)) + absI (_ - (((i + 1) / v.nx.toNat : Nat) : Int)) ≤ 1
    rw [h1, h2]
    unfold absI
    split <;> split <;> omega
  · show absI (_ - (((i + v.nx.toNat) % v.nx.toNat : Nat) : Int)) + absI (_ - (((i + v.nx.toNat) / v.nx.toNat : Nat) : Int)) ≤ 1
    rw [Nat.add_mod_right, Nat.add_div_right _ (by omega)]
    unfold absI
    split <;> split <;> omega
/-! ### A ground that fits is not steep anywhere -/
theorem row_step {g : List Int} (_hv : VoOk v) (hf : ∀ i n, i < g.length → n < 2 → stOk v st g i n) (_hst : 0 ≤ st) : ∀ (k i : Nat), i % v.nx.toNat + k < v.nx.toNat → i + k < g.length → absI (gI g i - gI g (i + k)) ≤ st * k := by
  unfold VoOk at _hv
  intro k
  induction k with
  | zero => intro i _ _; rw [Nat.add_zero, Int.sub_self]; simp [absI]
  | succ k ih =>
    intro i h1 h2
    have hm : (i + 1) % v.nx.toNat = i % v.nx.toNat + 1 := by
      have := succ_mod (i := i) (nx := v.nx.toNat) (by omega) ?_
      · exact this.1
      · intro e
        have h3 := Nat.mod_lt i (by omega : 0 < v.nx.toNat)
        have h4 : i + 1 = (i % v.nx.toNat + 1) + v.nx.toNat * (i / v.nx.toNat) := by have := Nat.div_add_mod i v.nx.toNat; omega
        rw [h4, Nat.add_mul_mod_self_left, Nat.mod_eq_of_lt (by omega)] at e
        omega
    have a1 := hf i 0 (by omega) (by omega)
    have a2 := ih (i + 1) (by omega) (by omega)
    have a1 : absI (gI g i - gI g (i + 1)) ≤ st := by
      rcases a1 with h | h | h
      · exact absurd h.2 (by show ¬ (i + 1) % v.nx.toNat = 0; omega)
      · have : g.length ≤ i + 1 := h; omega
      · exact h
    rw [show i + 1 + k = i + (k + 1) by omega] at a2
    have b1 := absI_bd (gI g i - gI g (i + 1))
    have b2 := absI_bd (gI g (i + 1) - gI g (i + (k + 1)))
    have e : st * ((k + 1 : Nat) : Int) = st * k + st := by rw [show ((k + 1 : Nat) : Int) = (k : Int) + 1 by omega, Int.mul_add, Int.mul_one]
    rw [e]
    exact absI_le (by omega) (by omega)
theorem col_step {g : List Int} (hf : ∀ i n, i < g.length → n < 2 → stOk v st g i n) (_hst : 0 ≤ st) : ∀ (k i : Nat), i + v.nx.toNat * k < g.length → absI (gI g i - gI g (i + v.nx.toNat * k)) ≤ st * k := by
  intro k
  induction k with
  | zero => intro i _; rw [Nat.mul_zero, Nat.add_zero, Int.sub_self]; simp [absI]
  | succ k ih =>
    intro i h2
    rw [Nat.mul_add, Nat.mul_one] at h2 ⊢
    have a1 := hf i 1 (by omega) (by omega)
    have a2 := ih (i + v.nx.toNat) (by omega)
    have a1 : absI (gI g i - gI g (i + v.nx.toNat)) ≤ st := by
      rcases a1 with h | h | h
      · exact absurd h.1 (by decide)
      · have : g.length ≤ i + v.nx.toNat := h; omega
      · exact h
    rw [show i + v.nx.toNat + v.nx.toNat * k = i + (v.nx.toNat * k + v.nx.toNat) by omega] at a2
    have b1 := absI_bd (gI g i - gI g (i + v.nx.toNat))
    have b2 := absI_bd (gI g (i + v.nx.toNat) - gI g (i + (v.nx.toNat * k + v.nx.toNat)))
    have e : st * ((k + 1 : Nat) : Int) = st * k + st := by rw [show ((k + 1 : Nat) : Int) = (k : Int) + 1 by omega, Int.mul_add, Int.mul_one]
    rw [e]
    exact absI_le (by omega) (by omega)
theorem not_steep {g : List Int} (hv : VoOk v) (hg : GrOk v g) (hf : ∀ i n, i < g.length → n < 2 → stOk v st g i n) (hst : 0 ≤ st) {a b : Nat} (ha : a < g.length) (hb : b < g.length) : absI (gI g a - gI g b) ≤ st * farI v.nx (a : Int) (b : Int) := by
  have hv' := hv
  unfold VoOk at hv'
  have hx : ((v.nx.toNat : Nat) : Int) = v.nx := by omega
  have hnx : 0 < v.nx.toNat := by omega
  rw [← hx, far_nat _ _ _ hnx]
  have da := Nat.div_add_mod a v.nx.toNat
  have db := Nat.div_add_mod b v.nx.toNat
  have la := Nat.mod_lt a hnx
  have lb := Nat.mod_lt b hnx
  have hgl := hg.2
  have hny : g.length = v.nx.toNat * v.ny.toNat := by
    have : ((v.nx.toNat * v.ny.toNat : Nat) : Int) = v.nx * v.ny := by rw [Int.natCast_mul, hx, Int.toNat_of_nonneg (by omega)]
    omega
  have ya : a / v.nx.toNat < v.ny.toNat := Nat.div_lt_of_lt_mul (by omega)
  -- the corner: the row of a, the column of b
  obtain ⟨c, hc⟩ : ∃ c, c = v.nx.toNat * (a / v.nx.toNat) + b % v.nx.toNat := ⟨_, rfl⟩
  have hcl : c < g.length := by
    have : v.nx.toNat * (a / v.nx.toNat + 1) ≤ v.nx.toNat * v.ny.toNat := Nat.mul_le_mul_left _ ya
    rw [Nat.mul_add, Nat.mul_one] at this
    omega
  have hcm : c % v.nx.toNat = b % v.nx.toNat := by rw [hc, Nat.mul_add_mod, Nat.mod_eq_of_lt lb]
  have h1 : absI (gI g a - gI g c) ≤ st * absI (((a % v.nx.toNat : Nat) : Int) - ((b % v.nx.toNat : Nat) : Int)) := by
    rcases Nat.le_total (a % v.nx.toNat) (b % v.nx.toNat) with h | h
    · obtain ⟨k, hk⟩ : ∃ k, b % v.nx.toNat = a % v.nx.toNat + k := ⟨b % v.nx.toNat - a % v.nx.toNat, by omega⟩
      have := row_step hv hf hst k a (by omega) (by omega)
      rw [show a + k = c by omega] at this
      rw [show absI (((a % v.nx.toNat : Nat) : Int) - ((b % v.nx.toNat : Nat) : Int)) = k by unfold absI; split <;> omega]
      exact this
    · obtain ⟨k, hk⟩ : ∃ k, a % v.nx.toNat = b % v.nx.toNat + k := ⟨a % v.nx.toNat - b % v.nx.toNat, by omega⟩
      have := row_step hv hf hst k c (by omega) (by omega)
      rw [show c + k = a by omega] at this
      rw [show absI (((a % v.nx.toNat : Nat) : Int) - ((b % v.nx.toNat : Nat) : Int)) = k by unfold absI; split <;> omega]
      rw [← absI_neg, Int.neg_sub]
      exact this
  have h2 : absI (gI g c - gI g b) ≤ st * absI (((a / v.nx.toNat : Nat) : Int) - ((b / v.nx.toNat : Nat) : Int)) := by
    rcases Nat.le_total (a / v.nx.toNat) (b / v.nx.toNat) with h | h
    · obtain ⟨k, hk⟩ : ∃ k, b / v.nx.toNat = a / v.nx.toNat + k := ⟨b / v.nx.toNat - a / v.nx.toNat, by omega⟩
      have e : c + v.nx.toNat * k = b := by
        have : v.nx.toNat * (b / v.nx.toNat) = v.nx.toNat * (a / v.nx.toNat) + v.nx.toNat * k := by rw [hk, Nat.mul_add]
        omega
      have := col_step hf hst k c (by omega)
      rw [e] at this
      rw [show absI (((a / v.nx.toNat : Nat) : Int) - ((b / v.nx.toNat : Nat) : Int)) = k by unfold absI; split <;> omega]
      exact this
    · obtain ⟨k, hk⟩ : ∃ k, a / v.nx.toNat = b / v.nx.toNat + k := ⟨a / v.nx.toNat - b / v.nx.toNat, by omega⟩
      have e : b + v.nx.toNat * k = c := by
        have : v.nx.toNat * (a / v.nx.toNat) = v.nx.toNat * (b / v.nx.toNat) + v.nx.toNat * k := by rw [hk, Nat.mul_add]
        omega
      have := col_step hf hst k b (by omega)
      rw [e] at this
      rw [show absI (((a / v.nx.toNat : Nat) : Int) - ((b / v.nx.toNat : Nat) : Int)) = k by unfold absI; split <;> omega]
      rw [← absI_neg, Int.neg_sub]
      exact this
  have b1 := absI_bd (gI g a - gI g c)
  have b2 := absI_bd (gI g c - gI g b)
  rw [Int.mul_add]
  exact absI_le (by omega) (by omega)
/-! ### The theorem of grounds -/
theorem fit_survey {g : List Int} (hv : VoOk v) (hl : LdOk v st l) (hg : GrOk v g) (hf : FtOk v st l g) {s : Su} (hs : s ∈ l) {c : Nat} (hc : c < g.length) : lowS v st s (c : Int) ≤ gI g c ∧ gI g c ≤ highS v st s (c : Int) := by
  have hso := hl.1 s hs
  unfold SuOk at hso
  have hgl := hg.2
  have hcol : s.col.toNat < g.length := by omega
  have h1 := hf.1 s hs
  unfold suOk at h1
  have h2 := not_steep hv hg hf.2 hl.2.1 hcol hc
  rw [Int.toNat_of_nonneg hso.1.1] at h2
  have h3 := absI_bd (gI g s.col.toNat - gI g c)
  unfold lowS highS
  omega
theorem no_fit {g : List Int} (hv : VoOk v) (hl : LdOk v st l) (hg : GrOk v g) (hf : FtOk v st l g) : NoCl v st l := by
  intro s hs t ht
  have hso := hl.1 s hs
  unfold SuOk at hso
  have hgl := hg.2
  have h1 := hf.1 s hs
  unfold suOk at h1
  have h2 := fit_survey hv hl hg hf ht (c := s.col.toNat) (by omega)
  rw [Int.toNat_of_nonneg hso.1.1] at h2
  omega
theorem fit_between {g : List Int} (hv : VoOk v) (hl : LdOk v st l) (hg : GrOk v g) (hf : FtOk v st l g) : GG v (lst v st l) g ∧ GG v g (mst v st l) := by
  have hlm := lst_gr hv hl
  have hgl := hg.2
  refine ⟨⟨hlm.1, hg, fun i x y hx hy => ?_⟩, ⟨hg, hlm.2, fun i x y hx hy => ?_⟩⟩
  · have hi : i < g.length := (List.getElem?_eq_some_iff.1 hy).1
    rw [lst_get (by omega)] at hx
    cases hx
    have := hg.1 y (List.mem_of_getElem? hy)
    refine maxF_le _ _ _ this.1 fun s hs => ?_
    have h := (fit_survey hv hl hg hf hs hi).1
    rw [gI_of hy] at h
    exact h
  · have hi : i < g.length := (List.getElem?_eq_some_iff.1 hx).1
    rw [mst_get (by omega)] at hy
    cases hy
    have := hg.1 x (List.mem_of_getElem? hx)
    refine minF_ge _ _ _ this.2 fun s hs => ?_
    have h := (fit_survey hv hl hg hf hs hi).2
    rw [gI_of hx] at h
    exact h
theorem low_step (hst : 0 ≤ st) (s : Su) {a b : Int} (h : farI v.nx a b ≤ 1) : lowS v st s a - st ≤ lowS v st s b ∧ highS v st s b ≤ highS v st s a + st := by
  have h1 := far_tri v.nx s.col a b
  have h2 : st * farI v.nx s.col b ≤ st * (farI v.nx s.col a + 1) := Int.mul_le_mul_of_nonneg_left (by omega) hst
  rw [Int.mul_add, Int.mul_one] at h2
  unfold lowS highS
  omega
theorem lst_fits (hv : VoOk v) (hl : LdOk v st l) (hn : NoCl v st l) : FtOk v st l (lst v st l) ∧ FtOk v st l (mst v st l) ∧ GG v (lst v st l) (mst v st l) := by
  have hxy := vo_xy hv
  have hzs := vo_zs hv
  have hlm := lst_gr hv hl
  have mm : ∀ s ∈ l, ∀ t ∈ l, ∀ c, lowS v st s c ≤ highS v st t c := by
    intro s hs t ht c
    have h1 := hn s hs t ht
    have h2 := far_tri v.nx t.col c s.col
    have h3 : st * farI v.nx t.col s.col ≤ st * (farI v.nx t.col c + farI v.nx c s.col) := Int.mul_le_mul_of_nonneg_left h2 hl.2.1
    rw [Int.mul_add, farI_comm v.nx c] at h3
    unfold lowS highS at *
    omega
  refine ⟨⟨fun s hs => ?_, fun i n hi hn2 => ?_⟩, ⟨fun s hs => ?_, fun i n hi hn2 => ?_⟩, hlm.1, hlm.2, fun i x y hx hy => ?_⟩
  · have hso := hl.1 s hs
    unfold SuOk at hso
    have e := lst_get (v := v) (st := st) (l := l) (i := s.col.toNat) (by omega)
    unfold suOk
    rw [gI_of e, Int.toNat_of_nonneg hso.1.1]
    constructor
    · have := (maxF_ge (fun s' => lowS v st s' s.col) l 0).2 s hs
      have e0 : lowS v st s s.col = s.lo := by unfold lowS; rw [far_self, Int.mul_zero, Int.sub_zero]
      unfold lstC
      omega
    · refine maxF_le _ _ _ (by omega) fun t ht => ?_
      have h1 := hn t ht s hs
      unfold lowS highS at *
      rw [farI_comm v.nx t.col]
      omega
  · rw [lst_len] at hi
    by_cases h0 : n = 0 ∧ nbr v i n % v.nx.toNat = 0
    · exact .inl h0
    by_cases h1 : (lst v st l).length ≤ nbr v i n
    · exact .inr (.inl h1)
    rw [lst_len] at h1
    have hf := far_nbr hv hn2 h0
    have hf2 : farI v.nx ((nbr v i n : Nat) : Int) (i : Int) ≤ 1 := by rw [farI_comm]; exact hf
    refine .inr (.inr ?_)
    rw [gI_of (lst_get hi), gI_of (lst_get (by omega))]
    have key : ∀ a b : Int, farI v.nx a b ≤ 1 → lstC v st l a - st ≤ lstC v st l b := by
      intro a b hab
      have g1 := maxF_ge (fun s => lowS v st s b) l 0
      have : lstC v st l a ≤ lstC v st l b + st := by
        refine maxF_le _ _ _ ?_ fun s hs => ?_
        · have : 0 ≤ lstC v st l b := g1.1
          have := hl.2.1
          omega
        · have h5 : lowS v st s b ≤ lstC v st l b := g1.2 s hs
          have h6 := (low_step hl.2.1 s hab).1
          omega
      omega
    have k1 := key _ _ hf
    have k2 := key _ _ hf2
    exact absI_le (by omega) (by omega)
  · have hso := hl.1 s hs
    unfold SuOk at hso
    have e := mst_get (v := v) (st := st) (l := l) (i := s.col.toNat) (by omega)
    unfold suOk
    rw [gI_of e, Int.toNat_of_nonneg hso.1.1]
    constructor
    · refine minF_ge _ _ _ (by omega) fun t ht => ?_
      exact hn s hs t ht
    · have := (minF_le (fun s' => highS v st s' s.col) l (v.nz * v.sz)).2 s hs
      have e0 : highS v st s s.col = s.hi := by unfold highS; rw [far_self, Int.mul_zero, Int.add_zero]
      unfold mstC
      omega
  · rw [mst_len] at hi
    by_cases h0 : n = 0 ∧ nbr v i n % v.nx.toNat = 0
    · exact .inl h0
    by_cases h1 : (mst v st l).length ≤ nbr v i n
    · exact .inr (.inl h1)
    rw [mst_len] at h1
    have hf := far_nbr hv hn2 h0
    have hf2 : farI v.nx ((nbr v i n : Nat) : Int) (i : Int) ≤ 1 := by rw [farI_comm]; exact hf
    refine .inr (.inr ?_)
    rw [gI_of (mst_get hi), gI_of (mst_get (by omega))]
    have key : ∀ a b : Int, farI v.nx a b ≤ 1 → mstC v st l b ≤ mstC v st l a + st := by
      intro a b hab
      have g1 := minF_le (fun s => highS v st s b) l (v.nz * v.sz)
      have : mstC v st l b - st ≤ mstC v st l a := by
        refine minF_ge _ _ _ ?_ fun s hs => ?_
        · have : mstC v st l b ≤ v.nz * v.sz := g1.1
          have := hl.2.1
          omega
        · have h5 : mstC v st l b ≤ highS v st s b := g1.2 s hs
          have h6 := (low_step hl.2.1 s hab).2
          omega
      omega
    have k1 := key _ _ hf
    have k2 := key _ _ hf2
    exact absI_le (by omega) (by omega)
  · have hi : i < (v.nx * v.ny).toNat := by have := (List.getElem?_eq_some_iff.1 hx).1; rwa [lst_len] at this
    rw [lst_get hi] at hx
    rw [mst_get hi] at hy
    cases hx
    cases hy
    refine maxF_le _ _ _ (lstF_bd hv hl.2.1 hl.2.2 (by omega) (by omega) l hl.1).2.1 fun s hs => ?_
    refine minF_ge _ _ _ ?_ fun t ht => mm s hs t ht _
    have hso := hl.1 s hs
    unfold SuOk at hso
    have := far_st hv hl.2.1 hl.2.2 hso.1.1 (by omega : s.col < v.nx * v.ny) (by omega : 0 ≤ (i : Int)) (by omega)
    unfold lowS
    omega
end
end Go.Proofs.Ytkkjfjeniaiaiaa
