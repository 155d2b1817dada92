/- Plain laws of rays: parts, multiples, lower grounds, rays turned over. No walk in it. -/
import Derived.Test.YtkkjfjeniaiaiaaS3
import Derived.Test.YtkkjfjeniaiaiaaCA
namespace Go.Proofs.Ytkkjfjeniaiaiaa
open Go.Rock
/-! ### Cuts -/
def len1 (p : Pc) : Int := if p.a < p.u then p.u - p.a else 0
theorem cutS_cons (f : Pc → Pc) (p : Pc) (l : List Pc) : cutS f (p :: l) = (if (f p).a < (f p).u then [f p] else []) ++ cutS f l := by
  unfold cutS
  rw [List.map_cons, List.filter_cons]
  by_cases h : (f p).a < (f p).u
  · rw [if_pos h, if_pos (by simpa using h)]; rfl
  · rw [if_neg h, if_neg (by simpa using h)]; rfl
/-- the ticks of chords in a cell -/
def tot (l : List (Int × Int)) (k : Int) : Int := l.foldl (fun n p => if p.1 = k then n + p.2 else n) 0
theorem tot_from (k : Int) : ∀ (l : List (Int × Int)) (n : Int), l.foldl (fun n p => if p.1 = k then n + p.2 else n) n = n + tot l k := by
  intro l
  induction l with
  | nil => intro n; simp [tot]
  | cons p l ih =>
    intro n
    unfold tot
    rw [List.foldl_cons, List.foldl_cons, ih, ih]
    split <;> omega
theorem tot_cons (p : Int × Int) (l : List (Int × Int)) (k : Int) : tot (p :: l) k = (if p.1 = k then p.2 else 0) + tot l k := by
  rw [tot, List.foldl_cons, tot_from]
  split <;> omega
theorem tot_snoc (l : List (Int × Int)) (p : Int × Int) (k : Int) : tot (l ++ [p]) k = if p.1 = k then tot l k + p.2 else tot l k := by
  unfold tot
  rw [List.foldl_append]
  rfl
theorem tot_cut (f : Pc → Pc) (k : Int) (p : Pc) (l : List Pc) (hc : (f p).c = p.c) : tot (chs (cutS f (p :: l))) k = (if p.c = k then len1 (f p) else 0) + tot (chs (cutS f l)) k := by
  rw [cutS_cons]
  unfold len1
  by_cases h : (f p).a < (f p).u
  · rw [if_pos h, if_pos h]
    show tot (((f p).c, (f p).u - (f p).a) :: chs (cutS f l)) k = _
    rw [tot_cons, hc]
  · rw [if_neg h, if_neg h]
    simp
theorem tot_parts {a m u : Int} (h1 : a ≤ m) (h2 : m ≤ u) (k : Int) : ∀ l : List Pc, tot (chs (cutS (btw a m) l)) k + tot (chs (cutS (btw m u) l)) k = tot (chs (cutS (btw a u) l)) k := by
  intro l
  induction l with
  | nil => rfl
  | cons p l ih =>
    rw [tot_cut _ _ _ _ rfl, tot_cut _ _ _ _ rfl, tot_cut _ _ _ _ rfl]
    have : len1 (btw a m p) + len1 (btw m u p) = len1 (btw a u p) := by
      unfold len1 btw
      simp only
      split <;> split <;> split <;> omega
    split <;> omega
theorem tot_less (a u : Int) (k : Int) : ∀ l : List Pc, (∀ p ∈ l, p.a < p.u) → tot (chs (cutS (btw a u) l)) k ≤ tot (chs l) k := by
  intro l
  induction l with
  | nil => intro _; exact Int.le_refl _
  | cons p l ih =>
    intro h
    rw [tot_cut _ _ _ _ rfl]
    have hp := h p (by simp)
    have : len1 (btw a u p) ≤ p.u - p.a := by
      unfold len1 btw
      simp only
      split <;> omega
    have ih := ih fun q hq => h q (by simp [hq])
    show _ ≤ tot ((p.c, p.u - p.a) :: chs l) k
    rw [tot_cons]
    show _ ≤ (if p.c = k then p.u - p.a else 0) + _
    split <;> omega
theorem cut_all {v : Vo} {r : Ra} (hv : VoOk v) (hr : RaOk r) : cutS (btw 0 1000000000000) (pcs v r) = pcs v r := by
  have key : ∀ l : List Pc, (∀ p ∈ l, 0 ≤ p.a ∧ p.a < p.u ∧ p.u ≤ 1000000000000) → cutS (btw 0 1000000000000) l = l := by
    intro l
    induction l with
    | nil => intro _; rfl
    | cons p l ih =>
      intro h
      have hp := h p (by simp)
      rw [cutS_cons, ih fun q hq => h q (by simp [hq])]
      have e : btw 0 1000000000000 p = p := by
        unfold btw
        rw [Int.max_eq_left hp.1, Int.min_eq_left hp.2.2]
      rw [e, if_pos hp.2.1]
      rfl
  refine key _ fun p hp => ?_
  have hm := mem_pcs hv hp
  have := (ts_bd hv hr hm.2.2.2.2.2.2).2
  exact ⟨hm.2.2.1, hm.2.2.2.1, by omega⟩
/-! ### Multiples -/
def sc (b : Int) (p : Pc) : Pc := ⟨p.c, b * p.a, b * p.u⟩
def vS (b : Int) (v : Vo) : Vo := { v with sz := v.sz * b }
def rS (b : Int) (r : Ra) : Ra := { r with x := r.x * b, y := r.y * b, z := r.z * b }
theorem mul_lt {b x y : Int} (hb : 0 < b) : b * x < b * y ↔ x < y := Int.mul_lt_mul_left hb
theorem put_sc {b : Int} (hb : 0 < b) (n : Int) : ∀ l : List Int, put (l.map (b * ·)) (b * n) = (put l n).map (b * ·) := by
  intro l
  induction l with
  | nil => rfl
  | cons x l ih =>
    simp only [List.map_cons, put]
    by_cases h1 : x < n
    · rw [if_pos h1, if_pos ((mul_lt hb).2 h1), ih]; rfl
    · rw [if_neg h1, if_neg (fun h => h1 ((mul_lt hb).1 h))]
      by_cases h2 : x = n
      · rw [if_pos h2, if_pos (by rw [h2])]; rfl
      · rw [if_neg h2, if_neg (fun h => h2 (Int.eq_of_mul_eq_mul_left (by omega) h))]; rfl
theorem cr_sc (t sz b d by_ : Int) (k : Nat) : cr t (sz * by_) (b * by_) d k = by_ * cr t sz b d k := by
  unfold cr
  rw [← Int.mul_assoc, ← Int.sub_mul, Int.mul_comm _ by_, Int.mul_assoc by_]
theorem crR_sc {by_ : Int} (hb : 0 < by_) (l : List Int) (t b d : Int) (m : Nat) (sz : Int) : crR (l.map (by_ * ·)) t (b * by_) d m (sz * by_) = (crR l t b d m sz).map (by_ * ·) := by
  unfold crR
  split
  · rfl
  · have key : ∀ (ks : List Nat) (l : List Int), ks.foldl (fun l k => if 0 < cr t (sz * by_) (b * by_) d k then put l (cr t (sz * by_) (b * by_) d k) else l) (l.map (by_ * ·)) = (ks.foldl (fun l k => if 0 < cr t sz b d k then put l (cr t sz b d k) else l) l).map (by_ * ·) := by
      intro ks
      induction ks with
      | nil => intro l; rfl
      | cons k ks ih =>
        intro l
        rw [List.foldl_cons, List.foldl_cons, ← ih, cr_sc]
        congr 1
        by_cases h : 0 < cr t sz b d k
        · rw [if_pos h, if_pos (Int.mul_pos hb h), put_sc hb]
        · rw [if_neg h, if_neg (fun h' => h (pos_lt hb h'))]
    exact key _ l
theorem ts_sc {by_ : Int} (hb : 0 < by_) (v : Vo) (r : Ra) : ts (vS by_ v) (rS by_ r) = (ts v r).map (by_ * ·) := by
  have h0 : ([0] : List Int) = ([0] : List Int).map (by_ * ·) := by simp
  unfold ts
  show crR (crR (crR [0] (tk r) (r.x * by_) r.dx v.nx.toNat (v.sz * by_)) (tk r) (r.y * by_) r.dy v.ny.toNat (v.sz * by_)) (tk r) (r.z * by_) r.dz v.nz.toNat (v.sz * by_) = _
  conv => lhs; rw [h0, crR_sc hb, crR_sc hb, crR_sc hb]
theorem celA_sc {by_ : Int} (hb : 0 < by_) (t sz b d m a c : Int) : celA t (sz * by_) (b * by_) d m (by_ * a) (by_ * c) = celA t sz b d m a c := by
  have e1 : 2 * t * (b * by_) + d * (by_ * a + by_ * c) = by_ * (2 * t * b + d * (a + c)) := by
    rw [Int.mul_add by_, ← Int.mul_add by_ a c]
    have : 2 * t * (b * by_) = by_ * (2 * t * b) := by ac_rfl
    have : d * (by_ * (a + c)) = by_ * (d * (a + c)) := by ac_rfl
    omega
  have e2 : 2 * t * (sz * by_) = by_ * (2 * t * sz) := by ac_rfl
  unfold celA
  rw [e1, e2, Int.mul_assoc by_, Int.mul_ediv_mul_of_pos _ _ hb]
  have i1 : by_ * (2 * t * b + d * (a + c)) < 0 ↔ 2 * t * b + d * (a + c) < 0 := by
    have := mul_lt (x := 2 * t * b + d * (a + c)) (y := 0) hb
    rw [Int.mul_zero] at this
    exact this
  have i2 : by_ * (2 * t * sz * m) ≤ by_ * (2 * t * b + d * (a + c)) ↔ 2 * t * sz * m ≤ 2 * t * b + d * (a + c) := by
    have := mul_lt (x := 2 * t * b + d * (a + c)) (y := 2 * t * sz * m) hb
    omega
  simp only [i1, i2]
theorem cel_sc {by_ : Int} (hb : 0 < by_) (v : Vo) (r : Ra) (a c : Int) : cel (vS by_ v) (rS by_ r) (by_ * a) (by_ * c) = cel v r a c := by
  unfold cel
  show (if 0 ≤ celA (tk r) (v.sz * by_) (r.x * by_) r.dx v.nx (by_ * a) (by_ * c) ∧ 0 ≤ celA (tk r) (v.sz * by_) (r.y * by_) r.dy v.ny (by_ * a) (by_ * c) ∧ 0 ≤ celA (tk r) (v.sz * by_) (r.z * by_) r.dz v.nz (by_ * a) (by_ * c) then
    (celA (tk r) (v.sz * by_) (r.z * by_) r.dz v.nz (by_ * a) (by_ * c) * v.ny + celA (tk r) (v.sz * by_) (r.y * by_) r.dy v.ny (by_ * a) (by_ * c)) * v.nx + celA (tk r) (v.sz * by_) (r.x * by_) r.dx v.nx (by_ * a) (by_ * c) else -1) = _
  rw [celA_sc hb, celA_sc hb, celA_sc hb]
theorem pcsF_sc {by_ : Int} {f g : Int → Int → Int} (h : ∀ a c, f (by_ * a) (by_ * c) = g a c) : ∀ l : List Int, pcsF f (l.map (by_ * ·)) = (pcsF g l).map (sc by_) := by
  intro l
  induction l with
  | nil => rfl
  | cons x l ih =>
    cases l with
    | nil => rfl
    | cons y l =>
      simp only [List.map_cons] at ih ⊢
      rw [pcsF, pcsF, ih, List.map_append]
      congr 1
      unfold pc1
      rw [h]
      split <;> rfl
theorem pcs_sc {by_ : Int} (hb : 0 < by_) (v : Vo) (r : Ra) : pcs (vS by_ v) (rS by_ r) = (pcs v r).map (sc by_) := by
  unfold pcs
  rw [ts_sc hb]
  exact pcsF_sc (cel_sc hb v r) _
theorem cutS_sc {by_ : Int} (hb : 0 < by_) {f g : Pc → Pc} (h : ∀ p, f (sc by_ p) = sc by_ (g p)) (l : List Pc) : cutS f (l.map (sc by_)) = (cutS g l).map (sc by_) := by
  induction l with
  | nil => rfl
  | cons p l ih =>
    rw [List.map_cons, cutS_cons, cutS_cons, ih, List.map_append, h]
    congr 1
    show (if by_ * (g p).a < by_ * (g p).u then _ else _) = _
    by_cases hc : (g p).a < (g p).u
    · rw [if_pos hc, if_pos ((mul_lt hb).2 hc)]; rfl
    · rw [if_neg hc, if_neg (fun h' => hc ((mul_lt hb).1 h'))]; rfl
theorem hgt_sc (by_ : Int) (v : Vo) (g : List Int) (c : Int) : hgt (vS by_ v) (g.map (· * by_)) c = by_ * hgt v g c := by
  unfold hgt
  show (g.map (· * by_)).getD (c % (v.nx * v.ny)).toNat 0 = _
  rw [List.getD_eq_getElem?_getD, List.getElem?_map, List.getD_eq_getElem?_getD]
  cases g[(c % (v.nx * v.ny)).toNat]? with
  | none => simp
  | some x => simp [Int.mul_comm]
theorem mul_min {b x y : Int} (hb : 0 < b) : min (b * x) (b * y) = b * min x y := by
  have := mul_lt (x := y) (y := x) hb
  rcases Int.lt_or_le y x with h | h
  · have h' := this.2 h
    rw [Int.min_eq_right (by omega : b * y ≤ b * x), Int.min_eq_right (by omega : y ≤ x)]
  · rw [Int.min_eq_left (by omega : b * x ≤ b * y), Int.min_eq_left h]
theorem mul_max {b x y : Int} (hb : 0 < b) : max (b * x) (b * y) = b * max x y := by
  have := mul_lt (x := y) (y := x) hb
  rcases Int.lt_or_le y x with h | h
  · have h' := this.2 h
    rw [Int.max_eq_left (by omega : b * y ≤ b * x), Int.max_eq_left (by omega : y ≤ x)]
  · rw [Int.max_eq_right (by omega : b * x ≤ b * y), Int.max_eq_right h]
theorem und_sc {by_ : Int} (hb : 0 < by_) (v : Vo) (r : Ra) (g : List Int) (p : Pc) : und (vS by_ v) (rS by_ r) (g.map (· * by_)) (sc by_ p) = sc by_ (und v r g p) := by
  have e : ∀ h t : Int, (by_ * h - r.z * by_) * t = by_ * ((h - r.z) * t) := fun h t => by
    rw [Int.mul_comm r.z, ← Int.mul_sub, Int.mul_assoc]
  unfold und
  show (if 0 < r.dz then (⟨p.c, by_ * p.a, min (by_ * p.u) ((hgt (vS by_ v) (g.map (· * by_)) p.c - r.z * by_) * (tk r / r.dz))⟩ : Pc)
    else if r.dz < 0 then ⟨p.c, max (by_ * p.a) ((hgt (vS by_ v) (g.map (· * by_)) p.c - r.z * by_) * (tk r / r.dz)), by_ * p.u⟩
    else if hgt (vS by_ v) (g.map (· * by_)) p.c ≤ r.z * by_ then ⟨p.c, by_ * p.a, by_ * p.a⟩ else sc by_ p) = _
  rw [hgt_sc, e, mul_min hb, mul_max hb]
  split
  · rfl
  · split
    · rfl
    · have i : by_ * hgt v g p.c ≤ r.z * by_ ↔ hgt v g p.c ≤ r.z := by
        have := mul_lt (x := r.z) (y := hgt v g p.c) hb
        rw [Int.mul_comm r.z]
        omega
      simp only [i]
      split <;> rfl
/-! ### Lower grounds -/
def GLe (g' g : List Int) : Prop := ∀ i : Nat, g'.getD i 0 ≤ g.getD i 0
theorem hgt_le {v : Vo} {g' g : List Int} (h : GLe g' g) (c : Int) : hgt v g' c ≤ hgt v g c := h _
theorem ediv_nn {t d : Int} (ht : 0 < t) (hd : 0 < d) : 0 ≤ t / d := Int.ediv_nonneg (by omega) (by omega)
theorem ediv_np {t d : Int} (ht : 0 < t) (hd : d < 0) : t / d ≤ 0 := by
  have e : t / d = -(t / -d) := by rw [Int.ediv_neg, Int.neg_neg]
  have := ediv_nn ht (by omega : 0 < -d)
  omega
theorem und_mono {v : Vo} {r : Ra} {g' g : List Int} (h : GLe g' g) (p : Pc) (_hp : p.a < p.u) : len1 (und v r g' p) ≤ len1 (und v r g p) ∧ (und v r g' p).c = p.c := by
  have hh := hgt_le (v := v) h p.c
  have ht := tk_pos r
  refine ⟨?_, (shr_und v r g' p (by omega)).1⟩
  unfold und
  split
  · rename_i hd
    have e := Int.mul_le_mul_of_nonneg_right (by omega : hgt v g' p.c - r.z ≤ hgt v g p.c - r.z) (ediv_nn ht hd)
    unfold len1
    simp only
    split <;> split <;> omega
  · split
    · rename_i hd
      have e := Int.mul_le_mul_of_nonpos_right (by omega : hgt v g' p.c - r.z ≤ hgt v g p.c - r.z) (ediv_np ht hd)
      unfold len1
      simp only
      split <;> split <;> omega
    · unfold len1
      split <;> split <;> (try simp only) <;> (repeat' split) <;> omega
theorem cut_empty {f : Pc → Pc} {l : List Pc} : (cutS f l).isEmpty = true ↔ ∀ p ∈ l, len1 (f p) = 0 := by
  induction l with
  | nil => simp [cutS]
  | cons p l ih =>
    rw [cutS_cons]
    unfold len1
    by_cases h : (f p).a < (f p).u
    · rw [if_pos h]
      simp only [List.cons_append, List.isEmpty_cons, Bool.false_eq_true, false_iff]
      intro hh
      have := hh p (by simp)
      rw [if_pos h] at this
      omega
    · rw [if_neg h, List.nil_append, ih]
      constructor
      · intro hh q hq
        rcases List.mem_cons.1 hq with rfl | hq
        · rw [if_neg h]
        · exact hh q hq
      · intro hh q hq
        exact hh q (by simp [hq])
theorem len1_nn (p : Pc) : 0 ≤ len1 p := by unfold len1; split <;> omega
theorem clr_mono {v : Vo} {r : Ra} {g' g : List Int} (hv : VoOk v) (h : GLe g' g) (d : Int) (hc : clr v r g d = true) : clr v r g' d = true := by
  unfold clr at *
  rw [cut_empty] at *
  intro p hp
  have := (und_mono (v := v) (r := rz r d) h p (mem_pcs hv hp).2.2.2.1).1
  have h0 := hc p hp
  have h1 := len1_nn (und v (rz r d) g' p)
  omega
theorem hzI_spec (p : Int → Bool) : ∀ (n : Nat) (out : Int), out - n ≤ hzI p n out ∧ hzI p n out ≤ out ∧ (∀ x, hzI p n out ≤ x → x < out → p x = true) ∧ (out - n < hzI p n out → p (hzI p n out - 1) = false) := by
  intro n
  induction n with
  | zero => intro out; refine ⟨by simp [hzI], by simp [hzI], fun x h1 h2 => by simp only [hzI] at h1; omega, fun h => by simp only [hzI] at h; omega⟩
  | succ n ih =>
    intro out
    rw [hzI]
    by_cases h : p (out - 1) = true
    · rw [if_pos h]
      obtain ⟨h1, h2, h3, h4⟩ := ih (out - 1)
      refine ⟨by omega, by omega, fun x hx hx' => ?_, fun hx => h4 (by omega)⟩
      by_cases e : x = out - 1
      · subst e; exact h
      · exact h3 x hx (by omega)
    · rw [if_neg h]
      exact ⟨by omega, by omega, fun x h1 h2 => by omega, fun _ => by simpa using h⟩
theorem hzI_mono {p q : Int → Bool} (h : ∀ x, p x = true → q x = true) : ∀ (n : Nat) (out : Int), hzI q n out ≤ hzI p n out := by
  intro n
  induction n with
  | zero => intro out; exact Int.le_refl _
  | succ n ih =>
    intro out
    rw [hzI, hzI]
    by_cases h1 : p (out - 1) = true
    · rw [if_pos h1, if_pos (h _ h1)]; exact ih _
    · rw [if_neg h1]
      split
      · have := (hzI_spec q n (out - 1)).2.1; omega
      · exact Int.le_refl _
/-! ### Sums -/
theorem sumF_from (d : Int → Int) : ∀ (l : List Pc) (n : Int), l.foldl (fun s p => s + (p.u - p.a) * d p.c) n = n + sumF d l := by
  intro l
  induction l with
  | nil => intro n; simp [sumF]
  | cons p l ih =>
    intro n
    unfold sumF
    rw [List.foldl_cons, List.foldl_cons, ih, ih]
    omega
theorem sumF_cons (d : Int → Int) (p : Pc) (l : List Pc) : sumF d (p :: l) = (p.u - p.a) * d p.c + sumF d l := by
  rw [sumF, List.foldl_cons, sumF_from]
  omega
theorem sumF_cut (d : Int → Int) (f : Pc → Pc) (p : Pc) (l : List Pc) (hc : (f p).c = p.c) : sumF d (cutS f (p :: l)) = len1 (f p) * d p.c + sumF d (cutS f l) := by
  rw [cutS_cons]
  unfold len1
  by_cases h : (f p).a < (f p).u
  · rw [if_pos h, if_pos h, List.singleton_append, sumF_cons, hc]
  · rw [if_neg h, if_neg h]; simp
theorem sum_mono {f g : Pc → Pc} {d e : Int → Int} : ∀ (l : List Pc), (∀ p ∈ l, (f p).c = p.c ∧ (g p).c = p.c ∧ len1 (f p) ≤ len1 (g p) ∧ 0 ≤ d p.c ∧ d p.c ≤ e p.c) → sumF d (cutS f l) ≤ sumF e (cutS g l) := by
  intro l
  induction l with
  | nil => intro _; exact Int.le_refl _
  | cons p l ih =>
    intro h
    obtain ⟨h1, h2, h3, h4, h5⟩ := h p (by simp)
    rw [sumF_cut _ _ _ _ h1, sumF_cut _ _ _ _ h2]
    have := ih fun q hq => h q (by simp [hq])
    have h0 := len1_nn (g p)
    have m := Int.mul_le_mul h3 h5 h4 h0
    omega
theorem opS_mono {v : Vo} {r : Ra} {g' g : List Int} {d e : Int → Int} (hv : VoOk v) (h : GLe g' g) (hd : ∀ c, 0 ≤ c → c < v.nx * v.ny * v.nz → 0 ≤ d c ∧ d c ≤ e c) : opS v r g' d ≤ opS v r g e := by
  refine sum_mono _ fun p hp => ?_
  have hm := mem_pcs hv hp
  have hu := und_mono (v := v) (r := r) h p hm.2.2.2.1
  have hdc := hd p.c hm.1 hm.2.1
  exact ⟨hu.2, (shr_und v r g p (by omega)).1, hu.1, hdc.1, hdc.2⟩
end Go.Proofs.Ytkkjfjeniaiaiaa
