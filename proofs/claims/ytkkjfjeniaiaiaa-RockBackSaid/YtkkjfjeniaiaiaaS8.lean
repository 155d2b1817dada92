/- Plain laws of a ray that goes back. No walk in it. -/
import Derived.Test.YtkkjfjeniaiaiaaS4
import Derived.Test.YtkkjfjeniaiaiaaS5
namespace Go.Rock
open Go.Proofs.Ytkkjfjeniaiaiaa
def rB (k : Int) (r : Ra) : Ra := ⟨r.x + k * r.dx, r.y + k * r.dy, r.z + k * r.dz, -r.dx, -r.dy, -r.dz⟩
theorem tk_rB (k : Int) (r : Ra) : tk (rB k r) = tk r := by
  unfold tk
  show tkS (tkS (tkS 1 (-r.dx)) (-r.dy)) (-r.dz) = _
  rw [tkS_neg, tkS_neg, tkS_neg]
theorem lin_back (t b d k m : Int) : 2 * t * (b + k * d) + -d * m = 2 * t * b + d * (2 * (k * t) - m) := by
  rw [Int.mul_add, Int.mul_sub, Int.neg_mul]
  have : 2 * t * (k * d) = d * (2 * (k * t)) := by ac_rfl
  omega
theorem ceM_rB (v : Vo) (r : Ra) (k m : Int) : ceM v (rB k r) m = ceM v r (2 * (k * tk r) - m) := by
  unfold ceM cel celA
  rw [tk_rB]
  simp only [rB, Int.zero_add, lin_back]
theorem cutS_mem {f : Pc → Pc} {l : List Pc} {p : Pc} : p ∈ cutS f l ↔ (∃ q ∈ l, f q = p) ∧ p.a < p.u := by
  unfold cutS
  rw [List.mem_filter, List.mem_map, decide_eq_true_iff]
theorem cutS_pw {f : Pc → Pc} {l : List Pc} {R S : Pc → Pc → Prop} (h : l.Pairwise R) (hi : ∀ p q, (f p).a < (f p).u → (f q).a < (f q).u → R p q → S (f p) (f q)) : (cutS f l).Pairwise S := by
  induction l with
  | nil => exact List.Pairwise.nil
  | cons x l ih =>
    have h' := List.pairwise_cons.1 h
    rw [cutS_cons]
    split
    · rename_i hx
      refine List.pairwise_cons.2 ⟨fun p hp => ?_, ih h'.2⟩
      obtain ⟨⟨q, hq, rfl⟩, h2⟩ := cutS_mem.1 hp
      exact hi _ _ hx h2 (h'.1 q hq)
    · exact ih h'.2
theorem Runs.trunc {o : Int → Int} {T : Int} {l : List Pc} (h : Runs o (fun j => 0 ≤ j) l) : Runs o (fun j => 0 ≤ j ∧ j < T) (cutS (btw 0 T) l) where
  sorted := cutS_pw h.sorted fun p q _ _ hr => by
    show min p.u T ≤ max q.a 0
    omega
  pos := fun p hp => (cutS_mem.1 hp).2
  tell := fun p hp j h1 h2 => by
    obtain ⟨⟨q, hq, rfl⟩, _⟩ := cutS_mem.1 hp
    have h1 : max q.a 0 ≤ j := h1
    have h2 : j < min q.u T := h2
    have := h.tell q hq j (by omega) (by omega)
    exact ⟨⟨by omega, by omega⟩, this.2⟩
  nn := fun p hp => by
    obtain ⟨⟨q, hq, rfl⟩, _⟩ := cutS_mem.1 hp
    exact h.nn q hq
  cover := fun j hj ho => by
    obtain ⟨p, hp, h1, h2⟩ := h.cover j hj.1 ho
    have e1 : (btw 0 T p).a = max p.a 0 := rfl
    have e2 : (btw 0 T p).u = min p.u T := rfl
    exact ⟨btw 0 T p, cutS_mem.2 ⟨⟨p, hp, rfl⟩, by omega⟩, by omega, by omega⟩
  adj := fun p hp q hq e => by
    obtain ⟨⟨x, hx, rfl⟩, h1⟩ := cutS_mem.1 hp
    obtain ⟨⟨y, hy, rfl⟩, h2⟩ := cutS_mem.1 hq
    have e : min x.u T = max y.a 0 := e
    have h2 : max y.a 0 < min y.u T := h2
    have h1 : max x.a 0 < min x.u T := h1
    have t := (h.tell y hy y.a (Int.le_refl _) (h.pos y hy)).1
    exact h.adj x hx y hy (by omega)
def mirP (T : Int) (p : Pc) : Pc := ⟨p.c, T - p.u, T - p.a⟩
theorem Runs.mir {o : Int → Int} {T : Int} {l : List Pc} (h : Runs o (fun j => 0 ≤ j ∧ j < T) l) : Runs (fun j => o (T - 1 - j)) (fun j => 0 ≤ j ∧ j < T) (l.map (mirP T)).reverse where
  sorted := by
    rw [List.pairwise_reverse, List.pairwise_map]
    exact h.sorted.imp fun {p q} hr => by
      show T - q.a ≤ T - p.u
      omega
  pos := fun p hp => by
    obtain ⟨q, hq, rfl⟩ := List.mem_map.1 (List.mem_reverse.1 hp)
    have := h.pos q hq
    show T - q.u < T - q.a
    omega
  tell := fun p hp j h1 h2 => by
    obtain ⟨q, hq, rfl⟩ := List.mem_map.1 (List.mem_reverse.1 hp)
    have h1 : T - q.u ≤ j := h1
    have h2 : j < T - q.a := h2
    have := h.tell q hq (T - 1 - j) (by omega) (by omega)
    exact ⟨⟨by omega, by omega⟩, this.2⟩
  nn := fun p hp => by
    obtain ⟨q, hq, rfl⟩ := List.mem_map.1 (List.mem_reverse.1 hp)
    exact h.nn q hq
  cover := fun j hj ho => by
    obtain ⟨p, hp, h1, h2⟩ := h.cover (T - 1 - j) ⟨by omega, by omega⟩ ho
    exact ⟨mirP T p, List.mem_reverse.2 (List.mem_map.2 ⟨p, hp, rfl⟩), by show T - p.u ≤ j; omega, by show j < T - p.a; omega⟩
  adj := fun p hp q hq e => by
    obtain ⟨x, hx, rfl⟩ := List.mem_map.1 (List.mem_reverse.1 hp)
    obtain ⟨y, hy, rfl⟩ := List.mem_map.1 (List.mem_reverse.1 hq)
    have e : T - x.a = T - y.u := e
    exact fun hc => h.adj y hy x hx (by omega) (show y.c = x.c from Eq.symm hc)
theorem back_runs {v : Vo} {r : Ra} {k : Int} (hv : VoOk v) (hr : RaOk r) (hs : RaOk (rB k r)) : cutS (btw 0 (k * tk r)) (pcs v (rB k r)) = ((cutS (btw 0 (k * tk r)) (pcs v r)).map (mirP (k * tk r))).reverse := by
  have h1 := (pcs_runs hv hs).trunc (T := k * tk r)
  have h2 := ((pcs_runs hv hr).trunc (T := k * tk r)).mir
  refine h1.uniq ?_
  have e : (fun j => ceM v (rB k r) (2 * j + 1)) = fun j => ceM v r (2 * (k * tk r - 1 - j) + 1) := by
    funext j
    rw [ceM_rB]
    congr 1
    omega
  rw [e]
  exact h2
theorem cutS_rev (f : Pc → Pc) (l : List Pc) : cutS f l.reverse = (cutS f l).reverse := by unfold cutS; rw [List.map_reverse, List.filter_reverse]
/-- the crossing of a plane by the ray that goes back -/
theorem when_back {t d h z k : Int} (hd : d ∣ t) : (h - (z + k * d)) * (t / -d) = k * t - (h - z) * (t / d) := by
  obtain ⟨q, rfl⟩ := hd
  by_cases h0 : d = 0
  · subst h0; simp
  · rw [Int.ediv_neg, Int.mul_ediv_cancel_left q h0, Int.mul_neg, show h - (z + k * d) = (h - z) - k * d by omega, Int.sub_mul]
    have : k * d * q = k * (d * q) := by ac_rfl
    omega
theorem und_back (v : Vo) (r : Ra) (g : List Int) (k : Int) (l : List Pc) : cutS (und v (rB k r) g) (l.map (mirP (k * tk r))) = (cutS (und v r g) l).map (mirP (k * tk r)) := by
  induction l with
  | nil => rfl
  | cons p l ih =>
    rw [List.map_cons, cutS_cons, cutS_cons, List.map_append, ih]
    congr 1
    have eu : und v (rB k r) g (mirP (k * tk r) p) = (if 0 < -r.dz then (⟨p.c, k * tk r - p.u, min (k * tk r - p.a) ((hgt v g p.c - (r.z + k * r.dz)) * (tk r / -r.dz))⟩ : Pc) else if -r.dz < 0 then ⟨p.c, max (k * tk r - p.u) ((hgt v g p.c - (r.z + k * r.dz)) * (tk r / -r.dz)), k * tk r - p.a⟩ else if hgt v g p.c ≤ r.z + k * r.dz then ⟨p.c, k * tk r - p.u, k * tk r - p.u⟩ else ⟨p.c, k * tk r - p.u, k * tk r - p.a⟩) := by
      unfold und
      rw [tk_rB]
      rfl
    rw [eu]
    clear eu
    unfold und
    by_cases h0 : r.dz = 0
    · rw [h0]
      simp only [Int.neg_zero, Int.lt_irrefl, if_false, Int.mul_zero, Int.add_zero]
      split
      · rw [if_neg (show ¬ (k * tk r - p.u < k * tk r - p.u) by omega), if_neg (show ¬ p.a < p.a by omega)]; rfl
      · by_cases hp : p.a < p.u
        · rw [if_pos (show k * tk r - p.u < k * tk r - p.a by omega), if_pos hp]; rfl
        · rw [if_neg (show ¬ k * tk r - p.u < k * tk r - p.a by omega), if_neg hp]; rfl
    · rw [when_back (tk_dz h0)]
      generalize (hgt v g p.c - r.z) * (tk r / r.dz) = X
      generalize k * tk r = T
      by_cases h1 : 0 < r.dz
      · rw [if_neg (show ¬ 0 < -r.dz by omega), if_pos (show -r.dz < 0 by omega), if_pos h1]
        by_cases hp : p.a < min p.u X
        · rw [if_pos (show max (T - p.u) (T - X) < T - p.a by omega), if_pos hp]
          show [(⟨p.c, max (T - p.u) (T - X), T - p.a⟩ : Pc)] = [⟨p.c, T - min p.u X, T - p.a⟩]
          rw [show max (T - p.u) (T - X) = T - min p.u X by omega]
        · rw [if_neg (show ¬ max (T - p.u) (T - X) < T - p.a by omega), if_neg hp]; rfl
      · rw [if_pos (show 0 < -r.dz by omega), if_neg h1, if_pos (show r.dz < 0 by omega)]
        by_cases hp : max p.a X < p.u
        · rw [if_pos (show T - p.u < min (T - p.a) (T - X) by omega), if_pos hp]
          show [(⟨p.c, T - p.u, min (T - p.a) (T - X)⟩ : Pc)] = [⟨p.c, T - p.u, T - max p.a X⟩]
          rw [show min (T - p.a) (T - X) = T - max p.a X by omega]
        · rw [if_neg (show ¬ T - p.u < min (T - p.a) (T - X) by omega), if_neg hp]; rfl
theorem trunc_split {T : Int} : ∀ {l : List Pc}, l.Pairwise (fun p q => p.u ≤ q.a) → (∀ p ∈ l, 0 ≤ p.a ∧ p.a < p.u) → cutS (btw 0 T) l = [] ∨ ∃ A z B, l = A ++ z :: B ∧ cutS (btw 0 T) l = A ++ [btw 0 T z] := by
  intro l
  induction l with
  | nil => intro _ _; exact .inl rfl
  | cons x l ih =>
    intro hs hp
    have hs' := List.pairwise_cons.1 hs
    have hx := hp x (by simp)
    rcases ih hs'.2 (fun p h => hp p (List.mem_cons_of_mem _ h)) with e | ⟨A, z, B, e1, e2⟩
    · rw [cutS_cons, e]
      split
      · exact .inr ⟨[], x, l, rfl, rfl⟩
      · exact .inl rfl
    · right
      have hz : btw 0 T z ∈ cutS (btw 0 T) l := by rw [e2]; simp
      obtain ⟨_, h2⟩ := cutS_mem.1 hz
      have h2 : max z.a 0 < min z.u T := h2
      have hxz := hs'.1 z (by rw [e1]; simp)
      have hb : btw 0 T x = x := by
        show (⟨x.c, max x.a 0, min x.u T⟩ : Pc) = x
        rw [show max x.a 0 = x.a by omega, show min x.u T = x.u by omega]
      refine ⟨x :: A, z, B, by rw [e1]; rfl, ?_⟩
      rw [cutS_cons, hb, if_pos hx.2, e2]
      rfl
theorem und_trunc (v : Vo) (r : Ra) (g : List Int) (T : Int) (z : Pc) (hz : 0 ≤ z.a) : cutS (und v r g) [btw 0 T z] = [] ∨ ∃ q q', cutS (und v r g) [btw 0 T z] = [q] ∧ cutS (und v r g) [z] = [q'] ∧ q.c = q'.c ∧ q.u - q.a ≤ q'.u - q'.a := by
  rw [cutS_cons, cutS_cons]
  have e : btw 0 T z = ⟨z.c, z.a, min z.u T⟩ := by
    show (⟨z.c, max z.a 0, min z.u T⟩ : Pc) = _
    rw [show max z.a 0 = z.a by omega]
  rw [e]
  unfold und
  show (if (if 0 < r.dz then (⟨z.c, z.a, min (min z.u T) ((hgt v g z.c - r.z) * (tk r / r.dz))⟩ : Pc) else if r.dz < 0 then ⟨z.c, max z.a ((hgt v g z.c - r.z) * (tk r / r.dz)), min z.u T⟩ else if hgt v g z.c ≤ r.z then ⟨z.c, z.a, z.a⟩ else ⟨z.c, z.a, min z.u T⟩).a < _ then _ else _) ++ _ = _ ∨ _
  generalize (hgt v g z.c - r.z) * (tk r / r.dz) = X
  by_cases h1 : 0 < r.dz
  · simp only [if_pos h1]
    split
    · rename_i h
      have h : z.a < min (min z.u T) X := h
      exact .inr ⟨_, ⟨z.c, z.a, min z.u X⟩, rfl, by rw [if_pos (show z.a < min z.u X by omega)]; rfl, rfl, by show min (min z.u T) X - z.a ≤ min z.u X - z.a; omega⟩
    · exact .inl rfl
  · by_cases h2 : r.dz < 0
    · simp only [if_neg h1, if_pos h2]
      split
      · rename_i h
        have h : max z.a X < min z.u T := h
        exact .inr ⟨_, ⟨z.c, max z.a X, z.u⟩, rfl, by rw [if_pos (show max z.a X < z.u by omega)]; rfl, rfl, by show min z.u T - max z.a X ≤ z.u - max z.a X; omega⟩
      · exact .inl rfl
    · simp only [if_neg h1, if_neg h2]
      by_cases h3 : hgt v g z.c ≤ r.z
      · simp only [if_pos h3, Int.lt_irrefl, if_false]
        exact .inl rfl
      · simp only [if_neg h3]
        split
        · rename_i h
          have h : z.a < min z.u T := h
          exact .inr ⟨_, z, rfl, by rw [if_pos (show z.a < z.u by omega)]; rfl, rfl, by show min z.u T - z.a ≤ z.u - z.a; omega⟩
        · exact .inl rfl
/-- what one list of chords says of another -/
def Tell (x y : List (Int × Int)) : Prop := ∃ P Q Q', x.reverse = P ++ Q ∧ y = P ++ Q' ∧ (Q = [] ∨ ∃ q q' R, Q = [q] ∧ Q' = q' :: R ∧ q.1 = q'.1 ∧ q.2 ≤ q'.2)
theorem Tell.at {x y : List (Int × Int)} (h : Tell x y) {n : Nat} (hn : n < x.length) : ∃ a b, x[x.length - 1 - n]? = some a ∧ y[n]? = some b ∧ a.1 = b.1 ∧ a.2 ≤ b.2 ∧ (n + 1 < x.length → a = b) := by
  obtain ⟨P, Q, Q', hx, hy, hq⟩ := h
  have e : x[x.length - 1 - n]? = (P ++ Q)[n]? := by rw [← hx, List.getElem?_reverse hn]
  have hl : x.length = P.length + Q.length := by rw [← List.length_reverse, hx, List.length_append]
  rw [e, hy]
  by_cases hp : n < P.length
  · rw [List.getElem?_append_left hp, List.getElem?_append_left hp, List.getElem?_eq_getElem hp]
    exact ⟨_, _, rfl, rfl, rfl, Int.le_refl _, fun _ => rfl⟩
  · rcases hq with rfl | ⟨q, q', R, rfl, rfl, h1, h2⟩
    · simp at hl; omega
    · have : n = P.length := by simp at hl; omega
      subst this
      refine ⟨q, q', by simp, by simp, h1, h2, fun h => ?_⟩
      simp at hl; omega
theorem chs_app (l m : List Pc) : chs (l ++ m) = chs l ++ chs m := by unfold chs; rw [List.map_append]
theorem chs_mir (T : Int) (l : List Pc) : chs (l.map (mirP T)).reverse = (chs l).reverse := by
  unfold chs
  rw [List.map_reverse, List.map_map]
  congr 1
  refine List.map_congr_left fun p _ => ?_
  show (p.c, T - p.a - (T - p.u)) = _
  rw [show T - p.a - (T - p.u) = p.u - p.a by omega]
theorem back_btw {v : Vo} {r : Ra} {k : Int} (hv : VoOk v) (hr : RaOk r) (hs : RaOk (rB k r)) : chs (cutS (btw 0 (k * tk r)) (pcs v (rB k r))) = (chs (cutS (btw 0 (k * tk r)) (pcs v r))).reverse := by
  rw [back_runs hv hr hs, chs_mir]
theorem back_tell {v : Vo} {r : Ra} {k : Int} (hv : VoOk v) (hr : RaOk r) (hs : RaOk (rB k r)) (hb : ∀ p ∈ pcs v r, p.u ≤ k * tk r) (g : List Int) :
    Tell (chs (cutS (und v r g) (pcs v r))) (chs (cutS (und v (rB k r) g) (pcs v (rB k r)))) := by
  have hrun := back_runs hv hr hs
  have hid : cutS (btw 0 (k * tk r)) (pcs v r) = pcs v r := by
    unfold cutS
    have e : ∀ p ∈ pcs v r, btw 0 (k * tk r) p = p := fun p hp => by
      have := mem_pcs hv hp
      have := hb p hp
      show (⟨p.c, max p.a 0, min p.u (k * tk r)⟩ : Pc) = p
      rw [show max p.a 0 = p.a by omega, show min p.u (k * tk r) = p.u by omega]
    rw [List.map_congr_left e, List.map_id', List.filter_eq_self]
    exact fun p hp => decide_eq_true (mem_pcs hv hp).2.2.2.1
  rw [hid] at hrun
  have hx : (chs (cutS (und v r g) (pcs v r))).reverse = chs (cutS (und v (rB k r) g) (cutS (btw 0 (k * tk r)) (pcs v (rB k r)))) := by
    rw [hrun, cutS_rev, und_back, chs_mir]
  have hso : (pcs v (rB k r)).Pairwise (fun p q => p.u ≤ q.a) := (pcs_runs hv hs).sorted
  have hpo : ∀ p ∈ pcs v (rB k r), 0 ≤ p.a ∧ p.a < p.u := fun p hp => ⟨(mem_pcs hv hp).2.2.1, (mem_pcs hv hp).2.2.2.1⟩
  unfold Tell
  rw [hx]
  generalize pcs v (rB k r) = L at *
  rcases trunc_split (T := k * tk r) hso hpo with e | ⟨A, z, B, e1, e2⟩
  · rw [e]
    exact ⟨[], [], _, rfl, rfl, .inl rfl⟩
  · rw [e2]
    subst e1
    have hz := (hpo z (by simp)).1
    rw [cutS_app, chs_app, show A ++ z :: B = A ++ ([z] ++ B) from rfl, cutS_app, chs_app, cutS_app, chs_app]
    rcases und_trunc v (rB k r) g (k * tk r) z hz with e | ⟨q, q', h1, h2, h3, h4⟩
    · rw [e]
      exact ⟨_, [], _, rfl, rfl, .inl rfl⟩
    · rw [h1, h2]
      exact ⟨_, _, _, rfl, rfl, .inr ⟨(q.c, q.u - q.a), (q'.c, q'.u - q'.a), _, rfl, rfl, h3, h4⟩⟩
theorem thr_back {v : Vo} {r : Ra} (hv : VoOk v) {T : Int} (h : ∀ p, (pcs v r).getLast? = some p → p.u ≤ T) : ∀ p ∈ pcs v r, p.u ≤ T := by
  have hs : (pcs v r).Pairwise (fun p q => p.u ≤ q.a) := pcsF_sorted (ts_inc v r)
  have hp : ∀ p ∈ pcs v r, p.a < p.u := fun p hp => (mem_pcs hv hp).2.2.2.1
  generalize pcs v r = L at *
  induction L with
  | nil => intro p hp; cases hp
  | cons x L ih =>
    intro p hq
    have hs' := List.pairwise_cons.1 hs
    have rest : ∀ p ∈ L, p.u ≤ T := by
      cases L with
      | nil => intro p hp; cases hp
      | cons y L => exact ih (fun p hp => h p (by rw [List.getLast?_cons_cons]; exact hp)) hs'.2 (fun p h => hp p (List.mem_cons_of_mem _ h))
    rcases List.mem_cons.1 hq with rfl | hq
    · cases L with
      | nil => exact h _ rfl
      | cons y L =>
        have h1 := hs'.1 y (by simp)
        have h2 := rest y (by simp)
        have h3 := hp y (by simp)
        omega
    · exact rest p hq
end Go.Rock
