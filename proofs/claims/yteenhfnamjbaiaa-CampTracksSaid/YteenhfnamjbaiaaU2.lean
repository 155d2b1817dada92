/- Plain laws of scanners (layer 9): the classes that the program tells apart are those of the states that are equal in effect. No walk in it. -/
import Derived.Test.YteenhfnamjbaiaaU1
namespace Go.Camp
theorem cls_nodup {α : Type} [DecidableEq α] (ks : List α) : (clsP ks).1.Nodup := by
 refine cls_inv (α := α) (fun _ N => N.1.Nodup) List.nodup_nil (fun ks k s h => ?_) ks
 unfold clsS
 split
 ·exact h
 ·rename_i hk
  rw [List.nodup_append]
  exact ⟨h, by simp, fun a ha b hb e => by simp at hb; subst hb; subst e; exact hk ha⟩
/-- the numbers are where the keys first are -/
theorem cls_map {α : Type} [DecidableEq α] (ks : List α) : (clsP ks).2 = ks.map (ixN (clsP ks).1) := by
 have := cls_inv (α := α) (fun ks N => (∀ k ∈ ks, k ∈ N.1) ∧ N.2 = ks.map (ixN N.1)) ⟨fun k h => (by cases h), rfl⟩ (fun ks k s h => by
  obtain ⟨h1, h2⟩ := h
  unfold clsS
  split
  ·rename_i hk
   refine ⟨fun x hx => ?_, by rw [List.map_append, h2]; rfl⟩
   rcases List.mem_append.1 hx with hx | hx
   ·exact h1 x hx
   ·simp at hx; subst hx; exact hk
  ·rename_i hk
   refine ⟨fun x hx => ?_, ?_⟩
   ·rcases List.mem_append.1 hx with hx | hx
    ·exact List.mem_append_left _ (h1 x hx)
    ·exact List.mem_append_right _ hx
   ·have e1 : ks.map (ixN (s.1 ++ [k])) = ks.map (ixN s.1) := List.map_congr_left fun x hx => by
     unfold ixN
     rw [List.idxOf_append, if_pos (h1 x hx)]
    have e2 : ixN (s.1 ++ [k]) k = s.1.length := by
     unfold ixN
     rw [List.idxOf_append, if_neg hk]
     simp
    simp only [List.map_append, List.map_cons, List.map_nil, e1, e2, h2]) ks
 exact this.2
theorem ixN_inj {α : Type} [DecidableEq α] {l : List α} {a b : α} (ha : a ∈ l) (h : ixN l a = ixN l b) : a = b := by
 unfold ixN at h
 have h1 := List.idxOf_lt_length_of_mem ha
 have h2 : l.idxOf b < l.length := h ▸ h1
 have e1 := List.getElem_idxOf h1
 have e2 := List.getElem_idxOf h2
 rw [← e1, ← e2]
 congr 1
/-- the classes that have been told apart: a number for each state -/
theorem cls_key {α : Type} [DecidableEq α] (S : List Nat) (key : Nat → α) : (clsP (S.map key)).2 = S.map (fun x => ixN (clsP (S.map key)).1 (key x)) ∧ ∀ x ∈ S, ∀ y, (ixN (clsP (S.map key)).1 (key x) = ixN (clsP (S.map key)).1 (key y) ↔ key x = key y) := by
 refine ⟨by rw [cls_map, List.map_map]; rfl, fun x hx y => ⟨fun h => ?_, fun h => by rw [h]⟩⟩
 exact ixN_inj ((clsOk (S.map key)).1.sub _ (List.mem_map.2 ⟨x, hx, rfl⟩)) h
theorem cover_nodup {n : Nat} {l : List Nat} (h : ∀ c, c < n → c ∈ l) (hl : l.length ≤ n) : l.Nodup := by
 rw [List.nodup_iff_count]
 intro a
 rcases Nat.lt_or_ge 1 (l.count a) with hc | hc
 ·exfalso
  have ha : a ∈ l := List.count_pos_iff.1 (by omega)
  have := cover_len n (l.erase a) (fun c hc' => by
   by_cases e : c = a
   ·subst e
    refine List.count_pos_iff.1 ?_
    rw [List.count_erase_self]
    omega
   ·exact (List.mem_erase_of_ne e).2 (h c hc'))
  rw [List.length_erase_of_mem ha] at this
  have := List.length_pos_of_mem ha
  omega
 ·exact hc
theorem nodup_map_inj {α β : Type} {f : α → β} {l : List α} (h : (l.map f).Nodup) {a b : α} (ha : a ∈ l) (hb : b ∈ l) (e : f a = f b) : a = b := by
 obtain ⟨i, hi, rfl⟩ := List.getElem_of_mem ha
 obtain ⟨j, hj, rfl⟩ := List.getElem_of_mem hb
 have : i = j := by
  have h1 : i < (l.map f).length := by simpa using hi
  have h2 : j < (l.map f).length := by simpa using hj
  exact (List.getElem?_inj h1 h).1 (by rw [List.getElem?_eq_getElem h1, List.getElem?_eq_getElem h2]; simpa using e)
 subst this
 rfl
/-- what has been written for each state -/
theorem set_keep {β : Type} (κ : Nat → Nat) (val : Nat → β) (j : Nat) : ∀ (L : List Nat) (b : List β), (∀ x ∈ L, κ x ≠ j) → (L.foldl (fun l x => l.set (κ x) (val x)) b)[j]? = b[j]? := by
 intro L
 induction L with
 | nil => intro b _; rfl
 | cons a L ih =>
  intro b h
  rw [List.foldl_cons, ih _ (fun x hx => h x (List.mem_cons_of_mem _ hx)), List.getElem?_set, if_neg (h a (by simp))]
theorem set_hit {β : Type} (κ : Nat → Nat) (val : Nat → β) (j : Nat) (v : β) : ∀ (L : List Nat) (b : List β), j < b.length → (∀ x ∈ L, κ x = j → val x = v) → (∃ x ∈ L, κ x = j) → (L.foldl (fun l x => l.set (κ x) (val x)) b)[j]? = some v := by
 intro L
 induction L with
 | nil => intro b _ _ h; obtain ⟨x, hx, _⟩ := h; cases hx
 | cons a L ih =>
  intro b hj hv hh
  rw [List.foldl_cons]
  by_cases hr : ∃ x ∈ L, κ x = j
  ·exact ih _ (by simpa using hj) (fun x hx => hv x (List.mem_cons_of_mem _ hx)) hr
  ·obtain ⟨x, hx, e⟩ := hh
   rcases List.mem_cons.1 hx with rfl | hx
   ·rw [set_keep κ val j L _ (fun y hy e' => hr ⟨y, hy, e'⟩), e, List.getElem?_set_self hj, hv _ (by simp) e]
   ·exact absurd ⟨x, hx, e⟩ hr
theorem set_len {β : Type} (κ : Nat → Nat) (val : Nat → β) : ∀ (L : List Nat) (b : List β), (L.foldl (fun l x => l.set (κ x) (val x)) b).length = b.length := by
 intro L
 induction L with
 | nil => intro b; rfl
 | cons a L ih => intro b; rw [List.foldl_cons, ih]; simp
theorem zip_map {S : List Nat} {κ : Nat → Nat} : S.zip (S.map κ) = S.map fun x => (x, κ x) := by
 induction S with
 | nil => rfl
 | cons a S ih => simp [ih]
theorem ofU_map {S : List Nat} {κ : Nat → Nat} {o : List Nat} (hl : ∀ x ∈ S, x < o.length) : ∀ x ∈ S, (ofU S (S.map κ) o).getD x 0 = κ x := by
 intro x hx
 unfold ofU
 rw [zip_map, List.foldl_map, List.getD_eq_getElem?_getD]
 have := set_hit (fun x => x) κ x (κ x) S o (hl x hx) (fun y _ e => by rw [e]) ⟨x, hx, rfl⟩
 rw [this]
 rfl
section
variable {s : Sc} {S : List Nat}
def keyF (s : Sc) (κ : Nat → Nat) (x : Nat) : Nat × Nat × Nat := (κ x, κ (nxA s x).1, κ (nxA s x).2)
theorem keys2_map (hc : ∀ x ∈ S, (nxA s x).1 ∈ S ∧ (nxA s x).2 ∈ S) {κ : Nat → Nat} {o : List Nat} (hl : ∀ x ∈ S, x < o.length) : keys2 s S (S.map κ) (ofU S (S.map κ) o) = S.map (keyF s κ) := by
 unfold keys2
 rw [zip_map, List.map_map]
 refine List.map_congr_left fun x hx => ?_
 simp only [Function.comp, key2, keyF]
 rw [ofU_map hl _ (hc x hx).1, ofU_map hl _ (hc x hx).2]
/-- the search for classes ends with those of the states that are equal in effect -/
theorem smR_spec (hc : ∀ x ∈ S, (nxA s x).1 ∈ S ∧ (nxA s x).2 ∈ S) : ∀ (f many : Nat) (κ : Nat → Nat) (o : List Nat), (∀ x ∈ S, x < o.length) → S.length < many + f →
  (∀ x ∈ S, ∀ y ∈ S, Eq2 s s x y → κ x = κ y) → (∀ x ∈ S, ∀ y ∈ S, κ x = κ y → alA s x = alA s y) → (∀ c, c < many → c ∈ S.map κ) → (∀ x ∈ S, κ x < many) →
  ∃ (key : Nat → Nat × Nat × Nat) (o' : List Nat), smR s S f many (S.map κ) o = ((clsP (S.map key)).2, o', (clsP (S.map key)).1.length) ∧ o'.length = o.length ∧ ∀ x ∈ S, ∀ y ∈ S, (key x = key y ↔ Eq2 s s x y) := by
 intro f
 induction f with
 | zero =>
  intro many κ o hl hf _ _ hcov hlt
  have := cover_len many (S.map κ) hcov
  simp at this
  omega
 | succ f ih =>
  intro many κ o hl hf hq hal hcov hlt
  unfold smR
  rw [keys2_map hc hl]
  have hm : many ≤ (clsP (S.map (keyF s κ))).1.length := by
   have := more_cls (s := s) (S := S) (cls := S.map κ) (o := ofU S (S.map κ) o) (many := many) (by simp) hcov
   rwa [keys2_map hc hl] at this
  have hcl := clsOk (S.map (keyF s κ))
  split
  ·rename_i he
   refine ⟨keyF s κ, ofU S (S.map κ) o, by rw [he], ofU_len _ _ _, fun x hx y hy => ⟨fun h => ?_, fun h => ?_⟩⟩
   ·have hnd : ((clsP (S.map (keyF s κ))).1.map (·.1)).Nodup := by
     refine cover_nodup (n := many) (fun c hlt' => ?_) (by rw [List.length_map]; omega)
     obtain ⟨x, hx, rfl⟩ := List.mem_map.1 (hcov c hlt')
     exact List.mem_map.2 ⟨keyF s κ x, hcl.1.sub _ (List.mem_map.2 ⟨x, hx, rfl⟩), rfl⟩
    have hk : ∀ x ∈ S, ∀ y ∈ S, κ x = κ y → keyF s κ x = keyF s κ y := fun x hx y hy e =>
     nodup_map_inj hnd (hcl.1.sub _ (List.mem_map.2 ⟨x, hx, rfl⟩)) (hcl.1.sub _ (List.mem_map.2 ⟨y, hy, rfl⟩)) e
    refine bisim (R := fun x y => x ∈ S ∧ y ∈ S ∧ κ x = κ y) (fun x y hR c => ?_) ⟨hx, hy, congrArg (·.1) h⟩
    obtain ⟨hx, hy, e⟩ := hR
    have ek := hk x hx y hy e
    have ea := hal x hx y hy e
    unfold keyF at ek
    injection ek with _ ek
    injection ek with e1 e2
    cases c with
    | false => exact ⟨by unfold alC; simp [ea], (hc x hx).1, (hc y hy).1, e1⟩
    | true => exact ⟨by unfold alC; simp [ea], (hc x hx).2, (hc y hy).2, e2⟩
   ·unfold keyF
    rw [hq x hx y hy h, hq _ (hc x hx).1 _ (hc y hy).1 h.n1, hq _ (hc x hx).2 _ (hc y hy).2 h.n2]
  ·rename_i hne
   obtain ⟨k1, k2⟩ := cls_key S (keyF s κ)
   have h2 := hcl.1
   generalize clsP (S.map (keyF s κ)) = N at *
   rw [k1]
   obtain ⟨key, o', g1, g2, g3⟩ := ih N.1.length (fun x => ixN N.1 (keyF s κ x)) (ofU S (S.map κ) o) (fun x hx => by rw [ofU_len]; exact hl x hx) (by omega)
    (fun x hx y hy h => by
     refine (k2 x hx y).2 ?_
     unfold keyF
     rw [hq x hx y hy h, hq _ (hc x hx).1 _ (hc y hy).1 h.n1, hq _ (hc x hx).2 _ (hc y hy).2 h.n2])
    (fun x hx y hy e => hal x hx y hy (congrArg (·.1) ((k2 x hx y).1 e)))
    (fun c hlt' => by rw [← k1]; exact h2.cov c hlt')
    (fun x hx => h2.lt _ (by rw [k1]; exact List.mem_map.2 ⟨x, hx, rfl⟩))
   exact ⟨key, o', g1, by rw [g2, ofU_len], g3⟩
/-- the keys in their order are those of one state of each class -/
theorem cls_dd {α : Type} [DecidableEq α] {E : Nat → Nat → Bool} {key : Nat → α} {T : List Nat} (hk : ∀ x ∈ T, ∀ y ∈ T, (key x = key y ↔ E x y = true)) : ∀ (L D : List Nat) (N : List α × List Nat), (∀ x ∈ L, x ∈ T) → (∀ x ∈ D, x ∈ T) → N.1 = D.map key → ((L.map key).foldl clsS N).1 = (L.foldl (addE E) D).map key := by
 intro L
 induction L with
 | nil => intro D N _ _ h; exact h
 | cons a L ih =>
  intro D N hL hD h
  rw [List.map_cons, List.foldl_cons, List.foldl_cons]
  have ha := hL a (by simp)
  have hiff : key a ∈ N.1 ↔ Cov E D a := by
   rw [h, List.mem_map]
   constructor
   ·rintro ⟨y, hy, e⟩
    exact ⟨y, hy, (hk y (hD y hy) a ha).1 e⟩
   ·rintro ⟨y, hy, e⟩
    exact ⟨y, hy, (hk y (hD y hy) a ha).2 e⟩
  refine ih (addE E D a) (clsS N (key a)) (fun x hx => hL x (List.mem_cons_of_mem _ hx)) (fun x hx => ?_) ?_
  ·rcases addE_mem hx with h' | rfl
   ·exact hD x h'
   ·exact ha
  ·unfold clsS
   by_cases hc : Cov E D a
   ·rw [if_pos (hiff.2 hc), addE_pos hc]; exact h
   ·rw [if_neg (fun h' => hc (hiff.1 h')), addE_neg hc, List.map_append, h]; rfl
theorem ix_key {α : Type} [DecidableEq α] {E : Nat → Nat → Bool} {key : Nat → α} {T : List Nat} (hk : ∀ x ∈ T, ∀ y ∈ T, (key x = key y ↔ E x y = true)) {D : List Nat} (hD : ∀ x ∈ D, x ∈ T) {x : Nat} (hx : x ∈ T) : ixN (D.map key) (key x) = ixE E D x := by
 unfold ixN ixE
 induction D with
 | nil => rfl
 | cons a D ih =>
  rw [List.map_cons, List.idxOf_cons, List.findIdx_cons, ih (fun y hy => hD y (List.mem_cons_of_mem _ hy))]
  have := hk a (hD a (by simp)) x hx
  cases he : E a x with
  | true => rw [beq_iff_eq.2 (this.2 he)]
  | false => rw [beq_eq_false_iff_ne.2 (fun e => by rw [this.1 e] at he; cases he)]
end
/-- the program's least scanner is the least scanner -/
theorem small_can {s : Sc} {E : Nat → Nat → Bool} (h : ScOk s) (hE : EqT s E) : smallP s = canS s E (ddE E (reachP s)) ∧ (smE s).2.2 = (ddE E (reachP s)).length := by
 obtain ⟨_, _, hc⟩ := reachP_dd h hE
 have ham := reach_among h
 obtain ⟨S, hS⟩ : ∃ S, S = reachP s := ⟨_, rfl⟩
 rw [← hS] at hc ham
 have hE' : ∀ x ∈ S, ∀ y ∈ S, (E x y = true ↔ Eq2 s s x y) := fun x hx y hy => hE x y (ham.lt x hx) (ham.lt y hy)
 have hsm : ∃ (key : Nat → Nat × Nat × Nat) (o' : List Nat), smE s = ((clsP (S.map key)).2, o', (clsP (S.map key)).1.length) ∧ o'.length = s.nx.length ∧ ∀ x ∈ S, ∀ y ∈ S, (key x = key y ↔ Eq2 s s x y) := by
  unfold smE
  rw [← hS]
  obtain ⟨k1, k2⟩ := cls_key S (alA s)
  have hcl := (clsOk (S.map (alA s))).1
  have hln := ham.len
  generalize clsP (S.map (alA s)) = N at *
  rw [k1]
  obtain ⟨key, o', g1, g2, g3⟩ := smR_spec hc (s.nx.length + 1) N.1.length (fun x => ixN N.1 (alA s x)) (List.replicate s.nx.length 0) (fun x hx => by simpa using ham.lt x hx) (by omega)
   (fun x hx y hy h => (k2 x hx y).2 h.al2) (fun x hx y hy e => (k2 x hx y).1 e) (fun c hlt => by rw [← k1]; exact hcl.cov c hlt) (fun x hx => hcl.lt _ (by rw [k1]; exact List.mem_map.2 ⟨x, hx, rfl⟩))
  exact ⟨key, o', g1, by rw [g2]; simp, g3⟩
 obtain ⟨key, o', e1, e2, e3⟩ := hsm
 have hk : ∀ x ∈ S, ∀ y ∈ S, (key x = key y ↔ E x y = true) := fun x hx y hy => (e3 x hx y hy).trans (hE' x hx y hy).symm
 obtain ⟨D, hD⟩ : ∃ D, D = ddE E S := ⟨_, rfl⟩
 have hN1 : (clsP (S.map key)).1 = D.map key := by
  rw [hD]
  exact cls_dd hk S [] ([], []) (fun _ h => h) (fun x h => by cases h) rfl
 have hDs : ∀ x ∈ D, x ∈ S := hD ▸ ddE_sub E S
 have hDc : ∀ x ∈ S, Cov E D x := hD ▸ ddE_cov (fun x hx => eqT_refl hE (ham.lt x hx))
 have hix : ∀ x ∈ S, ixN (clsP (S.map key)).1 (key x) = ixE E D x := fun x hx => by rw [hN1]; exact ix_key hk hDs hx
 have h2 : (clsP (S.map key)).2 = S.map (ixE E D) := by
  rw [(cls_key S key).1]
  exact List.map_congr_left hix
 have hlen : (clsP (S.map key)).1.length = D.length := by rw [hN1, List.length_map]
 rw [h2, hlen] at e1
 rw [← hS, ← hD]
 refine ⟨?_, by rw [e1]⟩
 have hDi : ∀ (j y : Nat), D[j]? = some y → ixE E D y = j := fun j y hj => by
  have hyS := hDs y (List.mem_of_getElem? hj)
  obtain ⟨z, hz, hzy⟩ := ixE_get (hDc y hyS)
  have hap := ddE_apart E S
  rw [← hD] at hap
  rcases Nat.lt_trichotomy (ixE E D y) j with h' | h' | h'
  ·rw [hap _ _ _ _ h' hz hj] at hzy; cases hzy
  ·exact h'
  ·have h3 := hap _ _ _ _ h' hj hz
   have hzS := hDs z (List.mem_of_getElem? hz)
   have := (hE' y hyS z hzS).2 ((hE' z hzS y hyS).1 hzy).symm
   rw [h3] at this; cases this
 have hval : ∀ {β : Type} (val : Nat → β) (z : β), (∀ x ∈ S, ∀ y ∈ S, Eq2 s s x y → val x = val y) → S.foldl (fun l x => l.set (ixE E D x) (val x)) (List.replicate D.length z) = D.map val := by
  intro β val z hv
  refine List.ext_getElem? fun j => ?_
  rcases Nat.lt_or_ge j D.length with hj | hj
  ·have hj' : D[j]? = some D[j] := List.getElem?_eq_getElem hj
   have hm := List.mem_of_getElem? hj'
   rw [List.getElem?_map, hj', set_hit (ixE E D) val j (val D[j]) S _ (by simpa using hj) (fun x hx e => ?_) ⟨D[j], hDs _ hm, hDi _ _ hj'⟩]
   ·rfl
   ·obtain ⟨y, hy, hyx⟩ := ixE_get (hDc x hx)
    rw [e, hj'] at hy
    injection hy with hy
    rw [← hy] at hyx
    exact hv x hx _ (hDs _ hm) ((hE' _ (hDs _ hm) x hx).1 hyx).symm
  ·rw [List.getElem?_eq_none (by rw [set_len]; simpa using hj), List.getElem?_eq_none (by simpa using hj)]
 have hof : ∀ x ∈ S, (ofU S (S.map (ixE E D)) o').getD x 0 = ixE E D x := ofU_map (fun x hx => by rw [e2]; exact ham.lt x hx)
 have hcong : ∀ x ∈ S, ∀ y ∈ S, Eq2 s s x y → ixE E D x = ixE E D y := fun x hx y hy hq => by
  have key : ∀ (L : List Nat), (∀ z ∈ L, z ∈ S) → L.findIdx (fun z => E z x) = L.findIdx (fun z => E z y) := by
   intro L
   induction L with
   | nil => intro _; rfl
   | cons a L ih =>
    intro hL
    have ha := hL a (by simp)
    rw [List.findIdx_cons, List.findIdx_cons, ih (fun z hz => hL z (List.mem_cons_of_mem _ hz))]
    have : E a x = E a y := by
     rw [Bool.eq_iff_iff, hE' a ha x hx, hE' a ha y hy]
     exact ⟨fun h => h.trans hq, fun h => h.trans hq.symm⟩
    rw [this]
  exact key D hDs
 unfold smallP
 rw [← hS, e1]
 simp only
 unfold canS
 congr 1
 ·unfold nxU
  rw [zip_map, List.foldl_map]
  have := hval (valE s E D) (0, 0) (fun x hx y hy hq => by
   unfold valE
   rw [hcong _ (hc x hx).1 _ (hc y hy).1 hq.n1, hcong _ (hc x hx).2 _ (hc y hy).2 hq.n2])
  rw [← this]
  generalize List.replicate D.length ((0 : Int), (0 : Int)) = b
  have key : ∀ (L : List Nat) (b : List (Int × Int)), (∀ x ∈ L, x ∈ S) → L.foldl (fun l x => l.set (ixE E D x) ((((ofU S (S.map (ixE E D)) o').getD (nxA s x).1 0 : Nat) : Int), (((ofU S (S.map (ixE E D)) o').getD (nxA s x).2 0 : Nat) : Int))) b = L.foldl (fun l x => l.set (ixE E D x) (valE s E D x)) b := by
   intro L
   induction L with
   | nil => intro b _; rfl
   | cons a L ih =>
    intro b hL
    have ha := hL a (by simp)
    rw [List.foldl_cons, List.foldl_cons, ih _ (fun x hx => hL x (List.mem_cons_of_mem _ hx)), hof _ (hc a ha).1, hof _ (hc a ha).2]
    rfl
  exact key S b fun x hx => hx
 ·unfold alU
  rw [zip_map, List.foldl_map]
  exact hval (alA s) (false, false) (fun x _ y _ hq => hq.al2)
end Go.Camp
