/- Plain laws of scanners (layer 9): the least scanner is equal in effect, and the least; differences; products. No walk in it. -/
import Derived.Test.YteenhfnamjbaiaaU2
namespace Go.Camp
section
variable {s : Sc} {E : Nat → Nat → Bool} {D : List Nat} {c x : Nat}
theorem can_len : (canS s E D).nx.length = D.length := by simp [canS]
theorem can_al (hx : D[c]? = some x) : alA (canS s E D) c = alA s x := by simp [alA, canS, hx]
theorem can_nx (hx : D[c]? = some x) : nxA (canS s E D) c = (ixE E D (nxA s x).1, ixE E D (nxA s x).2) := by simp [nxA, canS, hx, valE]
theorem alC_of {a b : Sc} {x y : Nat} (h : alA a x = alA b y) (c : Bool) : alC a x c = alC b y c := by unfold alC; rw [h]
end
theorem reachR_word {s : Sc} : ∀ (f i : Nat) (l : List Nat), (∀ x ∈ l, ∃ cs, desS s 0 cs = x) → ∀ x ∈ reachR s f i l, ∃ cs, desS s 0 cs = x := by
 intro f
 induction f with
 | zero => intro i l h; exact h
 | succ f ih =>
  intro i l h
  unfold reachR
  split
  ·exact h
  ·rename_i y hy
   obtain ⟨cs, hcs⟩ := h y (List.mem_of_getElem? hy)
   have hadd : ∀ (l : List Nat) (k : Nat), (∀ x ∈ l, ∃ cs, desS s 0 cs = x) → (∃ cs, desS s 0 cs = k) → ∀ x ∈ addN l k, ∃ cs, desS s 0 cs = x := fun l k h1 h2 x hx => by
    unfold addN at hx
    split at hx
    ·exact h1 x hx
    ·rcases List.mem_append.1 hx with hx | hx
     ·exact h1 x hx
     ·simp at hx; subst hx; exact h2
   refine ih _ _ (hadd _ _ (hadd _ _ h ⟨cs ++ [false], ?_⟩) ⟨cs ++ [true], ?_⟩)
   ·rw [desS_snoc, hcs]; rfl
   ·rw [desS_snoc, hcs]; rfl
theorem desS_lt {s : Sc} (h : ScOk s) : ∀ (cs : List Bool) (x : Nat), x < s.nx.length → desS s x cs < s.nx.length := by
 intro cs
 induction cs with
 | nil => intro x hx; exact hx
 | cons c cs ih => intro x _; exact ih _ (nxC_lt h x c)
/-- the least scanner is as defined, has no more states, and is equal in effect -/
theorem small_ok {s : Sc} (h : ScOk s) : ScOk (smallP s) ∧ (smallP s).nx.length ≤ s.nx.length ∧ Eq2 (smallP s) s 0 0 ∧ (smE s).2.2 = (smallP s).nx.length := by
 obtain ⟨E, hE⟩ := exists_eqT s
 obtain ⟨e1, e2⟩ := small_can h hE
 obtain ⟨_, h0, hcl⟩ := reachP_dd h hE
 have ham := reach_among h
 rw [e1, e2]
 obtain ⟨D, hD⟩ : ∃ D, D = ddE E (reachP s) := ⟨_, rfl⟩
 have hDs : ∀ x ∈ D, x ∈ reachP s := hD ▸ ddE_sub E _
 have hDc : ∀ x ∈ reachP s, Cov E D x := hD ▸ ddE_cov (fun x hx => eqT_refl hE (ham.lt x hx))
 have hDl : D.length ≤ (reachP s).length := hD ▸ ddE_len E _
 have hDl2 := ham.len
 have hD0 : D[0]? = some 0 := by
  cases hS : reachP s with
  | nil => rw [hS] at h0; simp at h0
  | cons a t =>
   rw [hS] at h0 hD
   simp at h0
   subst h0
   have hp := ddE_pre E [0] t
   have ez : ddE E [0] = [0] := by simp [ddE, addE, ixE]
   rw [ez] at hp
   obtain ⟨r, hr⟩ := hp
   rw [hD, show (0 :: t : List Nat) = [0] ++ t from rfl, ← hr]
   rfl
 rw [← hD]
 have hn := h.n2
 have hD1 : 0 < D.length := (List.getElem?_eq_some_iff.1 hD0).1
 refine ⟨⟨by rw [can_len]; omega, by rw [can_len]; omega, by simp [canS], fun p hp => ?_⟩, by rw [can_len]; omega, ?_, can_len.symm⟩
 ·rw [can_len]
  obtain ⟨x, hx, rfl⟩ := List.mem_map.1 hp
  have k1 := ixE_lt.2 (hDc _ (hcl x (hDs x hx)).1)
  have k2 := ixE_lt.2 (hDc _ (hcl x (hDs x hx)).2)
  unfold valE
  simp only
  omega
 ·refine bisim (R := fun c x => ∃ y, D[c]? = some y ∧ Eq2 s s y x) (fun c x hR b => ?_) ⟨0, hD0, Eq2.refl _ _⟩
  obtain ⟨y, hy, hq⟩ := hR
  have hym := hDs y (List.mem_of_getElem? hy)
  refine ⟨(alC_of (can_al hy) b).trans (hq.al b), ?_⟩
  have hnx : nxC (canS s E D) c b = ixE E D (nxC s y b) := by
   unfold nxC
   rw [can_nx hy]
   cases b <;> rfl
  have hm : nxC s y b ∈ reachP s := by
   unfold nxC
   cases b
   ·exact (hcl y hym).1
   ·exact (hcl y hym).2
  obtain ⟨z, hz, hzq⟩ := ixE_get (hDc _ hm)
  rw [hnx]
  exact ⟨z, hz, ((hE z _ (ham.lt z (hDs z (List.mem_of_getElem? hz))) (ham.lt _ hm)).1 hzq).trans (hq.nx b)⟩
theorem pick_list {P : Nat → Nat → Prop} : ∀ D : List Nat, (∀ x ∈ D, ∃ y, P x y) → ∃ L : List Nat, L.length = D.length ∧ ∀ (i x : Nat), D[i]? = some x → ∃ y, L[i]? = some y ∧ P x y := by
 intro D
 induction D with
 | nil => intro _; exact ⟨[], rfl, fun i x h => by simp at h⟩
 | cons a D ih =>
  intro h
  obtain ⟨y, hy⟩ := h a (by simp)
  obtain ⟨L, h1, h2⟩ := ih (fun x hx => h x (List.mem_cons_of_mem _ hx))
  refine ⟨y :: L, by simp [h1], fun i x hx => ?_⟩
  cases i with
  | zero => simp at hx; subst hx; exact ⟨y, rfl, hy⟩
  | succ i => exact h2 i x (by simpa using hx)
/-- no scanner that is equal in effect has fewer states -/
theorem small_least {a b : Sc} (ha : ScOk a) (hb : ScOk b) (he : Eq2 a b 0 0) : (smallP a).nx.length ≤ b.nx.length := by
 obtain ⟨E, hE⟩ := exists_eqT a
 obtain ⟨e1, _⟩ := small_can ha hE
 have ham := reach_among ha
 rw [e1, can_len]
 have hap := ddE_apart E (reachP a)
 have hDs := ddE_sub E (reachP a)
 generalize ddE E (reachP a) = D at *
 have hb1 := hb.n1
 obtain ⟨L, h1, h2⟩ := pick_list (P := fun x y => y < b.nx.length ∧ Eq2 a b x y) D (fun x hx => by
  obtain ⟨cs, hcs⟩ := reachR_word (s := a) a.nx.length 0 [0] (fun x hx => ⟨[], by simp at hx; subst hx; rfl⟩) x (hDs x hx)
  refine ⟨desS b 0 cs, desS_lt hb cs 0 (by omega), ?_⟩
  rw [← hcs]
  exact he.des cs)
 rw [← h1]
 refine nodup_len _ _ ?_ (fun y hy => ?_)
 ·unfold List.Nodup
  rw [List.pairwise_iff_getElem]
  intro i j hi hj hij e
  have hi' : D[i]? = some D[i] := List.getElem?_eq_getElem (by omega)
  have hj' : D[j]? = some D[j] := List.getElem?_eq_getElem (by omega)
  obtain ⟨y, hy, _, hq⟩ := h2 i _ hi'
  obtain ⟨z, hz, _, hq'⟩ := h2 j _ hj'
  rw [List.getElem?_eq_getElem hi] at hy
  rw [List.getElem?_eq_getElem hj] at hz
  injection hy with hy
  injection hz with hz
  rw [← hy, e, hz] at hq
  have := hap i j _ _ hij hi' hj'
  rw [(hE _ _ (ham.lt _ (hDs _ (List.mem_of_getElem? hi'))) (ham.lt _ (hDs _ (List.mem_of_getElem? hj')))).2 (hq.trans hq'.symm)] at this
  cases this
 ·obtain ⟨i, hi⟩ := List.getElem?_of_mem hy
  have hil := (List.getElem?_eq_some_iff.1 hi).1
  obtain ⟨z, hz, hzl, _⟩ := h2 i _ (List.getElem?_eq_getElem (l := D) (by omega))
  rw [hi] at hz
  injection hz with hz
  omega
/-- what a difference is -/
def IsDif (a b : Sc) (d : List Bool) : Prop := ∃ cs c, d = cs ++ [c] ∧ runS a 0 cs = runS b 0 cs ∧ alC a (desS a 0 cs) c ≠ alC b (desS b 0 cs) c
structure LdW (a b : Sc) (w : Wy) : Prop where
 l1 : w.1 = desS a 0 w.2.2
 l2 : w.2.1 = desS b 0 w.2.2
 rn : runS a 0 w.2.2 = runS b 0 w.2.2
theorem addW_mem {L : List Wy} {k w : Wy} (h : w ∈ addW L k) : w ∈ L ∨ w = k := by
 unfold addW at h
 split at h
 ·exact .inl h
 ·simpa using h
theorem addW_sub {L : List Wy} {k w : Wy} (h : w ∈ L) : w ∈ addW L k := by
 unfold addW
 split
 ·exact h
 ·exact List.mem_append_left _ h
theorem addW_key (L : List Wy) (k : Wy) : keyW k ∈ (addW L k).map keyW := by
 unfold addW
 split
 ·assumption
 ·simp
theorem addW_keys {L : List Wy} {k : Wy} {q : Nat × Nat} (h : q ∈ L.map keyW) : q ∈ (addW L k).map keyW := by
 obtain ⟨w, hw, rfl⟩ := List.mem_map.1 h
 exact List.mem_map.2 ⟨w, addW_sub hw, rfl⟩
theorem addW_pre (L : List Wy) (k : Wy) : L <+: addW L k := by
 unfold addW
 split
 ·exact List.prefix_rfl
 ·exact List.prefix_append _ _
theorem difR_spec {a b : Sc} (ha : ScOk a) (hb : ScOk b) : ∀ (f i : Nat) (L : List Wy), AmW a.nx.length b.nx.length L → a.nx.length * b.nx.length ≤ i + f → i ≤ L.length → (∀ w ∈ L, LdW a b w) → (∀ w ∈ L.take i, ∀ c, diffW a b w c = false ∧ keyW (heirW a b w c) ∈ L.map keyW) → (0, 0) ∈ L.map keyW →
  (difR a b f i L = none → Eq2 a b 0 0) ∧ ∀ d, difR a b f i L = some d → IsDif a b d := by
 have key : ∀ (i : Nat) (L : List Wy), L.length ≤ i → (∀ w ∈ L.take i, ∀ c, diffW a b w c = false ∧ keyW (heirW a b w c) ∈ L.map keyW) → (0, 0) ∈ L.map keyW → Eq2 a b 0 0 := by
  intro i L hi hc h0
  rw [List.take_of_length_le hi] at hc
  refine bisim (R := fun x y => (x, y) ∈ L.map keyW) (fun x y hR c => ?_) h0
  obtain ⟨w, hw, e⟩ := List.mem_map.1 hR
  unfold keyW at e
  injection e with e1 e2
  obtain ⟨k1, k2⟩ := hc w hw c
  unfold diffW at k1
  rw [e1, e2] at k1
  refine ⟨by simpa using k1, ?_⟩
  unfold keyW heirW at k2
  simp only at k2
  rwa [e1, e2] at k2
 intro f
 induction f with
 | zero =>
  intro i L hL hf hi _ hc h0
  have := hL.len
  exact ⟨fun _ => key i L (by omega) hc h0, fun d h => by simp [difR] at h⟩
 | succ f ih =>
  intro i L hL hf hi hl hc h0
  unfold difR
  split
  ·rename_i hx
   exact ⟨fun _ => key i L (List.getElem?_eq_none_iff.1 hx) hc h0, fun d h => by cases h⟩
  ·rename_i w hw
   have hwm := List.mem_of_getElem? hw
   have hwl := hl w hwm
   obtain ⟨hilt, _⟩ := List.getElem?_eq_some_iff.1 hw
   have hdif : ∀ c, diffW a b w c = true → IsDif a b (w.2.2 ++ [c]) := fun c h => by
    refine ⟨w.2.2, c, rfl, hwl.rn, ?_⟩
    unfold diffW at h
    rw [hwl.l1, hwl.l2] at h
    simpa using h
   split
   ·rename_i h1
    exact ⟨fun h => (by cases h), fun d h => (by cases h; exact hdif _ h1)⟩
   ·rename_i h1
    split
    ·rename_i h2
     exact ⟨fun h => (by cases h), fun d h => (by cases h; exact hdif _ h2)⟩
    ·rename_i h2
     have h1 : diffW a b w false = false := by simpa using h1
     have h2 : diffW a b w true = false := by simpa using h2
     have hcl := hL.cl i w hw
     have heir : ∀ c, diffW a b w c = false → LdW a b (heirW a b w c) := fun c h => by
      unfold diffW at h
      have h : alC a w.1 c = alC b w.2.1 c := by simpa using h
      refine ⟨?_, ?_, ?_⟩
      ·show nxC a w.1 c = desS a 0 (w.2.2 ++ [c]); rw [desS_snoc, ← hwl.l1]
      ·show nxC b w.2.1 c = desS b 0 (w.2.2 ++ [c]); rw [desS_snoc, ← hwl.l2]
      ·show runS a 0 (w.2.2 ++ [c]) = runS b 0 (w.2.2 ++ [c]); rw [runS_snoc, runS_snoc, ← hwl.l1, ← hwl.l2, hwl.rn, h]
     have am1 := hL.add (w := heirW a b w false) (nxC_lt ha w.1 false) (nxC_lt hb w.2.1 false) (by show (w.2.2 ++ [false]).length ≤ _; simp; omega)
     have hln := addW_len L (heirW a b w false)
     have am2 := am1.add (w := heirW a b w true) (nxC_lt ha w.1 true) (nxC_lt hb w.2.1 true) (by show (w.2.2 ++ [true]).length ≤ _; simp; omega)
     have hpre := (addW_pre L (heirW a b w false)).trans (addW_pre _ (heirW a b w true))
     have hkf : keyW (heirW a b w false) ∈ (addW (addW L (heirW a b w false)) (heirW a b w true)).map keyW := addW_keys (addW_key _ _)
     have hkt : keyW (heirW a b w true) ∈ (addW (addW L (heirW a b w false)) (heirW a b w true)).map keyW := addW_key _ _
     have hkk : ∀ q, q ∈ L.map keyW → q ∈ (addW (addW L (heirW a b w false)) (heirW a b w true)).map keyW := fun q hq => addW_keys (addW_keys hq)
     have hll : ∀ w' ∈ addW (addW L (heirW a b w false)) (heirW a b w true), LdW a b w' := fun w' hw' => by
      rcases addW_mem hw' with h | rfl
      ·rcases addW_mem h with h | rfl
       ·exact hl w' h
       ·exact heir _ h1
      ·exact heir _ h2
     generalize addW (addW L (heirW a b w false)) (heirW a b w true) = L2 at *
     have hlen := hpre.length_le
     have htk : L2.take (i + 1) = L.take i ++ [w] := by
      obtain ⟨t, ht⟩ := hpre
      rw [← ht, List.take_append_of_le_length (by omega), List.take_add_one, hw]
      rfl
     refine ih (i + 1) L2 am2 (by omega) (by omega) hll (fun w' hw' c => ?_) (hkk _ h0)
     rw [htk] at hw'
     rcases List.mem_append.1 hw' with h | h
     ·exact ⟨(hc w' h c).1, hkk _ (hc w' h c).2⟩
     ·simp at h
      subst h
      cases c
      ·exact ⟨h1, hkf⟩
      ·exact ⟨h2, hkt⟩
theorem dif_spec {a b : Sc} (ha : ScOk a) (hb : ScOk b) : (difP a b = none → Eq2 a b 0 0) ∧ ∀ d, difP a b = some d → IsDif a b d := by
 have n1 := ha.n1
 have m1 := hb.n1
 refine difR_spec ha hb _ 0 _ ⟨by simp, fun w hw => by simp at hw; subst hw; exact ⟨by show 0 < _; omega, by show 0 < _; omega⟩, fun j w hw => ?_⟩ (by omega) (by simp) (fun w hw => by simp at hw; subst hw; exact ⟨rfl, rfl, rfl⟩) (fun w hw => by simp at hw) (by simp [keyW])
 have := (List.getElem?_eq_some_iff.1 hw).1
 simp at this
 subst this
 simp at hw
 subst hw
 simp
theorem dif_none {a b : Sc} (ha : ScOk a) (hb : ScOk b) (h : Eq2 a b 0 0) : difP a b = none := by
 cases hd : difP a b with
 | none => rfl
 | some d =>
  obtain ⟨cs, c, _, _, hne⟩ := (dif_spec ha hb).2 d hd
  exact absurd ((h.des cs).al c) hne
end Go.Camp
