/- The contracts of parts and chords. -/
import Derived.Test.YtkkjfjeniaiaiaaC6
namespace Go.Proofs.Ytkkjfjeniaiaiaa
open Go.Ev Go.Proofs Go.Rock
attribute [local irreducible] At AtH

theorem pL_len (p : Pc) : (pL p).length = 3 := rfl
theorem cL_len (p : Int × Int) : (cL p).length = 2 := rfl
theorem put_len (l : List Int) (n : Int) : (put l n).length ≤ l.length + 1 := by
  induction l with
  | nil => simp [put]
  | cons x l ih =>
    unfold put
    split
    · simp; omega
    · split <;> simp
theorem crR_len (l : List Int) (t b d : Int) (m : Nat) (sz : Int) : (crR l t b d m sz).length ≤ l.length + (m + 1) := by
  have key : ∀ (ks : List Nat) (l : List Int), (ks.foldl (fun l k => if 0 < cr t sz b d k then put l (cr t sz b d k) else l) l).length ≤ l.length + ks.length := by
    intro ks
    induction ks with
    | nil => intro l; simp
    | cons k ks ih =>
      intro l
      rw [List.foldl_cons, List.length_cons]
      refine Nat.le_trans (ih _) ?_
      split
      · have := put_len l (cr t sz b d k); omega
      · omega
  unfold crR
  split
  · omega
  · have := key (List.range (m + 1)) l
    rw [List.length_range] at this
    exact this
theorem ts_len {v : Vo} (r : Ra) (hv : VoOk v) : (ts v r).length ≤ 40 := by
  unfold VoOk at hv
  have h1 := crR_len [0] (tk r) r.x r.dx v.nx.toNat v.sz
  have h2 := crR_len (crR [0] (tk r) r.x r.dx v.nx.toNat v.sz) (tk r) r.y r.dy v.ny.toNat v.sz
  have h3 := crR_len (crR (crR [0] (tk r) r.x r.dx v.nx.toNat v.sz) (tk r) r.y r.dy v.ny.toNat v.sz) (tk r) r.z r.dz v.nz.toNat v.sz
  have h4 : ([0] : List Int).length = 1 := rfl
  unfold ts
  omega
theorem pcsF_len (f : Int → Int → Int) : ∀ l : List Int, (pcsF f l).length ≤ l.length := by
  intro l
  induction l with
  | nil => simp [pcsF]
  | cons a l ih =>
    cases l with
    | nil => simp [pcsF]
    | cons c l =>
      have : (pc1 f a c).length ≤ 1 := by unfold pc1; split <;> simp
      rw [pcsF, List.length_append]
      simp only [List.length_cons] at ih ⊢
      omega
theorem cutS_len (f : Pc → Pc) (l : List Pc) : (cutS f l).length ≤ l.length := by
  unfold cutS
  refine Nat.le_trans (List.length_filter_le _ _) ?_
  simp
theorem pcs_len {v : Vo} (r : Ra) (hv : VoOk v) : (pcs v r).length ≤ 40 := Nat.le_trans (pcsF_len _ _) (ts_len r hv)
set_option maxHeartbeats 4000000 in
theorem chords_any (l : List Pc) (A : Option Addr) (c B : Nat) (w : World) (hL : l.length ≤ 40) (hS : Sl w B 3 A l.length (l.flatMap pL)) (hb : ∀ p ∈ l, -9223372036854775808 ≤ p.u - p.a ∧ p.u - p.a ≤ 9223372036854775807) :
    Ret Try.prog 62 [.slice A l.length c] w fun x w' => ∃ A' c', x = .slice A' l.length c' ∧ w'.ownsRow w.heap.size 59 2 x l.length ((chs l).flatMap cL) ∧ Chg No w w' := by
  refine enter Try.func62 rfl Try.ntmps62 rfl ?_
  refine go T_ok 200 rfl ?_
  refine loop [3, 6, 7, 8] (fun x : Nat × Value => [x.2, .slice A l.length c, .int .i64 (l.length : Int), .int .i64 (x.1 : Int)])
    (fun x w' => x.1 ≤ l.length ∧ Chg No w w' ∧ w'.ownsRow w.heap.size 59 2 x.2 x.1 ((chs (l.take x.1)).flatMap cL)) (fun x => l.length - x.1) (0, .slice none 0 0) (fun _ => rfl) rfl ⟨by show 0 ≤ _; omega, Chg.refl _ _, own_nil⟩ ?_
  rintro ⟨j, out⟩ τ w1 ⟨hj, q1, o1⟩
  simp only at hj o1
  obtain ⟨Ao, co, rfl⟩ := own_form o1
  refine go T_ok 200 rfl ?_
  refine condD rfl (fun hlt => ?_) (fun hlt => ?_)
  · have hlt : j < l.length := by omega
    obtain ⟨p, hp⟩ : ∃ p, l[j]? = some p := ⟨_, List.getElem?_eq_getElem hlt⟩
    obtain ⟨b, o, rfl, _, hc⟩ := (hS.no q1).el pL_len hp
    have hpb := hb p (List.mem_of_getElem? hp)
    have e1 : w64 (p.u - p.a) = p.u - p.a := w64_id hpb.1 hpb.2
    have e2 : w64 ((j : Int) + 1) = ((j + 1 : Nat) : Int) := w64_id (by omega) (by omega)
    refine go T_ok 200 rfl ?_
    refine idx T_ok rfl rfl rfl rfl rfl j rfl hlt ?_
    refine go T_ok 200 rfl ?_
    refine ldA T_ok rfl rfl rfl rfl rfl hc ?_
    refine go T_ok 200 rfl ?_
    refine nw rfl rfl (z := .agg #[I 0, I 0, I 0]) (by kernel_rfl) (cs := [I 0, I 0, I 0]) rfl ?_
    intro g4 u4 hg4 hs4 q4 B4
    refine go T_ok 200 rfl ?_
    refine stA T_ok rfl rfl rfl rfl (vs := pL p) rfl rfl rfl B4 rfl ?_
    intro u5 q5 B5 hs5
    have B5 : Bk u5 g4 124 (pL p) := B5
    have q45 : Chg No w1 u5 := q4.step q5 (fun k hk e => by omega)
    refine go T_ok 200 rfl ?_
    repeat (first | (refine ld T_ok rfl rfl rfl rfl (Bk.get B5 rfl) ?_; refine go T_ok 200 rfl ?_) | (refine guardA (b := true) rfl rfl rfl rfl (fun _ => ?_) (fun e => by cases e); refine go T_ok 200 rfl ?_) | (refine guardA (b := false) rfl rfl rfl rfl (fun e => by cases e) (fun _ => ?_); refine go T_ok 200 rfl ?_) | (refine condT rfl rfl ?_; refine go T_ok 200 rfl ?_) | (refine condF rfl rfl ?_; refine go T_ok 200 rfl ?_))
    rw [e1]
    have hsz := q1.size
    have hsz2 := q45.size
    refine app1 T_ok rfl rfl rfl rfl rfl rfl (cs := cL (p.c, p.u - p.a)) rfl rfl rfl rfl (fun _ => rfl) (fun _ => rfl) (fun _ => rfl) (own_no o1 q45) (by unfold maxLen; omega) (by omega) (by omega) ?_
    intro g A' c' u6 o6 q6 hs6 _
    refine go T_ok 200 rfl ?_
    rw [e2]
    refine round ⟨(j + 1, .slice A' (j + 1) c'), rfl, ⟨by show j + 1 ≤ _; omega, (q1.trans q45).step q6 (fun k hk e => by have := own_ge o1 e; omega), ?_⟩, by show l.length - (j + 1) < l.length - j; omega⟩
    show u6.ownsRow w.heap.size 59 2 (.slice A' (j + 1) c') (j + 1) ((chs (l.take (j + 1))).flatMap cL)
    rw [take_snoc hp]
    simpa [chs] using o6
  · have hjl : j = l.length := by omega
    subst hjl
    rw [List.take_length] at o1
    refine go T_ok 200 rfl ?_
    exact ret (ret1 (v := .slice _ _ _) Try.results62 rfl ⟨_, _, rfl, o1, q1⟩)

/-! ### parts -/
def PcR (v : Vo) (p : Pc) : Prop := 0 ≤ p.c ∧ p.c < v.nx * v.ny * v.nz ∧ 0 ≤ p.a ∧ p.a ≤ 24192000000 ∧ 0 ≤ p.u ∧ p.u ≤ 24192000000
/-- a cut: a closure -/
def Cut (v : Vo) (f : Pc → Pc) (fv : Value) (B : Nat) (w0 : World) : Prop := ∃ k cap, fv = .func (.func k) #[] cap ∧ callable Try.prog k = true ∧
  ∀ p w', PcR v p → Chg (fun b => B ≤ b) w0 w' → Ret Try.prog k (.agg (pL p).toArray :: cap.toList) w' fun x w'' => x = .agg (pL (f p)).toArray ∧ Chg No w' w''
/-- the cuts of a call: none, or one -/
def Cuts (v : Vo) (f : Pc → Pc) (A : Option Addr) (n : Nat) (w : World) : Prop := n ≤ 1 ∧ (n = 0 → f = id) ∧ (n = 1 → ∃ fv b o, A = some ⟨b, o, none⟩ ∧ b < w.heap.size ∧ w.cell? ⟨b, o, none⟩ = some fv ∧ Cut v f fv w.heap.size w)
theorem Cuts.none (v : Vo) (w : World) : Cuts v id Option.none 0 w := ⟨by omega, fun _ => rfl, fun h => by omega⟩
def lastT (l : List Int) : Int := l.getLast?.getD (-1)
theorem lastT_snoc (l : List Int) (x : Int) : lastT (l ++ [x]) = x := by simp [lastT]
theorem cutS_app (f : Pc → Pc) (l m : List Pc) : cutS f (l ++ m) = cutS f l ++ cutS f m := by simp [cutS]
def partI (v : Vo) (r : Ra) (f : Pc → Pc) (A : Option Addr) (n c : Nat) (w : World) (g1 g2 g3 g4 g5 : Nat) (pre : List Int) (W : World) : Prop :=
  Chg (fun k => w.heap.size ≤ k) w W ∧ Bk W g5 103 (wL v r) ∧ Bk W g1 103 (wL v r) ∧ Bk W g2 131 [.slice A n c] ∧ Bk W g4 3 [I (lastT pre)] ∧ (∀ a ∈ pre, a ∈ ts v r) ∧
    ∃ A' c', Bk W g3 106 [.slice A' (cutS f (pcsF (cel v r) pre)).length c'] ∧ W.ownsRow w.heap.size 124 3 (.slice A' (cutS f (pcsF (cel v r) pre)).length c') (cutS f (pcsF (cel v r) pre)).length ((cutS f (pcsF (cel v r) pre)).flatMap pL)
set_option maxHeartbeats 4000000 in
theorem parts_any (v : Vo) (r : Ra) (f : Pc → Pc) (A : Option Addr) (n c : Nat) (w : World) (hv : VoOk v) (hr : RaOk r) (hC : Cuts v f A n w) :
    Ret Try.prog 63 [.agg (wL v r).toArray, .slice A n c] w fun x w' => ∃ A' c', x = .slice A' (cutS f (pcs v r)).length c' ∧ w'.ownsRow w.heap.size 124 3 x (cutS f (pcs v r)).length ((cutS f (pcs v r)).flatMap pL) ∧ Chg No w w' := by
  have htl := ts_len r hv
  refine enter Try.func63 rfl Try.ntmps63 rfl ?_
  refine go T_ok 200 rfl ?_
  refine bx rfl rfl rfl (cs := wL v r) rfl ?_
  intro g1 u1 hg1 hs1 q1 B1
  refine go T_ok 200 rfl ?_
  refine bx rfl rfl rfl (cs := [.slice A n c]) rfl ?_
  intro g2 u2 hg2 hs2 q2 B2
  refine go T_ok 200 rfl ?_
  refine nw rfl rfl (z := .slice none 0 0) (by kernel_rfl) (cs := [.slice none 0 0]) rfl ?_
  intro g3 u3 hg3 hs3 q3 B3
  refine go T_ok 200 rfl ?_
  refine nw rfl rfl (z := I 0) (by kernel_rfl) (cs := [I 0]) rfl ?_
  intro g4 u4 hg4 hs4 q4 B4
  refine go T_ok 200 rfl ?_
  refine st T_ok rfl rfl rfl rfl (v := .int .i64 (-1)) rfl rfl B4 rfl ?_
  intro u5 q5 B4 hs5
  have B4 : Bk u5 g4 3 [I (-1)] := B4
  have B3 := (B3.no q4).keep q5 (by omega)
  have B2 := ((B2.no q3).no q4).keep q5 (by omega)
  have B1 := (((B1.no q2).no q3).no q4).keep q5 (by omega)
  have q05 : Chg No w u5 := (((q1.trans q2).trans q3).trans q4).step q5 (fun k hk e => by omega)
  have hsz5 : u5.heap.size = w.heap.size + 4 := by omega
  clear q1 q2 q3 q4 q5
  refine go T_ok 200 rfl ?_
  refine ldA T_ok rfl rfl rfl rfl rfl B1.all ?_
  refine go T_ok 200 rfl ?_
  refine call rfl rfl rfl (ok _ (by decide) rfl) (crossings_any v r _) ?_
  rintro x u6 ⟨g5, rfl, q6, hg5, B5⟩
  refine go T_ok 200 rfl ?_
  have l5 := B5.lt
  have hsz6 := q6.size
  have q06 : Chg (fun k => w.heap.size ≤ k) w u6 := (q05.trans q6).mono fun _ _ h => h.elim
  refine rangeFunc rfl rfl (ok _ (by decide) rfl) (crossings_seq v r g5 u6 hv hr B5) (fun k hk => by rw [hk]; exact l5) (fun _ => rfl) (fun _ _ _ _ _ h _ _ => h)
    (partI v r f A n c w g1 g2 g3 g4 g5) ?hi ?hl ?h0 (fun x => [(7, .int .i64 x)]) ?ca ?bd ?dn
  case hi =>
    rintro s X Y ⟨i1, i8, i2, i3, i4, i5, A', c', i6, i7⟩ q
    exact ⟨i1.step q (fun _ _ h => h.elim), i8.no q, i2.no q, i3.no q, i4.no q, i5, A', c', i6.no q, own_no i7 q⟩
  case hl =>
    rintro s X Y ⟨i1, i8, i2, i3, i4, i5, A', c', i6, i7⟩ hl q
    exact ⟨i1.step q (fun _ _ h => by omega), i8.loop hl q, i2.loop hl q, i3.loop hl q, i4.loop hl q, i5, A', c', i6.loop hl q, own_loop i7 hl q⟩
  case h0 => exact ⟨q06, B5, B1.no q6, B2.no q6, B4.no q6, fun a h => by simp at h, none, 0, B3.no q6, own_nil⟩
  case ca =>
    intro l x W
    refine go T_ok 200 rfl ?_
    exact round ⟨rfl, rfl⟩
  case bd =>
    rintro l pre t W ⟨i1, i8, i2, i3, i4, i5, A', c', i6, i7⟩ ⟨hlen, htm⟩ hsz hloop hdef
    have htb := ts_bd hv hr htm
    have l1 := i2.lt
    have ne3 := own_ne i7 i6 (by decide)
    have ne4 := own_ne i7 i4 (by decide)
    have ne1 := own_ne i7 i2 (by decide)
    have ne2 := own_ne i7 i3 (by decide)
    have hmem : ∀ a ∈ pre ++ [t], a ∈ ts v r := fun a ha => by
      rw [List.mem_append, List.mem_singleton] at ha
      rcases ha with ha | rfl
      · exact i5 a ha
      · exact htm
    -- the blocks of the row are none of the loop's
    have ne5 := own_ne i7 i8 (by decide)
    have hrow : ∀ k, (Value.slice A' (cutS f (pcsF (cel v r) pre)).length c').ownBlock = some k → k ≠ u6.heap.size ∧ k ≠ u6.heap.size + 1 ∧ ¬ k = g5 := by
      intro k hk
      obtain ⟨cs, ty, hcs⟩ := own_cells i7 hk
      obtain ⟨rr, hrr⟩ := hloop
      refine ⟨?_, ?_, ?_⟩
      · rintro rfl
        rw [hdef] at hcs
        cases hcs
      · rintro rfl
        rw [hrr] at hcs
        cases hcs
      · rintro rfl
        exact ne5 hk
    refine keepS (l' := [(2, .pointer (some ⟨g1, 0, none⟩)), (3, .pointer (some ⟨g2, 0, none⟩)), (5, .pointer (some ⟨g3, 0, none⟩)), (6, .pointer (some ⟨g4, 0, none⟩)), (7, .int .i64 t)]) ⟨rfl, rfl, rfl, rfl, rfl, trivial⟩ (fun τ => ?_)
    -- the end of a round
    refine go T_ok 200 rfl ?_
    refine ld T_ok rfl rfl rfl rfl (i4.get rfl) ?_
    refine go T_ok 200 rfl ?_
    cases hpre : pre.getLast? with
    | none =>
      have hnil : pre = [] := List.getLast?_eq_none_iff.1 hpre
      subst hnil
      have e0 : lastT [] = -1 := rfl
      rw [e0]
      refine condF rfl rfl ?_
      refine go T_ok 200 rfl ?_
      refine st T_ok rfl rfl rfl rfl (v := .int .i64 t) rfl rfl i4 rfl ?_
      intro X9 qX9 BX9 hsX9
      refine go T_ok 200 rfl ?_
      have BX9 : Bk X9 g4 3 [I t] := BX9
      refine round ⟨⟨i1.step qX9 (fun k hk e => by omega), i8.keep qX9 (by omega), i2.keep qX9 (by omega), i3.keep qX9 (by omega), by rw [lastT_snoc]; exact BX9, hmem, A', c', i6.keep qX9 (by omega), by have e1 : pcsF (cel v r) ([] ++ [t]) = pcsF (cel v r) [] := rfl; rw [e1]; exact own_keep i7 qX9 (fun k hk e => ne4 (by rw [hk, e]))⟩, qX9.mono fun k hk e => by rw [e]; omega⟩
    | some a =>
      have e0 : lastT pre = a := by unfold lastT; rw [hpre]; rfl
      rw [e0]
      have ham := i5 a (List.mem_of_getLast? hpre)
      have hab := ts_bd hv hr ham
      have hsn := pcsF_snoc (cel v r) t pre a hpre
      have hlen2 : (cutS f (pcsF (cel v r) pre)).length ≤ 40 := by
        have h1 := cutS_len f (pcsF (cel v r) pre)
        have h2 := pcsF_len (cel v r) pre
        rw [List.length_append] at hlen
        omega
      refine condT rfl (decide_eq_true hab.1) ?_
      refine go T_ok 200 rfl ?_
      refine ldA T_ok rfl rfl rfl rfl rfl i2.all ?_
      refine go T_ok 200 rfl ?_
      refine ld T_ok rfl rfl rfl rfl (i4.get rfl) ?_
      refine go T_ok 200 rfl ?_
      rw [e0]
      refine call rfl rfl rfl (ok _ (by decide) rfl) (cell_any v r a t _ hv hr hab.1 hab.2 htb.1 htb.2) ?_
      rintro x X1 ⟨rfl, qa⟩
      have hszW := qa.size
      have i2a := i2.no qa
      have i3a := i3.no qa
      have i4a := i4.no qa
      have i6a := i6.no qa
      have i7a := own_no i7 qa
      refine go T_ok 200 rfl ?_
      refine condD rfl (fun hc => ?_) (fun hc => ?_)
      · have epc : pc1 (cel v r) a t = [⟨cel v r a t, a, t⟩] := by unfold pc1; rw [if_pos hc]
        rw [epc] at hsn
        have hnew : cutS f (pcsF (cel v r) (pre ++ [t])) = cutS f (pcsF (cel v r) pre) ++ cutS f [⟨cel v r a t, a, t⟩] := by rw [hsn, cutS_app]
        generalize hp0 : (⟨cel v r a t, a, t⟩ : Pc) = p0 at hsn hnew
        have hR : PcR v p0 := by
          rw [← hp0]
          exact ⟨hc, cel_bd hv hc, hab.1, hab.2, htb.1, htb.2⟩
        have hpL : pL p0 = [I (cel v r a t), I a, I t] := by rw [← hp0]; rfl
        refine go T_ok 200 rfl ?_
        refine ld T_ok rfl rfl rfl rfl (i4a.get rfl) ?_
        refine go T_ok 200 rfl ?_
        rw [e0]
        refine nw rfl rfl (z := .agg #[I 0, I 0, I 0]) (by kernel_rfl) (cs := [I 0, I 0, I 0]) rfl ?_
        intro g9 X2 hg9 hs9 qb B9
        refine go T_ok 200 rfl ?_
        refine stA T_ok rfl rfl rfl rfl (vs := pL p0) (by rw [hpL]; rfl) rfl rfl B9 rfl ?_
        intro X3 qc B9 hsc
        have B9 : Bk X3 g9 124 (pL p0) := B9
        have qW3 : Chg No W X3 := (qa.trans qb).step qc (fun k hk e => by omega)
        have i3c := i3.no qW3
        refine go T_ok 200 rfl ?_
        refine ld T_ok rfl rfl rfl rfl (i3c.get rfl) ?_
        refine go T_ok 200 rfl ?_
        refine loop [2, 3, 5, 6, 7, 9, 27, 28, 29] (fun j : Nat => [.pointer (some ⟨g1, 0, none⟩), .pointer (some ⟨g2, 0, none⟩), .pointer (some ⟨g3, 0, none⟩), .pointer (some ⟨g4, 0, none⟩), .int .i64 t, .pointer (some ⟨g9, 0, none⟩), .slice A n c, .int .i64 (n : Int), .int .i64 (j : Int)])
          (fun j w' => j ≤ n ∧ Chg No W w' ∧ Bk w' g9 124 (pL (if j = 0 then p0 else f p0))) (fun j => n - j) 0 (fun _ => rfl) rfl ⟨by omega, qW3, B9⟩ ?_
        clear B9
        rintro j τ X4 ⟨hj, qW4, B9⟩
        refine go T_ok 200 rfl ?_
        refine condD rfl (fun hlt => ?_) (fun hlt => ?_)
        · have hn1 : n = 1 := by have := hC.1; omega
          have hj0 : j = 0 := by omega
          subst hj0
          subst hn1
          obtain ⟨fv, b, o, rfl, hb, hcell, kf, cap, rfl, hkf, hcut⟩ := hC.2.2 rfl
          have qw4 : Chg (fun k => w.heap.size ≤ k) w X4 := i1.step qW4 (fun _ _ h => h.elim)
          have hcell4 : X4.cell? ⟨b, o + 0 * 1, none⟩ = some (.func (.func kf) #[] cap) := (qw4.cell (a := ⟨b, o + 0 * 1, none⟩) hb (by show ¬ w.heap.size ≤ b; omega)).trans hcell
          have hK := hcut p0 X4 hR qw4
          refine go T_ok 200 rfl ?_
          refine idx T_ok rfl rfl rfl rfl rfl 0 rfl (by omega) ?_
          refine go T_ok 200 rfl ?_
          refine ld T_ok rfl rfl rfl rfl (hcell4) ?_
          refine go T_ok 200 rfl ?_
          refine ldA T_ok rfl rfl rfl rfl rfl B9.all ?_
          refine go T_ok 200 rfl ?_
          refine call rfl rfl rfl hkf hK ?_
          rintro x X5 ⟨rfl, qd⟩
          have B9 := B9.no qd
          refine go T_ok 200 rfl ?_
          refine stA T_ok rfl rfl rfl rfl (vs := pL (f p0)) rfl rfl rfl B9 rfl ?_
          intro X6 qe B9 hse
          refine go T_ok 200 rfl ?_
          refine round ⟨1, rfl, ⟨by omega, (qW4.trans qd).step qe (fun k hk e => by omega), B9⟩, by omega⟩
        · have hjn : j = n := by omega
          subst hjn
          have ep : (if j = 0 then p0 else f p0) = f p0 := by
            by_cases h0 : j = 0
            · rw [if_pos h0, hC.2.1 h0]; rfl
            · rw [if_neg h0]
          rw [ep] at B9
          have i4b := i4.no qW4
          have i2b := i2.no qW4
          have i3b := i3.no qW4
          have i6b := i6.no qW4
          have i7b := own_no i7 qW4
          refine go T_ok 200 rfl ?_
          repeat (first | (refine ld T_ok rfl rfl rfl rfl (Bk.get B9 rfl) ?_; refine go T_ok 200 rfl ?_) | (refine guardA (b := true) rfl rfl rfl rfl (fun _ => ?_) (fun e => by cases e); refine go T_ok 200 rfl ?_) | (refine guardA (b := false) rfl rfl rfl rfl (fun e => by cases e) (fun _ => ?_); refine go T_ok 200 rfl ?_) | (refine condT rfl rfl ?_; refine go T_ok 200 rfl ?_) | (refine condF rfl rfl ?_; refine go T_ok 200 rfl ?_))
          refine condD rfl (fun hau => ?_) (fun hau => ?_)
          · have ecut : cutS f [p0] = [f p0] := by unfold cutS; simp [hau]
            rw [ecut] at hnew
            refine go T_ok 200 rfl ?_
            refine ld T_ok rfl rfl rfl rfl (i6b.get rfl) ?_
            refine go T_ok 200 rfl ?_
            refine ldA T_ok rfl rfl rfl rfl rfl B9.all ?_
            refine go T_ok 200 rfl ?_
            refine app1 T_ok rfl rfl rfl rfl rfl rfl (cs := pL (f p0)) rfl rfl rfl rfl (fun _ => rfl) (fun _ => rfl) (fun _ => rfl) i7b (by unfold maxLen; omega) (by omega) (by have := i1.size; have := qW4.size; omega) ?_
            intro gx A2 c2 X7 o7 qf hsf hown
            have i4c := i4b.keep qf (fun e => ne4 e)
            have i2c := i2b.keep qf (fun e => ne1 e)
            have i3c := i3b.keep qf (fun e => ne2 e)
            have i6c := i6b.keep qf (fun e => ne3 e)
            refine go T_ok 200 rfl ?_
            refine st T_ok rfl rfl rfl rfl (v := .slice A2 _ c2) rfl rfl i6c rfl ?_
            intro X8 qg B3 hsg
            have B3 : Bk X8 g3 106 [.slice A2 ((cutS f (pcsF (cel v r) pre)).length + 1) c2] := B3
            have i4d := i4c.keep qg (by omega)
            refine go T_ok 200 rfl ?_
            refine st T_ok rfl rfl rfl rfl (v := .int .i64 t) rfl rfl i4d rfl ?_
            intro X9 qX9 BX9 hsX9
            refine go T_ok 200 rfl ?_
            have BX9 : Bk X9 g4 3 [I t] := BX9
            have hlenew : (cutS f (pcsF (cel v r) (pre ++ [t]))).length = (cutS f (pcsF (cel v r) pre)).length + 1 := by rw [hnew]; simp
            have hflat : (cutS f (pcsF (cel v r) (pre ++ [t]))).flatMap pL = (cutS f (pcsF (cel v r) pre)).flatMap pL ++ pL (f p0) := by rw [hnew]; simp
            have o7' : X7.ownsRow w.heap.size 124 3 (.slice A2 ((cutS f (pcsF (cel v r) pre)).length + 1) c2) ((cutS f (pcsF (cel v r) pre)).length + 1) ((cutS f (pcsF (cel v r) pre)).flatMap pL ++ pL (f p0)) := o7
            have n3 := own_ne o7' i6c (by decide)
            have n4 := own_ne o7' i4c (by decide)
            have o8 := own_keep o7' qg (fun k hk e => n3 (by rw [hk, e]))
            have o9 := own_keep o8 qX9 (fun k hk e => n4 (by rw [hk, e]))
            have qWX : Chg (fun k => (k = g3 ∨ k = g4) ∨ (Value.slice A' (cutS f (pcsF (cel v r) pre)).length c').ownBlock = some k) W X9 :=
              (((qW4.mono fun _ _ h => h.elim).trans (qf.mono fun k _ h => .inr h)).trans (qg.mono fun k _ h => .inl (.inl h))).trans (qX9.mono fun k _ h => .inl (.inr h))
            refine round ⟨⟨i1.step qWX (fun k hk e => ?_), i8.keep qWX ?_, ?_, ?_, by rw [lastT_snoc]; exact BX9, hmem, A2, c2, ?_, ?_⟩, qWX.mono fun k hk e => ?_⟩
            · rcases e with (e | e) | e
              · omega
              · omega
              · exact own_ge i7 e
            · rintro ((e | e) | e)
              · omega
              · omega
              · exact ne5 e
            · exact (i2c.keep qg (by omega)).keep qX9 (by omega)
            · exact (i3c.keep qg (by omega)).keep qX9 (by omega)
            · rw [hlenew]; exact B3.keep qX9 (by omega)
            · rw [hlenew, hflat]; exact o9
            · rcases e with (e | e) | e
              · rw [e]; omega
              · rw [e]; omega
              · exact hrow k e
          · have ecut : cutS f [p0] = [] := by unfold cutS; simp; omega
            rw [ecut, List.append_nil] at hnew
            refine go T_ok 200 rfl ?_
            refine st T_ok rfl rfl rfl rfl (v := .int .i64 t) rfl rfl i4b rfl ?_
            intro X9 qX9 BX9 hsX9
            refine go T_ok 200 rfl ?_
            have BX9 : Bk X9 g4 3 [I t] := BX9
            have qWX : Chg (fun k => k = g4) W X9 := (qW4.mono fun _ _ h => h.elim).trans qX9
            refine round ⟨⟨i1.step qWX (fun k hk e => by omega), i8.keep qWX (by omega), i2.keep qWX (by omega), i3.keep qWX (by omega), by rw [lastT_snoc]; exact BX9, hmem, A', c', by rw [hnew]; exact i6.keep qWX (by omega), by rw [hnew]; exact own_keep i7 qWX (fun k hk e => ne4 (by rw [hk, e]))⟩, qWX.mono fun k hk e => by rw [e]; omega⟩
      · have epc : pc1 (cel v r) a t = [] := by unfold pc1; rw [if_neg hc]
        rw [epc, List.append_nil] at hsn
        refine go T_ok 200 rfl ?_
        refine st T_ok rfl rfl rfl rfl (v := .int .i64 t) rfl rfl i4a rfl ?_
        intro X9 qX9 BX9 hsX9
        refine go T_ok 200 rfl ?_
        have BX9 : Bk X9 g4 3 [I t] := BX9
        have qWX : Chg (fun k => k = g4) W X9 := (qa.mono fun _ _ h => h.elim).trans qX9
        refine round ⟨⟨i1.step qWX (fun k hk e => by omega), i8.keep qWX (by omega), i2.keep qWX (by omega), i3.keep qWX (by omega), by rw [lastT_snoc]; exact BX9, hmem, A', c', by rw [hsn]; exact i6.keep qWX (by omega), by rw [hsn]; exact own_keep i7 qWX (fun k hk e => ne4 (by rw [hk, e]))⟩, qWX.mono fun k hk e => by rw [e]; omega⟩
  case dn =>
    rintro xs W rfl ⟨i1, i8, i2, i3, i4, i5, A', c', i6, i7⟩ hsz hdef
    refine go T_ok 200 rfl ?_
    refine ld T_ok rfl rfl rfl rfl (i6.get rfl) ?_
    refine go T_ok 200 rfl ?_
    refine retM rfl hdef (ret1 (v := .slice _ _ _) Try.results63 rfl ⟨_, _, rfl, ?_, ?_⟩)
    · refine own_keep i7 (Chg.putObj W u6.heap.size _) (fun k hk e => ?_)
      obtain ⟨cs, ty, hcs⟩ := own_cells i7 hk
      rw [e, hdef] at hcs
      cases hcs
    · exact (i1.step (Chg.putObj W u6.heap.size _) (fun k hk e => by omega)).mono fun k hk e => absurd e (by omega)
end Go.Proofs.Ytkkjfjeniaiaiaa
