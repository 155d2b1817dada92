/- The contracts of Capital and Compare. -/
import Derived.Test.YtocolpbakaibnaaC8
namespace Go.Proofs.Ytocolpbakaibnaa
open Go.Ev Go.Proofs Go.Cnt
attribute [local irreducible] At AtH

/-- the bet against one rate, after some slots, never stopped -/
def cst (D k : Int) (xs : List Bool) : BS := xs.foldl (bnext D k) BS.new
theorem cst_snoc (D k : Int) (xs : List Bool) (i : Nat) (h : i < xs.length) : cst D k (xs.take (i + 1)) = bnext D k (cst D k (xs.take i)) xs[i] := by
  unfold cst
  rw [List.take_succ_eq_append_getElem h, List.foldl_append]
  rfl
theorem cst_ok {D k : Int} (hD : 0 ≤ D) (hk0 : 0 ≤ k) (hk1 : k ≤ D) (xs : List Bool) : 0 ≤ (cst D k xs).c ∧ (cst D k xs).c ≤ 1000000000000 ∧ 0 ≤ (cst D k xs).h ∧ (cst D k xs).h ≤ (cst D k xs).n ∧ (cst D k xs).n = xs.length := by
  have h : ∀ (xs : List Bool) (s : BS), 0 ≤ s.c → s.c ≤ 1000000000000 → 0 ≤ s.h → s.h ≤ s.n →
      0 ≤ (xs.foldl (bnext D k) s).c ∧ (xs.foldl (bnext D k) s).c ≤ 1000000000000 ∧ 0 ≤ (xs.foldl (bnext D k) s).h ∧ (xs.foldl (bnext D k) s).h ≤ (xs.foldl (bnext D k) s).n ∧ (xs.foldl (bnext D k) s).n = s.n + xs.length := by
    intro xs
    induction xs with
    | nil => intro s h1 h2 h3 h4; simp [h1, h2, h3, h4]
    | cons x xs ih =>
      intro s h1 h2 h3 h4
      have hb := nextC_bd (D := D) (k := k) x h1 h2 (by omega) h3 h4 hD hk0 hk1
      have hi : 0 ≤ b2i x ∧ b2i x ≤ 1 := by cases x <;> simp [b2i]
      obtain ⟨i1, i2, i3, i4, i5⟩ := ih (bnext D k s x) hb.1 hb.2 (by show 0 ≤ s.h + b2i x; omega) (by show s.h + b2i x ≤ s.n + 1; omega)
      refine ⟨i1, i2, i3, i4, ?_⟩
      rw [List.foldl_cons, i5]
      show s.n + 1 + _ = _
      simp only [List.length_cons]
      omega
  have := h xs BS.new (by decide) (by decide) (by decide) (by decide)
  simpa [cst, BS.new] using this
/-- the capitals after the first m numbers of slots -/
def capV (D k : Int) (xs : List Bool) (m : Nat) : List Value := (List.range m).map fun i => .int .i64 (cst D k (xs.take i)).c
theorem capV_succ (D k : Int) (xs : List Bool) (m : Nat) : capV D k xs (m + 1) = capV D k xs m ++ [.int .i64 (cst D k (xs.take m)).c] := by simp [capV, List.range_succ]
def capE (n : Nat) (D x : Int) : Int := listedE n D (inB x 0 D)
theorem Capital_any (xs : List Bool) (D x : Int) (A : Option Addr) (c B : Nat) (w : World) (hSl : Sl w B 1 A xs.length (boolVs xs)) :
    Ret Try.prog 31 [.slice A xs.length c, .int .i64 D, .int .i64 x] w fun v w' => Chg No w w' ∧
      (capE xs.length D x ≠ 0 ∧ v = .tuple #[.slice none 0 0, .int .i64 (capE xs.length D x)] ∨
       capE xs.length D x = 0 ∧ ∃ A' c', v = .tuple #[.slice A' (xs.length + 1) c', .int .i64 0] ∧ w'.ownsRow w.heap.size 3 1 (.slice A' (xs.length + 1) c') (xs.length + 1) (capV D x xs (xs.length + 1))) := by
  refine enter Try.func31 rfl Try.ntmps31 rfl ?_
  refine go T_ok 100 rfl ?_
  refine bx rfl rfl rfl (cs := [.int .i64 D]) rfl ?_
  intro g1 w1 hg1 hs1 q1 B1
  refine go T_ok 100 rfl ?_
  refine bx rfl rfl rfl (cs := [.int .i64 x]) rfl ?_
  intro g2 w2 hg2 hs2 q2 B2
  have B1 := B1.no q2
  have q := q1.trans q2
  refine go T_ok 100 rfl ?_
  refine ld T_ok rfl rfl rfl rfl (B1.get rfl) ?_
  refine go T_ok 100 rfl ?_
  refine call rfl rfl rfl (ok _ (by decide) rfl) (listed_any A xs.length c D 63 [.pointer (some ⟨g2, 0, none⟩), .pointer (some ⟨g1, 0, none⟩)] (ok _ (by decide) rfl) _ w2 (lev63 x D g2 g1 w2 B2 B1)) ?_
  rintro v w3 ⟨rfl, rfl⟩
  refine go T_ok 100 rfl ?_
  refine cond rfl (fun h => ?_) (fun h => ?_)
  · have h : capE xs.length D x ≠ 0 := by simpa [capE] using h
    refine go T_ok 100 rfl ?_
    exact ret (ret2 (v := .slice _ _ _) (x := .int .i64 _) Try.results31 rfl rfl ⟨q, .inl ⟨h, rfl⟩⟩)
  · have h : capE xs.length D x = 0 := by simpa [capE] using h
    obtain ⟨d, rfl, hd0, hd1, hn, hx⟩ := listedE_zero h
    obtain ⟨k, rfl, hk⟩ := inB_nat hx
    refine go T_ok 100 rfl ?_
    refine ld T_ok rfl rfl rfl rfl (B1.get rfl) ?_
    refine go T_ok 100 rfl ?_
    refine ld T_ok rfl rfl rfl rfl (B2.get rfl) ?_
    refine go T_ok 100 rfl ?_
    refine nw rfl rfl (z := .agg #[.int .i64 0, .int .i64 0, .int .i64 0, .int .i64 0, .int .i64 0]) (by kernel_rfl) (cs := [.int .i64 0, .int .i64 0, .int .i64 0, .int .i64 0, .int .i64 0]) rfl ?_
    intro g w4 hg hs4 q4 Bg
    refine go T_ok 100 rfl ?_
    refine stA (vs := betL d 0 0 k 1048576) T_ok rfl rfl rfl rfl rfl rfl rfl Bg rfl ?_
    intro w5 q5 B5 hs5
    refine go T_ok 100 rfl ?_
    refine ld T_ok rfl rfl rfl rfl (B5.get (i := 4) rfl) ?_
    refine go T_ok 100 rfl ?_
    refine row T_ok rfl rfl rfl rfl rfl rfl (cs := [.int .i64 1048576]) rfl ?_
    intro r w6 hr hs6 q6 Br hl
    refine go T_ok 100 rfl ?_
    have R5 := rowIs_no B5.row q6
    have q06 : Chg No w w6 := ((q.trans q4).step q5 (fun k hk e => absurd e (by have := q.size; omega))).trans q6
    have hB := hSl.2.1
    have hs := q.size
    have hown0 : w6.ownsRow w4.heap.size 3 1 (.slice (some ⟨r, 0, none⟩) 1 1) 1 (capV d k xs 1) := own_base (Br.own rfl (by decide)) (by omega)
    refine loop [9, 10, 27, 28, 29] (fun x : Nat × Option Addr × Nat => [.pointer (some ⟨g, 0, none⟩), .slice x.2.1 (x.1 + 1) x.2.2, .slice A xs.length c, .int .i64 (xs.length : Int), .int .i64 (x.1 : Int)])
      (fun x w' => x.1 ≤ xs.length ∧ Chg No w w' ∧ (∃ e, w'.rowIs g 82 5 e ∧ betAt e 0 d (cst d k (xs.take x.1)).n (cst d k (xs.take x.1)).h k (cst d k (xs.take x.1)).c) ∧ w'.ownsRow w4.heap.size 3 1 (.slice x.2.1 (x.1 + 1) x.2.2) (x.1 + 1) (capV d k xs (x.1 + 1))) (fun x => xs.length - x.1) (0, some ⟨r, 0, none⟩, 1) (fun _ => rfl) rfl
      ⟨by simp, q06, ⟨_, R5, rfl, rfl, rfl, rfl, rfl⟩, hown0⟩ ?_
    rintro ⟨i, A', c'⟩ τ w7 ⟨hi, q7, ⟨e, R7, hbet⟩, hown⟩
    simp only at hi hbet hown
    obtain ⟨k1, k2, k3, k4, k5⟩ := cst_ok (D := (d : Int)) (k := (k : Int)) (by omega) (by omega) hk (xs.take i)
    have hlen : ((xs.take i).length : Int) ≤ xs.length := by rw [List.length_take]; omega
    refine go T_ok 100 rfl ?_
    refine condD rfl (fun hlt => ?_) (fun hlt => ?_)
    · have hlt : i < xs.length := by simp only at hlt; omega
      refine go T_ok 100 rfl ?_
      obtain ⟨_, _, hA⟩ := hSl.no q7
      obtain ⟨bb, off, rfl, hbB, hcells⟩ := hA (by omega)
      refine idx T_ok rfl rfl rfl rfl rfl i rfl (by omega) ?_
      refine go T_ok 100 rfl ?_
      rw [show off + i * 1 = off + i by omega]
      refine ld T_ok rfl rfl rfl rfl (hcells i _ (boolVs_get hlt)) ?_
      refine go T_ok 100 rfl ?_
      refine call rfl rfl rfl (ok _ (by decide) rfl) (bnext_any xs[i] _ _ _ d k g 0 5 82 e w7 R7 hbet (by omega) k1 k2 (by omega) (by rw [k5]; simp only [List.length_take]; omega) k3 k4 (by omega) (by omega) (by omega) hk) ?_
      rintro v w8 ⟨rfl, q8, e', R8, hbet', _⟩
      have hg4 : g < w4.heap.size := by omega
      have hwg : w.heap.size ≤ g := by omega
      have q08 : Chg No w w8 := q7.step q8 (fun k hk h => absurd h (by omega))
      have hown8 := own_keep hown q8 (fun k' hk' e => by have := own_ge hown hk'; omega)
      have hw48 : w4.heap.size ≤ w8.heap.size := by have := hown.2; have := q8.size; have := R7.lt; have := own_sl hown; obtain ⟨_, _, h3⟩ := this; obtain ⟨z, o, hz, hz2, _⟩ := h3 (by omega); subst hz; have := own_ge hown rfl; omega
      obtain ⟨n0, n1, n2, n3, n4⟩ := hbet'
      refine go T_ok 100 rfl ?_
      refine ld T_ok rfl rfl rfl rfl ((R8.cell (i := 0 + 4) (by omega)).trans (congrArg some n4)) ?_
      refine go T_ok 100 rfl ?_
      refine app1 T_ok rfl rfl rfl rfl rfl rfl (cs := [.int .i64 _]) rfl rfl rfl rfl (fun _ => rfl) (fun _ => rfl) (fun _ => rfl) hown8 (by unfold maxLen; omega) (by omega) hw48 ?_
      intro g5 A2 c2 w9 hown9 q9 hs9 _
      refine go T_ok 100 rfl ?_
      have ei : w64 ((i : Int) + 1) = ((i + 1 : Nat) : Int) := w64_id (by omega) (by omega)
      rw [ei]
      have es := cst_snoc (d : Int) k xs i hlt
      refine round ⟨(i + 1, A2, c2), rfl, ⟨by simp only; omega, q08.step q9 (fun k' hk' e => absurd (own_ge hown8 e) (by omega)), ⟨e', rowIs_keep R8 q9 (fun e => absurd (own_ge hown8 e) (by omega)), ?_⟩, ?_⟩, by simp only; omega⟩
      · simp only [es]
        exact ⟨n0, n1, n2, n3, n4⟩
      · have e2 := capV_succ (d : Int) k xs (i + 1)
        rw [es] at e2
        simp only [e2]
        exact hown9
    · refine go T_ok 100 rfl ?_
      have hlt : ¬ ((i : Int) < xs.length) := hlt
      have : i = xs.length := by omega
      subst this
      exact ret (ret2 (v := .slice _ _ _) (x := .int .i64 _) Try.results31 rfl rfl ⟨q7, .inr ⟨h, A', c', rfl, own_base hown (by omega)⟩⟩)

/-- the verdict on two lists of kept runs -/
def cmpL (l m : List (Nat × Nat)) : Int :=
  if l.isEmpty || m.isEmpty then 1 else if (hullL l).2 < (hullL m).1 then 2 else if (hullL m).2 < (hullL l).1 then 3 else 1
/-- the error of Compare -/
def cmpE (n m : Nat) (D lv : Int) : Int := if n ≤ 4000 ∧ listedE m D true ≠ 0 then listedE m D true else listedE n D (inB lv 2 450000)
end Go.Proofs.Ytocolpbakaibnaa
