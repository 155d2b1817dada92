/- The contract of Change: the walk. -/
import Derived.Test.YtocolpbakaibnaaC11
namespace Go.Proofs.Ytocolpbakaibnaa
open Go.Ev Go.Proofs Go.Cnt

attribute [local irreducible] At AtH

theorem wlv_bd {lv : Int} {j : Nat} (h0 : 2 ≤ lv) (h1 : lv ≤ 100) (hj : j ≤ 12) : 0 ≤ wlv lv j ∧ wlv lv j ≤ 900000 := by
  have h2 : (2 : Nat) ^ (j + 1) ≤ 2 ^ 13 := Nat.pow_le_pow_right (by omega) (by omega)
  have h3 : ((2 : Int) ^ (j + 1)) = ((2 ^ (j + 1) : Nat) : Int) := by simp
  unfold wlv
  rw [h3]
  generalize 2 ^ (j + 1) = t at h2
  have := mul_bd (a := lv) (b := (t : Int)) (A := 100) (B := 8192) (by omega) (by omega) h1 (by omega)
  omega
theorem ptrs_get {bg : List (Nat × Nat)} {k : Nat} {p : Nat × Nat} (h : bg[k]? = some p) : (ptrs bg)[k]? = some (.pointer (some ⟨p.1, 0, none⟩)) := by simp [ptrs, h]
def chgE (n : Nat) (D lv : Int) : Int := listedE n D (inB lv 2 100)
def chgV (o : Option (Nat × Nat)) : Value := match o with | some (n, j) => .tuple #[.int .i64 n, .int .i64 j, .int .i64 0] | none => .tuple #[.int .i64 0, .int .i64 0, .int .i64 5]
theorem Change_any (xs : List Bool) (D lv : Int) (A : Option Addr) (c B : Nat) (w : World) (hSl : Sl w B 1 A xs.length (boolVs xs)) :
    Ret Try.prog 42 [.slice A xs.length c, .int .i64 D, .int .i64 lv] w fun v w' => Chg No w w' ∧
      v = if chgE xs.length D lv = 0 then chgV (chgN D.toNat lv xs 0 xs.length) else .tuple #[.int .i64 0, .int .i64 0, .int .i64 (chgE xs.length D lv)] := by
  refine enter Try.func42 rfl Try.ntmps42 rfl ?_
  refine go T_ok 100 rfl ?_
  refine bx rfl rfl rfl (cs := [.int .i64 lv]) rfl ?_
  intro g1 w1 hg1 hs1 q1 B1
  refine go T_ok 100 rfl ?_
  refine scope ?_
  refine go T_ok 100 rfl ?_
  refine call rfl rfl rfl (ok _ (by decide) rfl) (listed_any A xs.length c D 72 [.pointer (some ⟨g1, 0, none⟩)] (ok _ (by decide) rfl) _ w1 (lev72 lv g1 w1 B1)) ?_
  rintro v w2 ⟨rfl, rfl⟩
  refine go T_ok 100 rfl ?_
  refine cond rfl (fun h => ?_) (fun h => ?_)
  · have h : chgE xs.length D lv ≠ 0 := by simpa [chgE] using h
    refine go T_ok 100 rfl ?_
    refine ret (ret3 (v := .int .i64 _) (x := .int .i64 _) (y := .int .i64 _) Try.results42 rfl rfl rfl ⟨q1, ?_⟩)
    rw [if_neg h]
    rfl
  · have h : chgE xs.length D lv = 0 := by simpa [chgE] using h
    rw [if_pos h]
    obtain ⟨d, rfl, hd0, hd1, hn, hlv⟩ := listedE_zero h
    rw [inB_iff] at hlv
    rw [Int.toNat_natCast]
    have hB := hSl.2.1
    refine go T_ok 100 rfl ?_
    refine label ?_
    refine go T_ok 100 rfl ?_
    refine loop [1, 5, 10, 22, 23, 24] (fun x : Nat × Option Addr × Nat × List (Nat × Nat) => [.int .i64 d, .pointer (some ⟨g1, 0, none⟩), .slice x.2.1 x.2.2.2.length x.2.2.1, .slice A xs.length c, .int .i64 (xs.length : Int), .int .i64 (x.1 : Int)])
      (fun x w' => x.1 ≤ xs.length ∧ Chg No w w' ∧ Bk w' g1 3 [.int .i64 lv] ∧ w'.ownsRow w1.heap.size 86 1 (.slice x.2.1 x.2.2.2.length x.2.2.1) x.2.2.2.length (ptrs x.2.2.2) ∧ w1.heap.size ≤ w'.heap.size ∧ Wat w' w1.heap.size d lv xs x.1 x.1 0 x.2.2.2 ∧ chgN d lv xs 0 xs.length = chgN d lv xs x.1 (xs.length - x.1)) (fun x => xs.length - x.1) (0, none, 0, []) (fun _ => rfl) rfl
      ⟨by simp, q1, B1, own_nil, Nat.le_refl _, ⟨rfl, by simp, by simp, by simp⟩, by simp⟩ ?_
    rintro ⟨i, A1, c1, bg⟩ τ w2 ⟨hi, q2, B2, hown, hsz, HW, hchg⟩
    simp only at hi hown HW hchg
    refine go T_ok 100 rfl ?_
    refine condD rfl (fun hlt => ?_) (fun hlt => ?_)
    · have hlt : i < xs.length := by simp only at hlt; omega
      have hiN := hlt
      refine go T_ok 100 rfl ?_
      obtain ⟨_, _, hA⟩ := hSl.no q2
      obtain ⟨bb, off, rfl, hbB, hcells⟩ := hA (by omega)
      refine idx T_ok rfl rfl rfl rfl rfl i rfl (by omega) ?_
      refine go T_ok 100 rfl ?_
      rw [show off + i * 1 = off + i by omega]
      refine ld T_ok rfl rfl rfl rfl (hcells i _ (boolVs_get hlt)) ?_
      refine go T_ok 100 rfl ?_
      have hlen := HW.len
      have hwl := wl_le (i := i + 1) (by omega)
      have hgw : g1 < w1.heap.size := B1.lt
      /-MARK-/
      dsimp only
      cases hi0 : ((i : Int) == 0) with
      | true =>
        have hnew : newB i = true := by
          have : i = 0 := by have := beq_iff_eq.1 hi0; omega
          subst this
          rfl
        refine guard (b := true) rfl rfl rfl (fun _ => ?_) (fun h => by cases h)
        refine go T_ok 100 rfl ?_
        refine ld T_ok rfl rfl rfl rfl (B2.get rfl) ?_
        refine go T_ok 100 rfl ?_
        have hlen1 : (wl (i + 1)).length = (wl i).length + 1 := by simp [wl, hnew]
        have e1 : w64 ((bg.length : Int) + 1) = ((bg.length + 1 : Nat) : Int) := w64_id (by omega) (by omega)
        have hlv2 := wlv_bd (j := bg.length) hlv.1 hlv.2 (by omega)
        have e2 : w64 (lv * 2 ^ (bg.length + 1)) = wlv lv bg.length := w64_id (by unfold wlv at hlv2; omega) (by unfold wlv at hlv2; omega)
        rw [e1]
        refine shl rfl rfl rfl rfl (bg.length + 1) rfl (by omega) ?_
        refine go T_ok 100 rfl ?_
        rw [e2]
        refine call rfl rfl rfl (ok _ (by decide) rfl) (begin_any d (wlv lv bg.length) w2 hd0 hd1) ?_
        rintro v w3a ⟨b, g, rfl, hb, hg, q3a, H⟩
        refine go T_ok 100 rfl ?_
        refine app1 T_ok rfl rfl rfl rfl rfl rfl (cs := [.pointer (some ⟨b, 0, none⟩)]) rfl rfl rfl rfl (fun _ => rfl) (fun _ => rfl) (fun _ => rfl) (own_no hown q3a) (by unfold maxLen; omega) (by omega) (by have := q3a.size; omega) ?_
        intro gr A2 c2 w3 hown3 q3b hs3 hob
        refine go T_ok 100 rfl ?_
        have hnb : ∀ (k : Nat), (Value.slice A1 bg.length c1).ownBlock = some k → k ≠ b ∧ k ≠ g := by
          intro k hk
          obtain ⟨f, cap, Rb, _⟩ := H.par
          obtain ⟨m, e, Rg, _⟩ := H.row
          have h1 := own_ne_row (own_no hown q3a) Rb (by decide)
          have h2 := own_ne_row (own_no hown q3a) Rg (by decide)
          exact ⟨fun e => h1 (hk.trans (congrArg some e)), fun e => h2 (hk.trans (congrArg some e))⟩
        have H3 := H.keep q3b (fun e => (hnb b e).1 rfl) (fun e => (hnb g e).2 rfl)
        have hs2 := q3a.size
        have q3 : Chg No w w3 := (q2.trans q3a).step q3b (fun k hk e => by have := own_ge hown e; omega)
        have B3 := (B2.no q3a).keep q3b (fun e => by have := own_ge hown e; omega)
        have hsz3 : w1.heap.size ≤ w3.heap.size := by omega
        have HWa := (HW.keep q3a (fun k p hp => ⟨fun h => h, fun h => h⟩)).keep q3b (fun k p hp => by
          obtain ⟨f, cap, Rb, _⟩ := (HW.bets k p hp).par
          obtain ⟨m, e, Rg, _⟩ := (HW.bets k p hp).row
          exact ⟨own_ne_row hown Rb (by decide), own_ne_row hown Rg (by decide)⟩)
        have HW3 := HWa.add hnew H3 (by omega) (by omega) (fun k p hp => by
          have h1 := (HW.bets k p hp).ltb
          have h2 := (HW.bets k p hp).ltg
          omega)
        have hl2 : bg.length + 1 = (bg ++ [(b, g)]).length := by simp
        have hp2 : ptrs bg ++ [.pointer (some ⟨b, 0, none⟩)] = ptrs (bg ++ [(b, g)]) := by simp [ptrs]
        rw [hp2] at hown3
        clear hob
        rw [hl2] at hown3 ⊢
        generalize bg ++ [(b, g)] = bg2 at hown3 HW3 ⊢
        refine go T_ok 100 rfl ?_
        have hlen2 := HW3.len
        refine loop [1, 5, 10, 11, 12, 22, 23, 24, 48, 49, 50] (fun j : Nat => [.int .i64 d, .pointer (some ⟨g1, 0, none⟩), .slice A2 bg2.length c2, .int .i64 (i : Int), .bool xs[i], .slice (some ⟨bb, off, none⟩) xs.length c, .int .i64 (xs.length : Int), .int .i64 (i : Int), .slice A2 bg2.length c2, .int .i64 (bg2.length : Int), .int .i64 (j : Int)])
          (fun j w' => j ≤ bg2.length ∧ Chg No w w' ∧ Bk w' g1 3 [.int .i64 lv] ∧ w'.ownsRow w1.heap.size 86 1 (.slice A2 bg2.length c2) bg2.length (ptrs bg2) ∧ w1.heap.size ≤ w'.heap.size ∧ Wat w' w1.heap.size d lv xs (i + 1) i j bg2 ∧ firstN (dead d lv xs i) 0 bg2.length = firstN (dead d lv xs i) j (bg2.length - j)) (fun j => bg2.length - j) 0 (fun _ => rfl) rfl
          ⟨by omega, q3, B3, hown3, hsz3, HW3, by simp⟩ ?_
        rintro j τ2 w4 ⟨hj, q4, B4, hown4, hsz4, HW4, hfirst⟩
        refine go T_ok 100 rfl ?_
        refine condD rfl (fun hlt2 => ?_) (fun hlt2 => ?_)
        · have hlt2 : j < bg2.length := by omega
          refine go T_ok 100 rfl ?_
          obtain ⟨_, _, hA2⟩ := own_sl hown4
          obtain ⟨r, off2, rfl, _, hcells2⟩ := hA2 (by omega)
          obtain ⟨p, hp⟩ : ∃ p, bg2[j]? = some p := ⟨bg2[j], List.getElem?_eq_getElem hlt2⟩
          refine idx T_ok rfl rfl rfl rfl rfl j rfl (by omega) ?_
          refine go T_ok 100 rfl ?_
          rw [show off2 + j * 1 = off2 + j by omega]
          refine ld T_ok rfl rfl rfl rfl (hcells2 j _ (ptrs_get hp)) ?_
          refine go T_ok 100 rfl ?_
          have Hj := HW4.bets j p hp
          rw [if_neg (by omega)] at Hj
          have hlvj := wlv_bd (j := j) hlv.1 hlv.2 (by omega)
          refine call rfl rfl rfl (ok _ (by decide) rfl) (next_any xs[i] d (wlv lv j) _ p.1 p.2 w4 Hj hd0 hd1 hlvj.1 hlvj.2 (fun x hx _ => (bst_ok (by omega) (by omega) (by omega) _).mono (by simp only [seen, List.length_drop, List.length_take]; omega))) ?_
          rintro v w5 ⟨rfl, q5, H5⟩
          refine go T_ok 100 rfl ?_
          have HW5 := HW4.stepped hp q5 hiN (by omega) H5
          have Hj5 := HW5.bets j p hp
          rw [if_pos (by omega)] at Hj5
          obtain ⟨f, cap, Rb, a0, a1, a2, a3, a4, a5⟩ := id Hj5.par
          have hlow := HW4.low j p hp
          have q05 : Chg No w w5 := q4.step q5 (fun k hk h => by rcases h with h | h <;> omega)
          have B5 := B4.keep q5 (by omega)
          have hown5 : w5.ownsRow w1.heap.size 86 1 (.slice (some ⟨r, off2, none⟩) bg2.length c2) bg2.length (ptrs bg2) := own_keep hown4 q5 (fun k hk h => by
            obtain ⟨f, cap, Rb, _⟩ := Hj.par
            obtain ⟨m, e, Rg, _⟩ := Hj.row
            rcases h with h | h
            · exact own_ne_row hown4 Rb (by decide) (hk.trans (congrArg some h))
            · exact own_ne_row hown4 Rg (by decide) (hk.trans (congrArg some h)))
          have hsz5 := q5.size
          refine ld T_ok rfl rfl rfl rfl ((Rb.cell (i := 0 + 1004) (by omega)).trans (congrArg some a3)) ?_
          refine go T_ok 100 rfl ?_
          have hkc := kept_cnt (D := d) (S := sts d (wlv lv j) (seen xs (i + 1) (i + 1) j))
          have hdead : dead d lv xs i j = ((cnt (fun x => !(sts d (wlv lv j) (seen xs (i + 1) (i + 1) j) x).out) (d + 1) : Int) == 0) := hkc.symm
          have ei : w64 ((i : Int) + 1) = ((i + 1 : Nat) : Int) := w64_id (by omega) (by omega)
          have ej : w64 ((j : Int) + 1) = ((j + 1 : Nat) : Int) := w64_id (by omega) (by omega)
          rw [show bg2.length - j = (bg2.length - (j + 1)) + 1 by omega, firstN] at hfirst
          refine condD rfl (fun hk => ?_) (fun hk => ?_)
          · refine go T_ok 100 rfl ?_
            rw [ej]
            have hd' : dead d lv xs i j = false := by rw [hdead]; exact beq_eq_false_iff_ne.2 (by omega)
            rw [hd', if_neg (by simp)] at hfirst
            exact round ⟨j + 1, rfl, ⟨by omega, q05, B5, hown5, by omega, HW5, hfirst⟩, by omega⟩
          · refine go T_ok 100 rfl ?_
            rw [ei]
            have hd' : dead d lv xs i j = true := by rw [hdead]; exact beq_iff_eq.2 (by omega)
            rw [hd', if_pos rfl] at hfirst
            refine ret (ret3 (v := .int .i64 _) (x := .int .i64 _) (y := .int .i64 _) Try.results42 rfl rfl rfl ⟨q05, ?_⟩)
            rw [hchg, show xs.length - i = (xs.length - (i + 1)) + 1 by omega, chgN, ← hlen2, hfirst]
            rfl
        · refine go T_ok 100 rfl ?_
          have hj2 : j = bg2.length := by omega
          subst hj2
          rw [Nat.sub_self, firstN] at hfirst
          have ei : w64 ((i : Int) + 1) = ((i + 1 : Nat) : Int) := w64_id (by omega) (by omega)
          rw [ei]
          refine round ⟨(i + 1, A2, c2, bg2), rfl, ⟨by simp only; omega, q4, B4, hown4, hsz4, HW4.next, ?_⟩, by simp only; omega⟩
          rw [hchg, show xs.length - i = (xs.length - (i + 1)) + 1 by omega, chgN, ← hlen2, hfirst]
      | false =>
        have hi1 : 1 ≤ i := by have := beq_eq_false_iff_ne.1 hi0; omega
        refine guard (b := false) rfl rfl rfl (fun h => by cases h) (fun _ => ?_)
        refine go T_ok 100 rfl ?_
        rw [and_lem hi1 (by omega)]
        have hnb0 : newB i = Nat.beq (Nat.land i (i - 1)) 0 := by
          have : Nat.beq i 0 = false := by rw [Bool.eq_false_iff]; intro e; have := Nat.eq_of_beq_eq_true e; omega
          rw [newB, this, Bool.false_or]
        rw [← hnb0]
        cases hnew : newB i with
        | true =>
          refine condT rfl rfl ?_
          refine go T_ok 100 rfl ?_
          refine ld T_ok rfl rfl rfl rfl (B2.get rfl) ?_
          refine go T_ok 100 rfl ?_
          have hlen1 : (wl (i + 1)).length = (wl i).length + 1 := by simp [wl, hnew]
          have e1 : w64 ((bg.length : Int) + 1) = ((bg.length + 1 : Nat) : Int) := w64_id (by omega) (by omega)
          have hlv2 := wlv_bd (j := bg.length) hlv.1 hlv.2 (by omega)
          have e2 : w64 (lv * 2 ^ (bg.length + 1)) = wlv lv bg.length := w64_id (by unfold wlv at hlv2; omega) (by unfold wlv at hlv2; omega)
          rw [e1]
          refine shl rfl rfl rfl rfl (bg.length + 1) rfl (by omega) ?_
          refine go T_ok 100 rfl ?_
          rw [e2]
          refine call rfl rfl rfl (ok _ (by decide) rfl) (begin_any d (wlv lv bg.length) w2 hd0 hd1) ?_
          rintro v w3a ⟨b, g, rfl, hb, hg, q3a, H⟩
          refine go T_ok 100 rfl ?_
          refine app1 T_ok rfl rfl rfl rfl rfl rfl (cs := [.pointer (some ⟨b, 0, none⟩)]) rfl rfl rfl rfl (fun _ => rfl) (fun _ => rfl) (fun _ => rfl) (own_no hown q3a) (by unfold maxLen; omega) (by omega) (by have := q3a.size; omega) ?_
          intro gr A2 c2 w3 hown3 q3b hs3 hob
          refine go T_ok 100 rfl ?_
          have hnb : ∀ (k : Nat), (Value.slice A1 bg.length c1).ownBlock = some k → k ≠ b ∧ k ≠ g := by
            intro k hk
            obtain ⟨f, cap, Rb, _⟩ := H.par
            obtain ⟨m, e, Rg, _⟩ := H.row
            have h1 := own_ne_row (own_no hown q3a) Rb (by decide)
            have h2 := own_ne_row (own_no hown q3a) Rg (by decide)
            exact ⟨fun e => h1 (hk.trans (congrArg some e)), fun e => h2 (hk.trans (congrArg some e))⟩
          have H3 := H.keep q3b (fun e => (hnb b e).1 rfl) (fun e => (hnb g e).2 rfl)
          have hs2 := q3a.size
          have q3 : Chg No w w3 := (q2.trans q3a).step q3b (fun k hk e => by have := own_ge hown e; omega)
          have B3 := (B2.no q3a).keep q3b (fun e => by have := own_ge hown e; omega)
          have hsz3 : w1.heap.size ≤ w3.heap.size := by omega
          have HWa := (HW.keep q3a (fun k p hp => ⟨fun h => h, fun h => h⟩)).keep q3b (fun k p hp => by
            obtain ⟨f, cap, Rb, _⟩ := (HW.bets k p hp).par
            obtain ⟨m, e, Rg, _⟩ := (HW.bets k p hp).row
            exact ⟨own_ne_row hown Rb (by decide), own_ne_row hown Rg (by decide)⟩)
          have HW3 := HWa.add hnew H3 (by omega) (by omega) (fun k p hp => by
            have h1 := (HW.bets k p hp).ltb
            have h2 := (HW.bets k p hp).ltg
            omega)
          have hl2 : bg.length + 1 = (bg ++ [(b, g)]).length := by simp
          have hp2 : ptrs bg ++ [.pointer (some ⟨b, 0, none⟩)] = ptrs (bg ++ [(b, g)]) := by simp [ptrs]
          rw [hp2] at hown3
          clear hob
          rw [hl2] at hown3 ⊢
          generalize bg ++ [(b, g)] = bg2 at hown3 HW3 ⊢
          refine go T_ok 100 rfl ?_
          have hlen2 := HW3.len
          refine loop [1, 5, 10, 11, 12, 22, 23, 24, 48, 49, 50] (fun j : Nat => [.int .i64 d, .pointer (some ⟨g1, 0, none⟩), .slice A2 bg2.length c2, .int .i64 (i : Int), .bool xs[i], .slice (some ⟨bb, off, none⟩) xs.length c, .int .i64 (xs.length : Int), .int .i64 (i : Int), .slice A2 bg2.length c2, .int .i64 (bg2.length : Int), .int .i64 (j : Int)])
            (fun j w' => j ≤ bg2.length ∧ Chg No w w' ∧ Bk w' g1 3 [.int .i64 lv] ∧ w'.ownsRow w1.heap.size 86 1 (.slice A2 bg2.length c2) bg2.length (ptrs bg2) ∧ w1.heap.size ≤ w'.heap.size ∧ Wat w' w1.heap.size d lv xs (i + 1) i j bg2 ∧ firstN (dead d lv xs i) 0 bg2.length = firstN (dead d lv xs i) j (bg2.length - j)) (fun j => bg2.length - j) 0 (fun _ => rfl) rfl
            ⟨by omega, q3, B3, hown3, hsz3, HW3, by simp⟩ ?_
          rintro j τ2 w4 ⟨hj, q4, B4, hown4, hsz4, HW4, hfirst⟩
          refine go T_ok 100 rfl ?_
          refine condD rfl (fun hlt2 => ?_) (fun hlt2 => ?_)
          · have hlt2 : j < bg2.length := by omega
            refine go T_ok 100 rfl ?_
            obtain ⟨_, _, hA2⟩ := own_sl hown4
            obtain ⟨r, off2, rfl, _, hcells2⟩ := hA2 (by omega)
            obtain ⟨p, hp⟩ : ∃ p, bg2[j]? = some p := ⟨bg2[j], List.getElem?_eq_getElem hlt2⟩
            refine idx T_ok rfl rfl rfl rfl rfl j rfl (by omega) ?_
            refine go T_ok 100 rfl ?_
            rw [show off2 + j * 1 = off2 + j by omega]
            refine ld T_ok rfl rfl rfl rfl (hcells2 j _ (ptrs_get hp)) ?_
            refine go T_ok 100 rfl ?_
            have Hj := HW4.bets j p hp
            rw [if_neg (by omega)] at Hj
            have hlvj := wlv_bd (j := j) hlv.1 hlv.2 (by omega)
            refine call rfl rfl rfl (ok _ (by decide) rfl) (next_any xs[i] d (wlv lv j) _ p.1 p.2 w4 Hj hd0 hd1 hlvj.1 hlvj.2 (fun x hx _ => (bst_ok (by omega) (by omega) (by omega) _).mono (by simp only [seen, List.length_drop, List.length_take]; omega))) ?_
            rintro v w5 ⟨rfl, q5, H5⟩
            refine go T_ok 100 rfl ?_
            have HW5 := HW4.stepped hp q5 hiN (by omega) H5
            have Hj5 := HW5.bets j p hp
            rw [if_pos (by omega)] at Hj5
            obtain ⟨f, cap, Rb, a0, a1, a2, a3, a4, a5⟩ := id Hj5.par
            have hlow := HW4.low j p hp
            have q05 : Chg No w w5 := q4.step q5 (fun k hk h => by rcases h with h | h <;> omega)
            have B5 := B4.keep q5 (by omega)
            have hown5 : w5.ownsRow w1.heap.size 86 1 (.slice (some ⟨r, off2, none⟩) bg2.length c2) bg2.length (ptrs bg2) := own_keep hown4 q5 (fun k hk h => by
              obtain ⟨f, cap, Rb, _⟩ := Hj.par
              obtain ⟨m, e, Rg, _⟩ := Hj.row
              rcases h with h | h
              · exact own_ne_row hown4 Rb (by decide) (hk.trans (congrArg some h))
              · exact own_ne_row hown4 Rg (by decide) (hk.trans (congrArg some h)))
            have hsz5 := q5.size
            refine ld T_ok rfl rfl rfl rfl ((Rb.cell (i := 0 + 1004) (by omega)).trans (congrArg some a3)) ?_
            refine go T_ok 100 rfl ?_
            have hkc := kept_cnt (D := d) (S := sts d (wlv lv j) (seen xs (i + 1) (i + 1) j))
            have hdead : dead d lv xs i j = ((cnt (fun x => !(sts d (wlv lv j) (seen xs (i + 1) (i + 1) j) x).out) (d + 1) : Int) == 0) := hkc.symm
            have ei : w64 ((i : Int) + 1) = ((i + 1 : Nat) : Int) := w64_id (by omega) (by omega)
            have ej : w64 ((j : Int) + 1) = ((j + 1 : Nat) : Int) := w64_id (by omega) (by omega)
            rw [show bg2.length - j = (bg2.length - (j + 1)) + 1 by omega, firstN] at hfirst
            refine condD rfl (fun hk => ?_) (fun hk => ?_)
            · refine go T_ok 100 rfl ?_
              rw [ej]
              have hd' : dead d lv xs i j = false := by rw [hdead]; exact beq_eq_false_iff_ne.2 (by omega)
              rw [hd', if_neg (by simp)] at hfirst
              exact round ⟨j + 1, rfl, ⟨by omega, q05, B5, hown5, by omega, HW5, hfirst⟩, by omega⟩
            · refine go T_ok 100 rfl ?_
              rw [ei]
              have hd' : dead d lv xs i j = true := by rw [hdead]; exact beq_iff_eq.2 (by omega)
              rw [hd', if_pos rfl] at hfirst
              refine ret (ret3 (v := .int .i64 _) (x := .int .i64 _) (y := .int .i64 _) Try.results42 rfl rfl rfl ⟨q05, ?_⟩)
              rw [hchg, show xs.length - i = (xs.length - (i + 1)) + 1 by omega, chgN, ← hlen2, hfirst]
              rfl
          · refine go T_ok 100 rfl ?_
            have hj2 : j = bg2.length := by omega
            subst hj2
            rw [Nat.sub_self, firstN] at hfirst
            have ei : w64 ((i : Int) + 1) = ((i + 1 : Nat) : Int) := w64_id (by omega) (by omega)
            rw [ei]
            refine round ⟨(i + 1, A2, c2, bg2), rfl, ⟨by simp only; omega, q4, B4, hown4, hsz4, HW4.next, ?_⟩, by simp only; omega⟩
            rw [hchg, show xs.length - i = (xs.length - (i + 1)) + 1 by omega, chgN, ← hlen2, hfirst]
        | false =>
          refine condF rfl rfl ?_
          refine go T_ok 100 rfl ?_
          have HW3 := HW.old hnew
          have q3 := q2
          have B3 := B2
          have hown3 := hown
          have hsz3 := hsz
          have hlen2 := HW3.len
          refine loop [1, 5, 10, 11, 12, 22, 23, 24, 48, 49, 50] (fun j : Nat => [.int .i64 d, .pointer (some ⟨g1, 0, none⟩), .slice A1 bg.length c1, .int .i64 (i : Int), .bool xs[i], .slice (some ⟨bb, off, none⟩) xs.length c, .int .i64 (xs.length : Int), .int .i64 (i : Int), .slice A1 bg.length c1, .int .i64 (bg.length : Int), .int .i64 (j : Int)])
            (fun j w' => j ≤ bg.length ∧ Chg No w w' ∧ Bk w' g1 3 [.int .i64 lv] ∧ w'.ownsRow w1.heap.size 86 1 (.slice A1 bg.length c1) bg.length (ptrs bg) ∧ w1.heap.size ≤ w'.heap.size ∧ Wat w' w1.heap.size d lv xs (i + 1) i j bg ∧ firstN (dead d lv xs i) 0 bg.length = firstN (dead d lv xs i) j (bg.length - j)) (fun j => bg.length - j) 0 (fun _ => rfl) rfl
            ⟨by omega, q3, B3, hown3, hsz3, HW3, by simp⟩ ?_
          rintro j τ2 w4 ⟨hj, q4, B4, hown4, hsz4, HW4, hfirst⟩
          refine go T_ok 100 rfl ?_
          refine condD rfl (fun hlt2 => ?_) (fun hlt2 => ?_)
          · have hlt2 : j < bg.length := by omega
            refine go T_ok 100 rfl ?_
            obtain ⟨_, _, hA2⟩ := own_sl hown4
            obtain ⟨r, off2, rfl, _, hcells2⟩ := hA2 (by omega)
            obtain ⟨p, hp⟩ : ∃ p, bg[j]? = some p := ⟨bg[j], List.getElem?_eq_getElem hlt2⟩
            refine idx T_ok rfl rfl rfl rfl rfl j rfl (by omega) ?_
            refine go T_ok 100 rfl ?_
            rw [show off2 + j * 1 = off2 + j by omega]
            refine ld T_ok rfl rfl rfl rfl (hcells2 j _ (ptrs_get hp)) ?_
            refine go T_ok 100 rfl ?_
            have Hj := HW4.bets j p hp
            rw [if_neg (by omega)] at Hj
            have hlvj := wlv_bd (j := j) hlv.1 hlv.2 (by omega)
            refine call rfl rfl rfl (ok _ (by decide) rfl) (next_any xs[i] d (wlv lv j) _ p.1 p.2 w4 Hj hd0 hd1 hlvj.1 hlvj.2 (fun x hx _ => (bst_ok (by omega) (by omega) (by omega) _).mono (by simp only [seen, List.length_drop, List.length_take]; omega))) ?_
            rintro v w5 ⟨rfl, q5, H5⟩
            refine go T_ok 100 rfl ?_
            have HW5 := HW4.stepped hp q5 hiN (by omega) H5
            have Hj5 := HW5.bets j p hp
            rw [if_pos (by omega)] at Hj5
            obtain ⟨f, cap, Rb, a0, a1, a2, a3, a4, a5⟩ := id Hj5.par
            have hlow := HW4.low j p hp
            have q05 : Chg No w w5 := q4.step q5 (fun k hk h => by rcases h with h | h <;> omega)
            have B5 := B4.keep q5 (by omega)
            have hown5 : w5.ownsRow w1.heap.size 86 1 (.slice (some ⟨r, off2, none⟩) bg.length c1) bg.length (ptrs bg) := own_keep hown4 q5 (fun k hk h => by
              obtain ⟨f, cap, Rb, _⟩ := Hj.par
              obtain ⟨m, e, Rg, _⟩ := Hj.row
              rcases h with h | h
              · exact own_ne_row hown4 Rb (by decide) (hk.trans (congrArg some h))
              · exact own_ne_row hown4 Rg (by decide) (hk.trans (congrArg some h)))
            have hsz5 := q5.size
            refine ld T_ok rfl rfl rfl rfl ((Rb.cell (i := 0 + 1004) (by omega)).trans (congrArg some a3)) ?_
            refine go T_ok 100 rfl ?_
            have hkc := kept_cnt (D := d) (S := sts d (wlv lv j) (seen xs (i + 1) (i + 1) j))
            have hdead : dead d lv xs i j = ((cnt (fun x => !(sts d (wlv lv j) (seen xs (i + 1) (i + 1) j) x).out) (d + 1) : Int) == 0) := hkc.symm
            have ei : w64 ((i : Int) + 1) = ((i + 1 : Nat) : Int) := w64_id (by omega) (by omega)
            have ej : w64 ((j : Int) + 1) = ((j + 1 : Nat) : Int) := w64_id (by omega) (by omega)
            rw [show bg.length - j = (bg.length - (j + 1)) + 1 by omega, firstN] at hfirst
            refine condD rfl (fun hk => ?_) (fun hk => ?_)
            · refine go T_ok 100 rfl ?_
              rw [ej]
              have hd' : dead d lv xs i j = false := by rw [hdead]; exact beq_eq_false_iff_ne.2 (by omega)
              rw [hd', if_neg (by simp)] at hfirst
              exact round ⟨j + 1, rfl, ⟨by omega, q05, B5, hown5, by omega, HW5, hfirst⟩, by omega⟩
            · refine go T_ok 100 rfl ?_
              rw [ei]
              have hd' : dead d lv xs i j = true := by rw [hdead]; exact beq_iff_eq.2 (by omega)
              rw [hd', if_pos rfl] at hfirst
              refine ret (ret3 (v := .int .i64 _) (x := .int .i64 _) (y := .int .i64 _) Try.results42 rfl rfl rfl ⟨q05, ?_⟩)
              rw [hchg, show xs.length - i = (xs.length - (i + 1)) + 1 by omega, chgN, ← hlen2, hfirst]
              rfl
          · refine go T_ok 100 rfl ?_
            have hj2 : j = bg.length := by omega
            subst hj2
            rw [Nat.sub_self, firstN] at hfirst
            have ei : w64 ((i : Int) + 1) = ((i + 1 : Nat) : Int) := w64_id (by omega) (by omega)
            rw [ei]
            refine round ⟨(i + 1, A1, c1, bg), rfl, ⟨by simp only; omega, q4, B4, hown4, hsz4, HW4.next, ?_⟩, by simp only; omega⟩
            rw [hchg, show xs.length - i = (xs.length - (i + 1)) + 1 by omega, chgN, ← hlen2, hfirst]
    · refine go T_ok 100 rfl ?_
      have hlt : ¬ ((i : Int) < xs.length) := hlt
      refine ret (ret3 (v := .int .i64 _) (x := .int .i64 _) (y := .int .i64 _) Try.results42 rfl rfl rfl ⟨q2, ?_⟩)
      rw [hchg, show xs.length - i = 0 by omega]
      rfl
end Go.Proofs.Ytocolpbakaibnaa
