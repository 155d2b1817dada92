/- The contract of known: the document's examples. -/
import Derived.Test.YteenhfnamjbaiaaR1
import Derived.Test.YteenhfnamjbaiaaJM
import Derived.Test.YteenhfnamjbaiaaGM
namespace Go.Proofs.Yteenhfnamjbaiaa
open Go.Ev Go.Proofs
open Go.Camp (Sc ScOk CpOk SiteOk SlOk ChOk SupOk DyOk TrOk trackP difP smE trRaw best)
attribute [local irreducible] At AtH
def scX : Sc := ⟨[(0, 1), (0, 1)], [(false, false), (false, true)]⟩
def scY : Sc := trackP 2 1
theorem k_x : trackP 2 0 = scX := by decide +kernel
theorem k_xn : (smE (trRaw 2 1 2)).2.2 = 2 := by decide +kernel
theorem k_yn : (smE (trRaw 2 2 4)).2.2 = scY.nx.length ∧ scY.al.length = scY.nx.length := by decide +kernel
theorem k_d : difP scX scY = some [true, false, true] := by decide +kernel
theorem k_pow : oddsP camK 2 false [0] = (7, 16) := by decide +kernel
theorem k_best : bestOf camK 1 (moreL camK 3 0 []) = some [0, 1] := by decide +kernel
theorem k_bpow : oddsP camK 1 false [0, 1] = (10, 16) := by decide +kernel
theorem k_most : 0 ≤ mostD supK 0 supK.b := by decide +kernel
theorem k_sch : best supK supK.days supK.b = [true, false, true] := by decide +kernel
theorem k_tour : (roundP trK).best = [0, 1] ∧ (roundP trK).least = 14 := by decide +kernel
theorem cam_ok : CpOk camK := ⟨by decide, by decide, by decide, by decide, by decide, by decide, by decide, by decide, fun x hx => by
 simp only [camK, List.mem_cons, List.not_mem_nil, or_false] at hx
 rcases hx with rfl | rfl | rfl <;> exact ⟨by decide, by decide, by decide, by decide, by decide, by decide, by decide⟩⟩
theorem cam_s2 : SlOk camK 2 := ⟨by decide, by decide +kernel⟩
theorem cam_s1 : SlOk camK 1 := ⟨by decide, by decide +kernel⟩
theorem cam_ch : ChOk camK [0] := ⟨fun i hi => by simp at hi; subst hi; exact ⟨by decide, by decide⟩, fun i a ha b hb => by simp at hb, by decide, by decide, by decide⟩
theorem sup_ok : SupOk supK := ⟨by decide, by decide, by decide, by decide, by decide, by decide, by decide, by decide, by decide, by decide, by decide, by decide, by decide, by decide, by decide, by decide, by decide, fun x hx => by
 simp only [supK, List.mem_cons, List.not_mem_nil, or_false] at hx
 rcases hx with rfl | rfl | rfl <;> exact ⟨by decide, by decide, by decide, by decide, by decide, by decide, by decide, by decide⟩, by decide⟩
theorem tr_ok : TrOk trK := ⟨by decide, by decide, by decide, by decide, by decide⟩
theorem sx_ok : ScOk scX := ⟨by decide, by decide, by decide, by decide⟩
theorem sy_ok : ScOk scY := ⟨by decide +kernel, by decide +kernel, by decide +kernel, by decide +kernel⟩
theorem k_y : trackP 2 1 = scY := rfl
attribute [local irreducible] scY
set_option maxRecDepth 20000 in
set_option maxHeartbeats 16000000 in
theorem known_any (w0 : World) : Ret Try.prog 20 [] w0 fun x w' => x = .bool true ∧ Chg No w0 w' := by
 refine enter Try.func20 rfl Try.ntmps20 rfl ?_
 refine go TK_ok 200 rfl ?_
 refine call rfl rfl rfl (ok _ (by decide) rfl) (Campaign_any _) ?_
 rintro x w ⟨gc, rfl, q, hC⟩
 refine go TK_ok 200 rfl ?_
 refine row TK_ok rfl rfl rfl rfl rfl rfl (cs := [I 0]) rfl ?_
 intro gr w hgr hsr qk Br _
 have hC := hC.no qk
 have q := q.trans qk
 refine go TK_ok 200 rfl ?_
 have X := Power_ok ⟨camK, some ⟨gc, 0, none⟩, 3⟩ 2 [0] (some ⟨gr, 0, none⟩) 1 _ w hC cam_ok cam_s2 cam_ch (Br.sl (sz := 1) (m := 1) rfl)
 simp only [k_pow] at X
 refine call rfl rfl rfl (ok _ (by decide) rfl) X ?_
 rintro x w ⟨rfl, qk⟩
 have q := q.trans qk
 clear hC Br
 refine go TK_ok 200 rfl ?_
 have yq := q.size
 refine nw rfl rfl (z := .agg #[I 0, I 0]) (by kernel_rfl) (cs := [I 0, I 0]) rfl ?_
 intro g1 w hg1 hs1 qk B1
 have q := q.trans qk
 refine go TK_ok 200 rfl ?_
 refine stA TK_ok rfl rfl rfl rfl (vs := [I 7, I 16]) rfl rfl rfl B1 rfl ?_
 intro w qk B1 hz1
 have B1 : Bk w g1 30 ([I 7, I 16]) := B1
 have q := q.step qk (fun k hk e => by omega)
 refine go TK_ok 200 rfl ?_
 refine call rfl rfl rfl (ok _ (by decide) rfl) (Campaign_any _) ?_
 rintro x w ⟨gc2, rfl, qk, hC⟩
 have B1 := B1.no qk
 have q := q.trans qk
 refine go TK_ok 200 rfl ?_
 refine call rfl rfl rfl (ok _ (by decide) rfl) (Best_ok ⟨camK, some ⟨gc2, 0, none⟩, 3⟩ 1 _ hC cam_ok cam_s1) ?_
 rintro x w ⟨A3, c3, b3, hb3, rfl, qk, S3, _⟩
 obtain rfl : b3 = some [0, 1] := hb3.trans k_best
 have S3 := own_sl S3
 have B1 := B1.no qk
 have q := q.trans qk
 rw [show odV (Cm.c ⟨camK, some ⟨gc2, 0, none⟩, 3⟩) 1 (some [0, 1]) = [I 10, I 16] by simp only [odV, k_bpow]]
 clear hC hb3
 refine go TK_ok 200 rfl ?_
 have yB1 := B1.lt
 have yS3 := S3.2.1
 have yq := q.size
 refine nw rfl rfl (z := .agg #[I 0, I 0]) (by kernel_rfl) (cs := [I 0, I 0]) rfl ?_
 intro g4 w hg4 hs4 qk B4
 have B1 := B1.no qk
 have S3 := S3.no qk
 have q := q.trans qk
 refine go TK_ok 200 rfl ?_
 refine stA TK_ok rfl rfl rfl rfl (vs := [I 10, I 16]) rfl rfl rfl B4 rfl ?_
 intro w qk B4 hz4
 have B4 : Bk w g4 30 ([I 10, I 16]) := B4
 have B1 := Bk.keep B1 qk (by omega)
 have S3 := Sl.keep S3 qk (fun k hk e => by omega)
 have q := q.step qk (fun k hk e => by omega)
 refine go TK_ok 200 rfl ?_
 refine call rfl rfl rfl (ok _ (by decide) rfl) (Supply_any _) ?_
 rintro x w ⟨gs, rfl, qk, hS⟩
 have B1 := B1.no qk
 have S3 := S3.no qk
 have B4 := B4.no qk
 have q := q.trans qk
 refine go TK_ok 200 rfl ?_
 refine call rfl rfl rfl (ok _ (by decide) rfl) (Schedule_any _ _ hS) ?_
 rintro x w ⟨A6, c6, e6, l6, rfl, qk, S6, hs1, hs2, hs3⟩
 have B1 := B1.no qk
 have S3 := S3.no qk
 have B4 := B4.no qk
 have q := q.trans qk
 obtain ⟨rfl, hl6⟩ := hs3 sup_ok k_most
 obtain rfl : l6 = [true, false, true] := hl6.trans k_sch
 have S6 := own_sl S6
 clear hs1 hs2 hs3 hl6 hS
 refine go TK_ok 200 rfl ?_
 refine call rfl rfl rfl (ok _ (by decide) rfl) (Tour_any _) ?_
 rintro x w ⟨mt, hmt, rfl, qk, hT⟩
 have B1 := B1.no qk
 have S3 := S3.no qk
 have B4 := B4.no qk
 have S6 := S6.no qk
 have q := q.trans qk
 refine go TK_ok 200 rfl ?_
 refine call rfl rfl rfl (ok _ (by decide) rfl) (Round_any mt _ hT) ?_
 rintro x w ⟨qk, hR⟩
 have hR : ∃ A c, x = .tuple #[.slice A 2 c, I 14, I 0] ∧ w.ownsRow 0 3 1 (.slice A 2 c) 2 (iL (iN [0, 1])) := by
  rw [hmt] at hR
  rcases hR with ⟨h, _⟩ | ⟨_, h, _⟩ | ⟨_, _, A, c, rfl, ho⟩
  ·exact absurd tr_ok h
  ·rw [k_tour.2] at h; exact absurd h (by decide)
  ·rw [k_tour.1, k_tour.2] at *
   exact ⟨A, c, rfl, own_base ho (Nat.zero_le _)⟩
 obtain ⟨A8, c8, rfl, S8⟩ := hR
 have S8 := own_sl S8
 have B1 := B1.no qk
 have S3 := S3.no qk
 have B4 := B4.no qk
 have S6 := S6.no qk
 have q := q.trans qk
 clear hT
 refine go TK_ok 200 rfl ?_
 refine call rfl rfl rfl (ok _ (by decide) rfl) (Tracker_any 2 0 _) ?_
 rintro x w ⟨qk, hR⟩
 have hR : ∃ gx gy : Nat, x = .tuple #[.agg #[.slice (some ⟨gx, 0, none⟩) 2 2, .slice (some ⟨gy, 0, none⟩) 2 2], I 0] ∧ Bk w gx 124 (scX.nx.flatMap nV) ∧ Bk w gy 125 (scX.al.flatMap bV) := by
  rcases hR with ⟨h, _⟩ | ⟨_, _, gx, gy, n, rfl, _, _, h1, h2, rfl⟩
  ·exact absurd (by decide) h
  ·rw [show trackP (Int.toNat 2) (Int.toNat 0) = scX from k_x] at h1 h2
   rw [show (smE (trRaw (Int.toNat 2) (Int.toNat 2 + Int.toNat 0 - 1) (2 ^ (Int.toNat 2 + Int.toNat 0 - 1)))).2.2 = 2 from k_xn]
   exact ⟨gx, gy, rfl, h1, h2⟩
 obtain ⟨gx, gy, rfl, Bx, By⟩ := hR
 have B1 := B1.no qk
 have S3 := S3.no qk
 have B4 := B4.no qk
 have S6 := S6.no qk
 have S8 := S8.no qk
 have q := q.trans qk
 have yB1 := B1.lt
 have yB4 := B4.lt
 have yS3 := S3.2.1
 have yS6 := S6.2.1
 have yS8 := S8.2.1
 have yBx := Bx.lt
 have yBy := By.lt
 have yq := q.size
 refine go TK_ok 200 rfl ?_
 refine nw rfl rfl (z := .agg #[.slice none 0 0, .slice none 0 0]) (by kernel_rfl) (cs := [.slice none 0 0, .slice none 0 0]) rfl ?_
 intro g11 w hg11 hs11 qk B11
 have B1 := B1.no qk
 have S3 := S3.no qk
 have B4 := B4.no qk
 have S6 := S6.no qk
 have S8 := S8.no qk
 have Bx := Bx.no qk
 have By := By.no qk
 have q := q.trans qk
 refine go TK_ok 200 rfl ?_
 refine stA TK_ok rfl rfl rfl rfl (vs := [.slice (some ⟨gx, 0, none⟩) 2 2, .slice (some ⟨gy, 0, none⟩) 2 2]) rfl rfl rfl B11 rfl ?_
 intro w qk B11 hz11
 have B11 : Bk w g11 77 ([.slice (some ⟨gx, 0, none⟩) 2 2, .slice (some ⟨gy, 0, none⟩) 2 2]) := B11
 have B1 := B1.keep qk (by omega)
 have B4 := B4.keep qk (by omega)
 have S3 := S3.keep qk (fun k hk e => by omega)
 have S6 := S6.keep qk (fun k hk e => by omega)
 have S8 := S8.keep qk (fun k hk e => by omega)
 have Bx := Bx.keep qk (by omega)
 have By := By.keep qk (by omega)
 have q := q.step qk (fun k hk e => by omega)
 refine go TK_ok 200 rfl ?_
 refine call rfl rfl rfl (ok _ (by decide) rfl) (Tracker_any 2 1 _) ?_
 rintro x w ⟨qk, hR⟩
 have hR : ∃ gu gv : Nat, x = .tuple #[.agg #[.slice (some ⟨gu, 0, none⟩) scY.nx.length scY.nx.length, .slice (some ⟨gv, 0, none⟩) scY.al.length scY.nx.length], I 0] ∧ Bk w gu 124 (scY.nx.flatMap nV) ∧ Bk w gv 125 (scY.al.flatMap bV) := by
  rcases hR with ⟨h, _⟩ | ⟨_, _, gx, gy, n, rfl, _, _, h1, h2, rfl⟩
  ·exact absurd (by decide) h
  ·rw [show trackP (Int.toNat 2) (Int.toNat 1) = scY from k_y] at h1 h2
   rw [show (smE (trRaw (Int.toNat 2) (Int.toNat 2 + Int.toNat 1 - 1) (2 ^ (Int.toNat 2 + Int.toNat 1 - 1)))).2.2 = scY.nx.length from k_yn.1]
   rw [k_yn.2]
   exact ⟨gx, gy, rfl, h1, h2⟩
 obtain ⟨gu, gv, rfl, Bu, Bv⟩ := hR
 have B1 := B1.no qk
 have S3 := S3.no qk
 have B4 := B4.no qk
 have S6 := S6.no qk
 have S8 := S8.no qk
 have Bx := Bx.no qk
 have By := By.no qk
 have B11 := B11.no qk
 have q := q.trans qk
 have hly : scY.nx.length ≤ 128 := by decide +kernel
 have yB11 := B11.lt
 have yBu := Bu.lt
 have yBv := Bv.lt
 have yB1 := B1.lt
 have yB4 := B4.lt
 have yS3 := S3.2.1
 have yS6 := S6.2.1
 have yS8 := S8.2.1
 have yBx := Bx.lt
 have yBy := By.lt
 have yq := q.size
 refine go TK_ok 200 rfl ?_
 refine nw rfl rfl (z := .agg #[.slice none 0 0, .slice none 0 0]) (by kernel_rfl) (cs := [.slice none 0 0, .slice none 0 0]) rfl ?_
 intro g13 w hg13 hs13 qk B13
 have B1 := B1.no qk
 have S3 := S3.no qk
 have B4 := B4.no qk
 have S6 := S6.no qk
 have S8 := S8.no qk
 have Bx := Bx.no qk
 have By := By.no qk
 have B11 := B11.no qk
 have Bu := Bu.no qk
 have Bv := Bv.no qk
 have q := q.trans qk
 refine go TK_ok 200 rfl ?_
 refine stA TK_ok rfl rfl rfl rfl (vs := [.slice (some ⟨gu, 0, none⟩) scY.nx.length scY.nx.length, .slice (some ⟨gv, 0, none⟩) scY.al.length scY.nx.length]) rfl rfl rfl B13 rfl ?_
 intro w qk B13 hz13
 have B13 : Bk w g13 77 ([.slice (some ⟨gu, 0, none⟩) scY.nx.length scY.nx.length, .slice (some ⟨gv, 0, none⟩) scY.al.length scY.nx.length]) := B13
 have B1 := B1.keep qk (by omega)
 have B4 := B4.keep qk (by omega)
 have S3 := S3.keep qk (fun k hk e => by omega)
 have S6 := S6.keep qk (fun k hk e => by omega)
 have S8 := S8.keep qk (fun k hk e => by omega)
 have Bx := Bx.keep qk (by omega)
 have By := By.keep qk (by omega)
 have q := q.step qk (fun k hk e => by omega)
 have B11 := B11.keep qk (by omega)
 have Bu := Bu.keep qk (by omega)
 have Bv := Bv.keep qk (by omega)
 refine go TK_ok 200 rfl ?_
 repeat ((first | refine ldA TK_ok rfl rfl rfl rfl rfl (Bk.all B11) ?_ | refine ldA TK_ok rfl rfl rfl rfl rfl (Bk.all B13) ?_ | refine ld TK_ok rfl rfl rfl rfl (Bk.get B11 rfl) ?_ | refine ld TK_ok rfl rfl rfl rfl (Bk.get B13 rfl) ?_ | refine gT rfl rfl rfl rfl ?_ | refine gF rfl rfl rfl rfl ?_ | refine condT rfl rfl ?_ | refine condF rfl rfl ?_); refine go TK_ok 200 rfl ?_)
 have HX : ScM w w.heap.size ⟨⟨some ⟨gx, 0, none⟩, scX.nx, 2⟩, ⟨some ⟨gy, 0, none⟩, scX.al, 2⟩⟩ := ⟨Bx.sl (sz := 2) (m := 2) rfl, By.sl (sz := 2) (m := 2) rfl, by show 2 ≤ _; omega, by show 2 ≤ _; omega⟩
 have HY : ScM w w.heap.size ⟨⟨some ⟨gu, 0, none⟩, scY.nx, scY.nx.length⟩, ⟨some ⟨gv, 0, none⟩, scY.al, scY.nx.length⟩⟩ := ⟨Bu.sl (sz := 2) (m := scY.nx.length) (flat_len nV_len _), Bv.sl (sz := 2) (m := scY.al.length) (flat_len bV_len _), by show scY.nx.length ≤ _; omega, by show scY.al.length ≤ _; rw [k_yn.2]; omega⟩
 have X := Differ_any _ _ _ _ HX HY
 rw [show scP ⟨⟨some ⟨gx, 0, none⟩, scX.nx, 2⟩, ⟨some ⟨gy, 0, none⟩, scX.al, 2⟩⟩ = scX from rfl, show scP ⟨⟨some ⟨gu, 0, none⟩, scY.nx, scY.nx.length⟩, ⟨some ⟨gv, 0, none⟩, scY.al, scY.nx.length⟩⟩ = scY from rfl] at X
 rw [show scL ⟨⟨some ⟨gx, 0, none⟩, scX.nx, 2⟩, ⟨some ⟨gy, 0, none⟩, scX.al, 2⟩⟩ = [.slice (some ⟨gx, 0, none⟩) 2 2, .slice (some ⟨gy, 0, none⟩) 2 2] from rfl, show scL ⟨⟨some ⟨gu, 0, none⟩, scY.nx, scY.nx.length⟩, ⟨some ⟨gv, 0, none⟩, scY.al, scY.nx.length⟩⟩ = [.slice (some ⟨gu, 0, none⟩) scY.nx.length scY.nx.length, .slice (some ⟨gv, 0, none⟩) scY.al.length scY.nx.length] from rfl] at X
 refine call rfl rfl rfl (ok _ (by decide) rfl) X ?_
 rintro x w2 ⟨qk, hR⟩
 have hR : ∃ A c, x = .tuple #[.slice A 3 c, I 0] ∧ w2.ownsRow w.heap.size 4 1 (.slice A 3 c) 3 (bL [true, false, true]) := by
  rcases hR with ⟨h, _⟩ | ⟨_, h, _⟩ | ⟨_, cs, A, c, h, rfl, ho⟩
  ·exact absurd ⟨⟨sx_ok, by decide⟩, sy_ok, by decide +kernel⟩ h
  ·rw [k_d] at h; cases h
  ·rw [k_d] at h
   injection h with h
   subst h
   exact ⟨A, c, rfl, ho⟩
 obtain ⟨A15, c15, rfl, S15⟩ := hR
 have S15 := own_sl S15
 have HX := HX.no qk
 have B1 := B1.no qk
 have S3 := S3.no qk
 have B4 := B4.no qk
 have S6 := S6.no qk
 have S8 := S8.no qk
 have B11 := B11.no qk
 have q := q.trans qk
 refine go TK_ok 200 rfl ?_
 repeat ((first | refine ldA TK_ok rfl rfl rfl rfl rfl (Bk.all B1) ?_ | refine ldA TK_ok rfl rfl rfl rfl rfl (Bk.all B4) ?_ | refine ldA TK_ok rfl rfl rfl rfl rfl (Bk.all B11) ?_ | refine ld TK_ok rfl rfl rfl rfl (Bk.get B1 rfl) ?_ | refine ld TK_ok rfl rfl rfl rfl (Bk.get B4 rfl) ?_ | refine ld TK_ok rfl rfl rfl rfl (Bk.get B11 rfl) ?_ | refine gT rfl rfl rfl rfl ?_ | refine gF rfl rfl rfl rfl ?_ | refine condT rfl rfl ?_ | refine condF rfl rfl ?_); refine go TK_ok 200 rfl ?_)
 refine eqS (l' := [7, 16]) (m := [7, 16]) rfl rfl (by kernel_rfl) rfl rfl rfl ?_
 rw [show (([7, 16] : List Int) == [7, 16]) = true from rfl]
 refine go TK_ok 200 rfl ?_
 repeat ((first | refine ldA TK_ok rfl rfl rfl rfl rfl (Bk.all B1) ?_ | refine ldA TK_ok rfl rfl rfl rfl rfl (Bk.all B4) ?_ | refine ldA TK_ok rfl rfl rfl rfl rfl (Bk.all B11) ?_ | refine ld TK_ok rfl rfl rfl rfl (Bk.get B1 rfl) ?_ | refine ld TK_ok rfl rfl rfl rfl (Bk.get B4 rfl) ?_ | refine ld TK_ok rfl rfl rfl rfl (Bk.get B11 rfl) ?_ | refine gT rfl rfl rfl rfl ?_ | refine gF rfl rfl rfl rfl ?_ | refine condT rfl rfl ?_ | refine condF rfl rfl ?_); refine go TK_ok 200 rfl ?_)
 refine row TK_ok rfl rfl rfl rfl rfl rfl (cs := [I 0, I 1]) rfl ?_
 intro ga w hga hsa qk Ba _
 have B1 := B1.no qk
 have S3 := S3.no qk
 have B4 := B4.no qk
 have S6 := S6.no qk
 have S8 := S8.no qk
 have B11 := B11.no qk
 have S15 := S15.no qk
 have HX := HX.no qk
 have q := q.trans qk
 refine go TK_ok 200 rfl ?_
 refine call rfl rfl rfl (ok _ (by decide) rfl) (Q.Same_any [0, 1] [0, 1] A3 (some ⟨ga, 0, none⟩) c3 2 _ _ _ S3 (Ba.sl (sz := 1) (m := 2) rfl) (by decide)) ?_
 rintro x w ⟨rfl, qk⟩
 have B1 := B1.no qk
 have S3 := S3.no qk
 have B4 := B4.no qk
 have S6 := S6.no qk
 have S8 := S8.no qk
 have B11 := B11.no qk
 have S15 := S15.no qk
 have HX := HX.no qk
 have q := q.trans qk
 rw [show (([0, 1] : List Int) == [0, 1]) = true from rfl]
 refine go TK_ok 200 rfl ?_
 repeat ((first | refine ldA TK_ok rfl rfl rfl rfl rfl (Bk.all B1) ?_ | refine ldA TK_ok rfl rfl rfl rfl rfl (Bk.all B4) ?_ | refine ldA TK_ok rfl rfl rfl rfl rfl (Bk.all B11) ?_ | refine ld TK_ok rfl rfl rfl rfl (Bk.get B1 rfl) ?_ | refine ld TK_ok rfl rfl rfl rfl (Bk.get B4 rfl) ?_ | refine ld TK_ok rfl rfl rfl rfl (Bk.get B11 rfl) ?_ | refine gT rfl rfl rfl rfl ?_ | refine gF rfl rfl rfl rfl ?_ | refine condT rfl rfl ?_ | refine condF rfl rfl ?_); refine go TK_ok 200 rfl ?_)
 refine eqS (l' := [10, 16]) (m := [10, 16]) rfl rfl (by kernel_rfl) rfl rfl rfl ?_
 rw [show (([10, 16] : List Int) == [10, 16]) = true from rfl]
 refine go TK_ok 200 rfl ?_
 repeat ((first | refine ldA TK_ok rfl rfl rfl rfl rfl (Bk.all B1) ?_ | refine ldA TK_ok rfl rfl rfl rfl rfl (Bk.all B4) ?_ | refine ldA TK_ok rfl rfl rfl rfl rfl (Bk.all B11) ?_ | refine ld TK_ok rfl rfl rfl rfl (Bk.get B1 rfl) ?_ | refine ld TK_ok rfl rfl rfl rfl (Bk.get B4 rfl) ?_ | refine ld TK_ok rfl rfl rfl rfl (Bk.get B11 rfl) ?_ | refine gT rfl rfl rfl rfl ?_ | refine gF rfl rfl rfl rfl ?_ | refine condT rfl rfl ?_ | refine condF rfl rfl ?_); refine go TK_ok 200 rfl ?_)
 refine row TK_ok rfl rfl rfl rfl rfl rfl (cs := bL [true, false, true]) rfl ?_
 intro gb w hgb hsb qk Bb _
 have B1 := B1.no qk
 have S3 := S3.no qk
 have B4 := B4.no qk
 have S6 := S6.no qk
 have S8 := S8.no qk
 have B11 := B11.no qk
 have S15 := S15.no qk
 have HX := HX.no qk
 have q := q.trans qk
 refine go TK_ok 200 rfl ?_
 refine call rfl rfl rfl (ok _ (by decide) rfl) (SameCells_any [true, false, true] [true, false, true] A6 (some ⟨gb, 0, none⟩) c6 3 _ _ _ S6 (Bb.sl (sz := 1) (m := 3) rfl) (by decide)) ?_
 rintro x w ⟨rfl, qk⟩
 have B1 := B1.no qk
 have S3 := S3.no qk
 have B4 := B4.no qk
 have S6 := S6.no qk
 have S8 := S8.no qk
 have B11 := B11.no qk
 have S15 := S15.no qk
 have HX := HX.no qk
 have q := q.trans qk
 rw [show (([true, false, true] : List Bool) == [true, false, true]) = true from rfl]
 refine go TK_ok 200 rfl ?_
 repeat ((first | refine ldA TK_ok rfl rfl rfl rfl rfl (Bk.all B1) ?_ | refine ldA TK_ok rfl rfl rfl rfl rfl (Bk.all B4) ?_ | refine ldA TK_ok rfl rfl rfl rfl rfl (Bk.all B11) ?_ | refine ld TK_ok rfl rfl rfl rfl (Bk.get B1 rfl) ?_ | refine ld TK_ok rfl rfl rfl rfl (Bk.get B4 rfl) ?_ | refine ld TK_ok rfl rfl rfl rfl (Bk.get B11 rfl) ?_ | refine gT rfl rfl rfl rfl ?_ | refine gF rfl rfl rfl rfl ?_ | refine condT rfl rfl ?_ | refine condF rfl rfl ?_); refine go TK_ok 200 rfl ?_)
 refine row TK_ok rfl rfl rfl rfl rfl rfl (cs := [I 0, I 1]) rfl ?_
 intro gd w hgd hsd qk Bd _
 have B1 := B1.no qk
 have S3 := S3.no qk
 have B4 := B4.no qk
 have S6 := S6.no qk
 have S8 := S8.no qk
 have B11 := B11.no qk
 have S15 := S15.no qk
 have HX := HX.no qk
 have q := q.trans qk
 refine go TK_ok 200 rfl ?_
 refine call rfl rfl rfl (ok _ (by decide) rfl) (Q.Same_any [0, 1] [0, 1] A8 (some ⟨gd, 0, none⟩) c8 2 _ _ _ S8 (Bd.sl (sz := 1) (m := 2) rfl) (by decide)) ?_
 rintro x w ⟨rfl, qk⟩
 have B1 := B1.no qk
 have S3 := S3.no qk
 have B4 := B4.no qk
 have S6 := S6.no qk
 have S8 := S8.no qk
 have B11 := B11.no qk
 have S15 := S15.no qk
 have HX := HX.no qk
 have q := q.trans qk
 rw [show (([0, 1] : List Int) == [0, 1]) = true from rfl]
 refine go TK_ok 200 rfl ?_
 repeat ((first | refine ldA TK_ok rfl rfl rfl rfl rfl (Bk.all B11) ?_ | refine ld TK_ok rfl rfl rfl rfl (Bk.get B11 rfl) ?_ | refine gT rfl rfl rfl rfl ?_ | refine gF rfl rfl rfl rfl ?_ | refine condT rfl rfl ?_ | refine condF rfl rfl ?_); refine go TK_ok 200 rfl ?_)
 refine bldA TK_ok rfl rfl rfl (z := .agg #[I 0, I 0]) (by kernel_rfl) (cs := [I 0, I 1]) rfl ?_
 refine go TK_ok 200 rfl ?_
 refine bldA TK_ok rfl rfl rfl (z := .agg #[I 0, I 0]) (by kernel_rfl) (cs := [I 0, I 1]) rfl ?_
 refine go TK_ok 200 rfl ?_
 refine row TK_ok rfl rfl rfl rfl rfl rfl (cs := scX.nx.flatMap nV) rfl ?_
 intro ge w hge hse qk Be _
 have B11 := B11.no qk
 have S15 := S15.no qk
 have HX := HX.no qk
 have q := q.trans qk
 refine go TK_ok 200 rfl ?_
 refine bldA TK_ok rfl rfl rfl (z := .agg #[.bool false, .bool false]) (by kernel_rfl) (cs := [.bool false, .bool false]) rfl ?_
 refine go TK_ok 200 rfl ?_
 refine bldA TK_ok rfl rfl rfl (z := .agg #[.bool false, .bool false]) (by kernel_rfl) (cs := [.bool false, .bool true]) rfl ?_
 refine go TK_ok 200 rfl ?_
 refine row TK_ok rfl rfl rfl rfl rfl rfl (cs := scX.al.flatMap bV) rfl ?_
 intro gf w hgf hsf qk Bf _
 have B11 := B11.no qk
 have S15 := S15.no qk
 have HX := HX.no qk
 have Be := Be.no qk
 have q := q.trans qk
 have HE : ScM w w.heap.size ⟨⟨some ⟨ge, 0, none⟩, scX.nx, 2⟩, ⟨some ⟨gf, 0, none⟩, scX.al, 2⟩⟩ := ⟨Be.sl (sz := 2) (m := 2) rfl, Bf.sl (sz := 2) (m := 2) rfl, by show 2 ≤ _; omega, by show 2 ≤ _; omega⟩
 refine go TK_ok 200 rfl ?_
 have X := SameScanner_any _ _ _ _ _ HX HE (by show 2 ≤ 1000000; omega) (by show 2 ≤ 1000000; omega)
 have hE : scP ⟨⟨some ⟨gx, 0, none⟩, scX.nx, 2⟩, ⟨some ⟨gy, 0, none⟩, scX.al, 2⟩⟩ = scP ⟨⟨some ⟨ge, 0, none⟩, scX.nx, 2⟩, ⟨some ⟨gf, 0, none⟩, scX.al, 2⟩⟩ := rfl
 rw [decide_eq_true hE, show scL ⟨⟨some ⟨gx, 0, none⟩, scX.nx, 2⟩, ⟨some ⟨gy, 0, none⟩, scX.al, 2⟩⟩ = [.slice (some ⟨gx, 0, none⟩) 2 2, .slice (some ⟨gy, 0, none⟩) 2 2] from rfl, show scL ⟨⟨some ⟨ge, 0, none⟩, scX.nx, 2⟩, ⟨some ⟨gf, 0, none⟩, scX.al, 2⟩⟩ = [.slice (some ⟨ge, 0, none⟩) 2 2, .slice (some ⟨gf, 0, none⟩) 2 2] from rfl] at X
 refine call rfl rfl rfl (ok _ (by decide) rfl) (X) ?_
 rintro x w ⟨rfl, qk⟩
 have S15 := S15.no qk
 have q := q.trans qk
 refine go TK_ok 200 rfl ?_
 repeat ((first | refine gT rfl rfl rfl rfl ?_ | refine gF rfl rfl rfl rfl ?_ | refine condT rfl rfl ?_ | refine condF rfl rfl ?_); refine go TK_ok 200 rfl ?_)
 refine row TK_ok rfl rfl rfl rfl rfl rfl (cs := bL [true, false, true]) rfl ?_
 intro gh w hgh hsh qk Bh _
 have S15 := S15.no qk
 have q := q.trans qk
 refine go TK_ok 200 rfl ?_
 refine call rfl rfl rfl (ok _ (by decide) rfl) (SameCells_any [true, false, true] [true, false, true] A15 (some ⟨gh, 0, none⟩) c15 3 _ _ _ S15 (Bh.sl (sz := 1) (m := 3) rfl) (by decide)) ?_
 rintro x w ⟨rfl, qk⟩
 have S15 := S15.no qk
 have q := q.trans qk
 rw [show (([true, false, true] : List Bool) == [true, false, true]) = true from rfl]
 refine go TK_ok 200 rfl ?_
 repeat ((first | refine gT rfl rfl rfl rfl ?_ | refine gF rfl rfl rfl rfl ?_ | refine condT rfl rfl ?_ | refine condF rfl rfl ?_); refine go TK_ok 200 rfl ?_)
 exact ret (ret1 (v := .bool true) Try.results20 rfl ⟨rfl, q⟩)
end Go.Proofs.Yteenhfnamjbaiaa
