/- The walk of TopChamber. -/
import Derived.Test.YtolhfimknimliaaCF
import Derived.Test.YtolhfimknimliaaS2
namespace Go.Proofs.Ytolhfimknimliaa
open Go.Ev Go.Proofs Go.Top Go.Cnt
open Go.Proofs.Ytolhfimknimliaa.Q (decS sts outN wtI wtw sumN decS_bd decS_cases listed_wrong wrong_small wtw_eq pow_40 wrongW chamber outN_len decE decB wtI_bd boolVs sumN_mono sumN_nonneg)
attribute [local irreducible] At AtH
theorem SkM_of {w : World} {bins : Sli (Sli Rw)} {Q : Rw → Prop} (h : SliOk w 1 slL (SliOk w 3 rwL Q) bins) : SkM w bins := by
  have hm : maxLen = 9223372036854775807 := by decide
  exact ⟨by have := h.ml; omega, h.2.2.1, fun s hs => ⟨by have := (h.2.2.2 s hs).ml; omega, (h.2.2.2 s hs).2.2.1⟩⟩
/-- between two rates, so many percent of the way -/
theorem mid_bd {a b pc : Int} (h0 : 0 ≤ a) (h1 : a ≤ b) (h2 : b ≤ 1000000) (p0 : 0 ≤ pc) (p1 : pc ≤ 100) : 0 ≤ (b - a) * pc ∧ (b - a) * pc ≤ 100000000 ∧ a ≤ a + (b - a) * pc / 100 ∧ a + (b - a) * pc / 100 ≤ b := by
  have e0 : 0 ≤ (b - a) * pc := Int.mul_nonneg (by omega) p0
  have e1 : (b - a) * pc ≤ (b - a) * 100 := Int.mul_le_mul_of_nonneg_left p1 (by omega)
  omega
set_option maxRecDepth 20000 in
set_option maxHeartbeats 8000000 in
theorem walk_TopChamber0 (p : Int) (bins : Sli (Sli Rw)) (be al : Int × Int) (t : Sli Rw) (bn o less lv s pc : Int) (w0 : World) (H : SkM w0 bins) (St : Sl w0 w0.heap.size 3 t.A t.l.length (t.l.flatMap rwL)) (ht : t.l.length ≤ 9223372036854775807) :
    Ret Try.prog 3 [.agg (skL p bins be al).toArray, .slice t.A t.l.length t.c, I bn, I o, I less, I lv, I s, I pc] w0 fun v w' => v = .bool true ∧ Chg No w0 w' := by
  have hlen := H.len
  refine enter Try.func3 rfl Try.ntmps3 rfl ?_
  refine go T3_ok 200 rfl ?_
  refine bx rfl rfl rfl (cs := skL p bins be al) rfl ?_
  intro g8 u8 hg8 hs8 q8 B8
  have q := q8
  refine go T3_ok 200 rfl ?_
  repeat (first | (refine ldA T3_ok rfl rfl rfl rfl rfl (Bk.all B8) ?_; refine go T3_ok 200 rfl ?_) | (refine ld T3_ok rfl rfl rfl rfl (Bk.get B8 rfl) ?_; refine go T3_ok 200 rfl ?_) | (refine guardA (b := true) rfl rfl rfl rfl (fun _ => ?_) (fun e => by cases e); refine go T3_ok 200 rfl ?_) | (refine guardA (b := false) rfl rfl rfl rfl (fun e => by cases e) (fun _ => ?_); refine go T3_ok 200 rfl ?_) | (refine condT rfl rfl ?_; refine go T3_ok 200 rfl ?_) | (refine condF rfl rfl ?_; refine go T3_ok 200 rfl ?_))
  refine guardD rfl rfl rfl (fun p1 => ?_) (fun z1 => ?_)
  · skip
    refine go T3_ok 200 rfl ?_
    repeat (first | (refine ldA T3_ok rfl rfl rfl rfl rfl (Bk.all B8) ?_; refine go T3_ok 200 rfl ?_) | (refine ld T3_ok rfl rfl rfl rfl (Bk.get B8 rfl) ?_; refine go T3_ok 200 rfl ?_) | (refine guardA (b := true) rfl rfl rfl rfl (fun _ => ?_) (fun e => by cases e); refine go T3_ok 200 rfl ?_) | (refine guardA (b := false) rfl rfl rfl rfl (fun e => by cases e) (fun _ => ?_); refine go T3_ok 200 rfl ?_) | (refine condT rfl rfl ?_; refine go T3_ok 200 rfl ?_) | (refine condF rfl rfl ?_; refine go T3_ok 200 rfl ?_))
    refine call rfl rfl rfl (ok _ (by decide) rfl) (known_any _) ?_
    rintro x w ⟨rfl, qk⟩
    have B8 := B8.no qk
    have q := q.trans qk
    refine go T3_ok 200 rfl ?_
    exact ret (ret1 (v := .bool true) Try.results3 rfl ⟨rfl, q⟩)
  refine go T3_ok 200 rfl ?_
  repeat (first | (refine ldA T3_ok rfl rfl rfl rfl rfl (Bk.all B8) ?_; refine go T3_ok 200 rfl ?_) | (refine ld T3_ok rfl rfl rfl rfl (Bk.get B8 rfl) ?_; refine go T3_ok 200 rfl ?_) | (refine guardA (b := true) rfl rfl rfl rfl (fun _ => ?_) (fun e => by cases e); refine go T3_ok 200 rfl ?_) | (refine guardA (b := false) rfl rfl rfl rfl (fun e => by cases e) (fun _ => ?_); refine go T3_ok 200 rfl ?_) | (refine condT rfl rfl ?_; refine go T3_ok 200 rfl ?_) | (refine condF rfl rfl ?_; refine go T3_ok 200 rfl ?_))
  refine guardD rfl rfl rfl (fun p1 => ?_) (fun z2 => ?_)
  · skip
    refine go T3_ok 200 rfl ?_
    repeat (first | (refine ldA T3_ok rfl rfl rfl rfl rfl (Bk.all B8) ?_; refine go T3_ok 200 rfl ?_) | (refine ld T3_ok rfl rfl rfl rfl (Bk.get B8 rfl) ?_; refine go T3_ok 200 rfl ?_) | (refine guardA (b := true) rfl rfl rfl rfl (fun _ => ?_) (fun e => by cases e); refine go T3_ok 200 rfl ?_) | (refine guardA (b := false) rfl rfl rfl rfl (fun e => by cases e) (fun _ => ?_); refine go T3_ok 200 rfl ?_) | (refine condT rfl rfl ?_; refine go T3_ok 200 rfl ?_) | (refine condF rfl rfl ?_; refine go T3_ok 200 rfl ?_))
    refine call rfl rfl rfl (ok _ (by decide) rfl) (known_any _) ?_
    rintro x w ⟨rfl, qk⟩
    have B8 := B8.no qk
    have q := q.trans qk
    refine go T3_ok 200 rfl ?_
    exact ret (ret1 (v := .bool true) Try.results3 rfl ⟨rfl, q⟩)
  refine go T3_ok 200 rfl ?_
  repeat (first | (refine ldA T3_ok rfl rfl rfl rfl rfl (Bk.all B8) ?_; refine go T3_ok 200 rfl ?_) | (refine ld T3_ok rfl rfl rfl rfl (Bk.get B8 rfl) ?_; refine go T3_ok 200 rfl ?_) | (refine guardA (b := true) rfl rfl rfl rfl (fun _ => ?_) (fun e => by cases e); refine go T3_ok 200 rfl ?_) | (refine guardA (b := false) rfl rfl rfl rfl (fun e => by cases e) (fun _ => ?_); refine go T3_ok 200 rfl ?_) | (refine condT rfl rfl ?_; refine go T3_ok 200 rfl ?_) | (refine condF rfl rfl ?_; refine go T3_ok 200 rfl ?_))
  refine guardD rfl rfl rfl (fun p1 => ?_) (fun z3 => ?_)
  · skip
    refine go T3_ok 200 rfl ?_
    repeat (first | (refine ldA T3_ok rfl rfl rfl rfl rfl (Bk.all B8) ?_; refine go T3_ok 200 rfl ?_) | (refine ld T3_ok rfl rfl rfl rfl (Bk.get B8 rfl) ?_; refine go T3_ok 200 rfl ?_) | (refine guardA (b := true) rfl rfl rfl rfl (fun _ => ?_) (fun e => by cases e); refine go T3_ok 200 rfl ?_) | (refine guardA (b := false) rfl rfl rfl rfl (fun e => by cases e) (fun _ => ?_); refine go T3_ok 200 rfl ?_) | (refine condT rfl rfl ?_; refine go T3_ok 200 rfl ?_) | (refine condF rfl rfl ?_; refine go T3_ok 200 rfl ?_))
    refine call rfl rfl rfl (ok _ (by decide) rfl) (known_any _) ?_
    rintro x w ⟨rfl, qk⟩
    have B8 := B8.no qk
    have q := q.trans qk
    refine go T3_ok 200 rfl ?_
    exact ret (ret1 (v := .bool true) Try.results3 rfl ⟨rfl, q⟩)
  refine go T3_ok 200 rfl ?_
  repeat (first | (refine ldA T3_ok rfl rfl rfl rfl rfl (Bk.all B8) ?_; refine go T3_ok 200 rfl ?_) | (refine ld T3_ok rfl rfl rfl rfl (Bk.get B8 rfl) ?_; refine go T3_ok 200 rfl ?_) | (refine guardA (b := true) rfl rfl rfl rfl (fun _ => ?_) (fun e => by cases e); refine go T3_ok 200 rfl ?_) | (refine guardA (b := false) rfl rfl rfl rfl (fun e => by cases e) (fun _ => ?_); refine go T3_ok 200 rfl ?_) | (refine condT rfl rfl ?_; refine go T3_ok 200 rfl ?_) | (refine condF rfl rfl ?_; refine go T3_ok 200 rfl ?_))
  refine call rfl rfl rfl (ok _ (by decide) rfl) (rSky_any p bins be al _ (H.no q)) ?_
  rintro x w ⟨⟨b, rfl, hsk⟩, qk⟩
  have B8 := B8.no qk
  have q := q.trans qk
  by_cases hbb : b = true
  case neg =>
    obtain rfl : b = false := by simpa using hbb
    refine go T3_ok 200 rfl ?_
    repeat (first | (refine ldA T3_ok rfl rfl rfl rfl rfl (Bk.all B8) ?_; refine go T3_ok 200 rfl ?_) | (refine ld T3_ok rfl rfl rfl rfl (Bk.get B8 rfl) ?_; refine go T3_ok 200 rfl ?_) | (refine guardA (b := true) rfl rfl rfl rfl (fun _ => ?_) (fun e => by cases e); refine go T3_ok 200 rfl ?_) | (refine guardA (b := false) rfl rfl rfl rfl (fun e => by cases e) (fun _ => ?_); refine go T3_ok 200 rfl ?_) | (refine condT rfl rfl ?_; refine go T3_ok 200 rfl ?_) | (refine condF rfl rfl ?_; refine go T3_ok 200 rfl ?_))
    refine call rfl rfl rfl (ok _ (by decide) rfl) (known_any _) ?_
    rintro x w ⟨rfl, qk⟩
    have B8 := B8.no qk
    have q := q.trans qk
    refine go T3_ok 200 rfl ?_
    exact ret (ret1 (v := .bool true) Try.results3 rfl ⟨rfl, q⟩)
  obtain rfl := hbb
  have hsk := hsk.1 rfl
  refine go T3_ok 200 rfl ?_
  repeat (first | (refine ldA T3_ok rfl rfl rfl rfl rfl (Bk.all B8) ?_; refine go T3_ok 200 rfl ?_) | (refine ld T3_ok rfl rfl rfl rfl (Bk.get B8 rfl) ?_; refine go T3_ok 200 rfl ?_) | (refine guardA (b := true) rfl rfl rfl rfl (fun _ => ?_) (fun e => by cases e); refine go T3_ok 200 rfl ?_) | (refine guardA (b := false) rfl rfl rfl rfl (fun e => by cases e) (fun _ => ?_); refine go T3_ok 200 rfl ?_) | (refine condT rfl rfl ?_; refine go T3_ok 200 rfl ?_) | (refine condF rfl rfl ?_; refine go T3_ok 200 rfl ?_))
  refine call rfl rfl rfl (ok _ (by decide) rfl) (rRanges_any t.l t.A t.c _ _ (St.no q) ht) ?_
  rintro x w ⟨⟨b, rfl, hrg⟩, qk⟩
  have B8 := B8.no qk
  have q := q.trans qk
  by_cases hbb : b = true
  case neg =>
    obtain rfl : b = false := by simpa using hbb
    refine go T3_ok 200 rfl ?_
    repeat (first | (refine ldA T3_ok rfl rfl rfl rfl rfl (Bk.all B8) ?_; refine go T3_ok 200 rfl ?_) | (refine ld T3_ok rfl rfl rfl rfl (Bk.get B8 rfl) ?_; refine go T3_ok 200 rfl ?_) | (refine guardA (b := true) rfl rfl rfl rfl (fun _ => ?_) (fun e => by cases e); refine go T3_ok 200 rfl ?_) | (refine guardA (b := false) rfl rfl rfl rfl (fun e => by cases e) (fun _ => ?_); refine go T3_ok 200 rfl ?_) | (refine condT rfl rfl ?_; refine go T3_ok 200 rfl ?_) | (refine condF rfl rfl ?_; refine go T3_ok 200 rfl ?_))
    refine call rfl rfl rfl (ok _ (by decide) rfl) (known_any _) ?_
    rintro x w ⟨rfl, qk⟩
    have B8 := B8.no qk
    have q := q.trans qk
    refine go T3_ok 200 rfl ?_
    exact ret (ret1 (v := .bool true) Try.results3 rfl ⟨rfl, q⟩)
  obtain rfl := hbb
  have hrg := hrg.1 rfl
  refine go T3_ok 200 rfl ?_
  repeat (first | (refine ldA T3_ok rfl rfl rfl rfl rfl (Bk.all B8) ?_; refine go T3_ok 200 rfl ?_) | (refine ld T3_ok rfl rfl rfl rfl (Bk.get B8 rfl) ?_; refine go T3_ok 200 rfl ?_) | (refine guardA (b := true) rfl rfl rfl rfl (fun _ => ?_) (fun e => by cases e); refine go T3_ok 200 rfl ?_) | (refine guardA (b := false) rfl rfl rfl rfl (fun e => by cases e) (fun _ => ?_); refine go T3_ok 200 rfl ?_) | (refine condT rfl rfl ?_; refine go T3_ok 200 rfl ?_) | (refine condF rfl rfl ?_; refine go T3_ok 200 rfl ?_))
  refine guardD rfl rfl rfl (fun p1 => ?_) (fun z4 => ?_)
  · skip
    refine go T3_ok 200 rfl ?_
    repeat (first | (refine ldA T3_ok rfl rfl rfl rfl rfl (Bk.all B8) ?_; refine go T3_ok 200 rfl ?_) | (refine ld T3_ok rfl rfl rfl rfl (Bk.get B8 rfl) ?_; refine go T3_ok 200 rfl ?_) | (refine guardA (b := true) rfl rfl rfl rfl (fun _ => ?_) (fun e => by cases e); refine go T3_ok 200 rfl ?_) | (refine guardA (b := false) rfl rfl rfl rfl (fun e => by cases e) (fun _ => ?_); refine go T3_ok 200 rfl ?_) | (refine condT rfl rfl ?_; refine go T3_ok 200 rfl ?_) | (refine condF rfl rfl ?_; refine go T3_ok 200 rfl ?_))
    refine call rfl rfl rfl (ok _ (by decide) rfl) (known_any _) ?_
    rintro x w ⟨rfl, qk⟩
    have B8 := B8.no qk
    have q := q.trans qk
    refine go T3_ok 200 rfl ?_
    exact ret (ret1 (v := .bool true) Try.results3 rfl ⟨rfl, q⟩)
  refine go T3_ok 200 rfl ?_
  repeat (first | (refine ldA T3_ok rfl rfl rfl rfl rfl (Bk.all B8) ?_; refine go T3_ok 200 rfl ?_) | (refine ld T3_ok rfl rfl rfl rfl (Bk.get B8 rfl) ?_; refine go T3_ok 200 rfl ?_) | (refine guardA (b := true) rfl rfl rfl rfl (fun _ => ?_) (fun e => by cases e); refine go T3_ok 200 rfl ?_) | (refine guardA (b := false) rfl rfl rfl rfl (fun e => by cases e) (fun _ => ?_); refine go T3_ok 200 rfl ?_) | (refine condT rfl rfl ?_; refine go T3_ok 200 rfl ?_) | (refine condF rfl rfl ?_; refine go T3_ok 200 rfl ?_))
  refine guardD rfl rfl rfl (fun p1 => ?_) (fun z5 => ?_)
  · skip
    refine go T3_ok 200 rfl ?_
    repeat (first | (refine ldA T3_ok rfl rfl rfl rfl rfl (Bk.all B8) ?_; refine go T3_ok 200 rfl ?_) | (refine ld T3_ok rfl rfl rfl rfl (Bk.get B8 rfl) ?_; refine go T3_ok 200 rfl ?_) | (refine guardA (b := true) rfl rfl rfl rfl (fun _ => ?_) (fun e => by cases e); refine go T3_ok 200 rfl ?_) | (refine guardA (b := false) rfl rfl rfl rfl (fun e => by cases e) (fun _ => ?_); refine go T3_ok 200 rfl ?_) | (refine condT rfl rfl ?_; refine go T3_ok 200 rfl ?_) | (refine condF rfl rfl ?_; refine go T3_ok 200 rfl ?_))
    refine call rfl rfl rfl (ok _ (by decide) rfl) (known_any _) ?_
    rintro x w ⟨rfl, qk⟩
    have B8 := B8.no qk
    have q := q.trans qk
    refine go T3_ok 200 rfl ?_
    exact ret (ret1 (v := .bool true) Try.results3 rfl ⟨rfl, q⟩)
  refine go T3_ok 200 rfl ?_
  repeat (first | (refine ldA T3_ok rfl rfl rfl rfl rfl (Bk.all B8) ?_; refine go T3_ok 200 rfl ?_) | (refine ld T3_ok rfl rfl rfl rfl (Bk.get B8 rfl) ?_; refine go T3_ok 200 rfl ?_) | (refine guardA (b := true) rfl rfl rfl rfl (fun _ => ?_) (fun e => by cases e); refine go T3_ok 200 rfl ?_) | (refine guardA (b := false) rfl rfl rfl rfl (fun e => by cases e) (fun _ => ?_); refine go T3_ok 200 rfl ?_) | (refine condT rfl rfl ?_; refine go T3_ok 200 rfl ?_) | (refine condF rfl rfl ?_; refine go T3_ok 200 rfl ?_))
  refine guardD rfl rfl rfl (fun p1 => ?_) (fun z6 => ?_)
  · skip
    refine go T3_ok 200 rfl ?_
    repeat (first | (refine ldA T3_ok rfl rfl rfl rfl rfl (Bk.all B8) ?_; refine go T3_ok 200 rfl ?_) | (refine ld T3_ok rfl rfl rfl rfl (Bk.get B8 rfl) ?_; refine go T3_ok 200 rfl ?_) | (refine guardA (b := true) rfl rfl rfl rfl (fun _ => ?_) (fun e => by cases e); refine go T3_ok 200 rfl ?_) | (refine guardA (b := false) rfl rfl rfl rfl (fun e => by cases e) (fun _ => ?_); refine go T3_ok 200 rfl ?_) | (refine condT rfl rfl ?_; refine go T3_ok 200 rfl ?_) | (refine condF rfl rfl ?_; refine go T3_ok 200 rfl ?_))
    refine call rfl rfl rfl (ok _ (by decide) rfl) (known_any _) ?_
    rintro x w ⟨rfl, qk⟩
    have B8 := B8.no qk
    have q := q.trans qk
    refine go T3_ok 200 rfl ?_
    exact ret (ret1 (v := .bool true) Try.results3 rfl ⟨rfl, q⟩)
  refine go T3_ok 200 rfl ?_
  repeat (first | (refine ldA T3_ok rfl rfl rfl rfl rfl (Bk.all B8) ?_; refine go T3_ok 200 rfl ?_) | (refine ld T3_ok rfl rfl rfl rfl (Bk.get B8 rfl) ?_; refine go T3_ok 200 rfl ?_) | (refine guardA (b := true) rfl rfl rfl rfl (fun _ => ?_) (fun e => by cases e); refine go T3_ok 200 rfl ?_) | (refine guardA (b := false) rfl rfl rfl rfl (fun e => by cases e) (fun _ => ?_); refine go T3_ok 200 rfl ?_) | (refine condT rfl rfl ?_; refine go T3_ok 200 rfl ?_) | (refine condF rfl rfl ?_; refine go T3_ok 200 rfl ?_))
  refine guardD rfl rfl rfl (fun p1 => ?_) (fun z7 => ?_)
  · skip
    refine go T3_ok 200 rfl ?_
    repeat (first | (refine ldA T3_ok rfl rfl rfl rfl rfl (Bk.all B8) ?_; refine go T3_ok 200 rfl ?_) | (refine ld T3_ok rfl rfl rfl rfl (Bk.get B8 rfl) ?_; refine go T3_ok 200 rfl ?_) | (refine guardA (b := true) rfl rfl rfl rfl (fun _ => ?_) (fun e => by cases e); refine go T3_ok 200 rfl ?_) | (refine guardA (b := false) rfl rfl rfl rfl (fun e => by cases e) (fun _ => ?_); refine go T3_ok 200 rfl ?_) | (refine condT rfl rfl ?_; refine go T3_ok 200 rfl ?_) | (refine condF rfl rfl ?_; refine go T3_ok 200 rfl ?_))
    refine call rfl rfl rfl (ok _ (by decide) rfl) (known_any _) ?_
    rintro x w ⟨rfl, qk⟩
    have B8 := B8.no qk
    have q := q.trans qk
    refine go T3_ok 200 rfl ?_
    exact ret (ret1 (v := .bool true) Try.results3 rfl ⟨rfl, q⟩)
  refine go T3_ok 200 rfl ?_
  repeat (first | (refine ldA T3_ok rfl rfl rfl rfl rfl (Bk.all B8) ?_; refine go T3_ok 200 rfl ?_) | (refine ld T3_ok rfl rfl rfl rfl (Bk.get B8 rfl) ?_; refine go T3_ok 200 rfl ?_) | (refine guardA (b := true) rfl rfl rfl rfl (fun _ => ?_) (fun e => by cases e); refine go T3_ok 200 rfl ?_) | (refine guardA (b := false) rfl rfl rfl rfl (fun e => by cases e) (fun _ => ?_); refine go T3_ok 200 rfl ?_) | (refine condT rfl rfl ?_; refine go T3_ok 200 rfl ?_) | (refine condF rfl rfl ?_; refine go T3_ok 200 rfl ?_))
  refine guardD rfl rfl rfl (fun p1 => ?_) (fun z8 => ?_)
  · skip
    refine go T3_ok 200 rfl ?_
    repeat (first | (refine ldA T3_ok rfl rfl rfl rfl rfl (Bk.all B8) ?_; refine go T3_ok 200 rfl ?_) | (refine ld T3_ok rfl rfl rfl rfl (Bk.get B8 rfl) ?_; refine go T3_ok 200 rfl ?_) | (refine guardA (b := true) rfl rfl rfl rfl (fun _ => ?_) (fun e => by cases e); refine go T3_ok 200 rfl ?_) | (refine guardA (b := false) rfl rfl rfl rfl (fun e => by cases e) (fun _ => ?_); refine go T3_ok 200 rfl ?_) | (refine condT rfl rfl ?_; refine go T3_ok 200 rfl ?_) | (refine condF rfl rfl ?_; refine go T3_ok 200 rfl ?_))
    refine call rfl rfl rfl (ok _ (by decide) rfl) (known_any _) ?_
    rintro x w ⟨rfl, qk⟩
    have B8 := B8.no qk
    have q := q.trans qk
    refine go T3_ok 200 rfl ?_
    exact ret (ret1 (v := .bool true) Try.results3 rfl ⟨rfl, q⟩)
  refine go T3_ok 200 rfl ?_
  repeat (first | (refine ldA T3_ok rfl rfl rfl rfl rfl (Bk.all B8) ?_; refine go T3_ok 200 rfl ?_) | (refine ld T3_ok rfl rfl rfl rfl (Bk.get B8 rfl) ?_; refine go T3_ok 200 rfl ?_) | (refine guardA (b := true) rfl rfl rfl rfl (fun _ => ?_) (fun e => by cases e); refine go T3_ok 200 rfl ?_) | (refine guardA (b := false) rfl rfl rfl rfl (fun e => by cases e) (fun _ => ?_); refine go T3_ok 200 rfl ?_) | (refine condT rfl rfl ?_; refine go T3_ok 200 rfl ?_) | (refine condF rfl rfl ?_; refine go T3_ok 200 rfl ?_))
  refine guardD rfl rfl rfl (fun p1 => ?_) (fun z9 => ?_)
  · skip
    refine go T3_ok 200 rfl ?_
    repeat (first | (refine ldA T3_ok rfl rfl rfl rfl rfl (Bk.all B8) ?_; refine go T3_ok 200 rfl ?_) | (refine ld T3_ok rfl rfl rfl rfl (Bk.get B8 rfl) ?_; refine go T3_ok 200 rfl ?_) | (refine guardA (b := true) rfl rfl rfl rfl (fun _ => ?_) (fun e => by cases e); refine go T3_ok 200 rfl ?_) | (refine guardA (b := false) rfl rfl rfl rfl (fun e => by cases e) (fun _ => ?_); refine go T3_ok 200 rfl ?_) | (refine condT rfl rfl ?_; refine go T3_ok 200 rfl ?_) | (refine condF rfl rfl ?_; refine go T3_ok 200 rfl ?_))
    refine call rfl rfl rfl (ok _ (by decide) rfl) (known_any _) ?_
    rintro x w ⟨rfl, qk⟩
    have B8 := B8.no qk
    have q := q.trans qk
    refine go T3_ok 200 rfl ?_
    exact ret (ret1 (v := .bool true) Try.results3 rfl ⟨rfl, q⟩)
  refine go T3_ok 200 rfl ?_
  repeat (first | (refine ldA T3_ok rfl rfl rfl rfl rfl (Bk.all B8) ?_; refine go T3_ok 200 rfl ?_) | (refine ld T3_ok rfl rfl rfl rfl (Bk.get B8 rfl) ?_; refine go T3_ok 200 rfl ?_) | (refine guardA (b := true) rfl rfl rfl rfl (fun _ => ?_) (fun e => by cases e); refine go T3_ok 200 rfl ?_) | (refine guardA (b := false) rfl rfl rfl rfl (fun e => by cases e) (fun _ => ?_); refine go T3_ok 200 rfl ?_) | (refine condT rfl rfl ?_; refine go T3_ok 200 rfl ?_) | (refine condF rfl rfl ?_; refine go T3_ok 200 rfl ?_))
  refine guardD rfl rfl rfl (fun p1 => ?_) (fun z10 => ?_)
  · skip
    refine go T3_ok 200 rfl ?_
    repeat (first | (refine ldA T3_ok rfl rfl rfl rfl rfl (Bk.all B8) ?_; refine go T3_ok 200 rfl ?_) | (refine ld T3_ok rfl rfl rfl rfl (Bk.get B8 rfl) ?_; refine go T3_ok 200 rfl ?_) | (refine guardA (b := true) rfl rfl rfl rfl (fun _ => ?_) (fun e => by cases e); refine go T3_ok 200 rfl ?_) | (refine guardA (b := false) rfl rfl rfl rfl (fun e => by cases e) (fun _ => ?_); refine go T3_ok 200 rfl ?_) | (refine condT rfl rfl ?_; refine go T3_ok 200 rfl ?_) | (refine condF rfl rfl ?_; refine go T3_ok 200 rfl ?_))
    refine call rfl rfl rfl (ok _ (by decide) rfl) (known_any _) ?_
    rintro x w ⟨rfl, qk⟩
    have B8 := B8.no qk
    have q := q.trans qk
    refine go T3_ok 200 rfl ?_
    exact ret (ret1 (v := .bool true) Try.results3 rfl ⟨rfl, q⟩)
  refine go T3_ok 200 rfl ?_
  repeat (first | (refine ldA T3_ok rfl rfl rfl rfl rfl (Bk.all B8) ?_; refine go T3_ok 200 rfl ?_) | (refine ld T3_ok rfl rfl rfl rfl (Bk.get B8 rfl) ?_; refine go T3_ok 200 rfl ?_) | (refine guardA (b := true) rfl rfl rfl rfl (fun _ => ?_) (fun e => by cases e); refine go T3_ok 200 rfl ?_) | (refine guardA (b := false) rfl rfl rfl rfl (fun e => by cases e) (fun _ => ?_); refine go T3_ok 200 rfl ?_) | (refine condT rfl rfl ?_; refine go T3_ok 200 rfl ?_) | (refine condF rfl rfl ?_; refine go T3_ok 200 rfl ?_))
  refine guardD rfl rfl rfl (fun p1 => ?_) (fun z11 => ?_)
  · skip
    refine go T3_ok 200 rfl ?_
    repeat (first | (refine ldA T3_ok rfl rfl rfl rfl rfl (Bk.all B8) ?_; refine go T3_ok 200 rfl ?_) | (refine ld T3_ok rfl rfl rfl rfl (Bk.get B8 rfl) ?_; refine go T3_ok 200 rfl ?_) | (refine guardA (b := true) rfl rfl rfl rfl (fun _ => ?_) (fun e => by cases e); refine go T3_ok 200 rfl ?_) | (refine guardA (b := false) rfl rfl rfl rfl (fun e => by cases e) (fun _ => ?_); refine go T3_ok 200 rfl ?_) | (refine condT rfl rfl ?_; refine go T3_ok 200 rfl ?_) | (refine condF rfl rfl ?_; refine go T3_ok 200 rfl ?_))
    refine call rfl rfl rfl (ok _ (by decide) rfl) (known_any _) ?_
    rintro x w ⟨rfl, qk⟩
    have B8 := B8.no qk
    have q := q.trans qk
    refine go T3_ok 200 rfl ?_
    exact ret (ret1 (v := .bool true) Try.results3 rfl ⟨rfl, q⟩)
  refine go T3_ok 200 rfl ?_
  repeat (first | (refine ldA T3_ok rfl rfl rfl rfl rfl (Bk.all B8) ?_; refine go T3_ok 200 rfl ?_) | (refine ld T3_ok rfl rfl rfl rfl (Bk.get B8 rfl) ?_; refine go T3_ok 200 rfl ?_) | (refine guardA (b := true) rfl rfl rfl rfl (fun _ => ?_) (fun e => by cases e); refine go T3_ok 200 rfl ?_) | (refine guardA (b := false) rfl rfl rfl rfl (fun e => by cases e) (fun _ => ?_); refine go T3_ok 200 rfl ?_) | (refine condT rfl rfl ?_; refine go T3_ok 200 rfl ?_) | (refine condF rfl rfl ?_; refine go T3_ok 200 rfl ?_))
  refine guardD rfl rfl rfl (fun p1 => ?_) (fun z12 => ?_)
  · skip
    refine go T3_ok 200 rfl ?_
    repeat (first | (refine ldA T3_ok rfl rfl rfl rfl rfl (Bk.all B8) ?_; refine go T3_ok 200 rfl ?_) | (refine ld T3_ok rfl rfl rfl rfl (Bk.get B8 rfl) ?_; refine go T3_ok 200 rfl ?_) | (refine guardA (b := true) rfl rfl rfl rfl (fun _ => ?_) (fun e => by cases e); refine go T3_ok 200 rfl ?_) | (refine guardA (b := false) rfl rfl rfl rfl (fun e => by cases e) (fun _ => ?_); refine go T3_ok 200 rfl ?_) | (refine condT rfl rfl ?_; refine go T3_ok 200 rfl ?_) | (refine condF rfl rfl ?_; refine go T3_ok 200 rfl ?_))
    refine call rfl rfl rfl (ok _ (by decide) rfl) (known_any _) ?_
    rintro x w ⟨rfl, qk⟩
    have B8 := B8.no qk
    have q := q.trans qk
    refine go T3_ok 200 rfl ?_
    exact ret (ret1 (v := .bool true) Try.results3 rfl ⟨rfl, q⟩)
  refine go T3_ok 200 rfl ?_
  repeat (first | (refine ldA T3_ok rfl rfl rfl rfl rfl (Bk.all B8) ?_; refine go T3_ok 200 rfl ?_) | (refine ld T3_ok rfl rfl rfl rfl (Bk.get B8 rfl) ?_; refine go T3_ok 200 rfl ?_) | (refine guardA (b := true) rfl rfl rfl rfl (fun _ => ?_) (fun e => by cases e); refine go T3_ok 200 rfl ?_) | (refine guardA (b := false) rfl rfl rfl rfl (fun e => by cases e) (fun _ => ?_); refine go T3_ok 200 rfl ?_) | (refine condT rfl rfl ?_; refine go T3_ok 200 rfl ?_) | (refine condF rfl rfl ?_; refine go T3_ok 200 rfl ?_))
  refine guardD rfl rfl rfl (fun p1 => ?_) (fun z13 => ?_)
  · skip
    refine go T3_ok 200 rfl ?_
    repeat (first | (refine ldA T3_ok rfl rfl rfl rfl rfl (Bk.all B8) ?_; refine go T3_ok 200 rfl ?_) | (refine ld T3_ok rfl rfl rfl rfl (Bk.get B8 rfl) ?_; refine go T3_ok 200 rfl ?_) | (refine guardA (b := true) rfl rfl rfl rfl (fun _ => ?_) (fun e => by cases e); refine go T3_ok 200 rfl ?_) | (refine guardA (b := false) rfl rfl rfl rfl (fun e => by cases e) (fun _ => ?_); refine go T3_ok 200 rfl ?_) | (refine condT rfl rfl ?_; refine go T3_ok 200 rfl ?_) | (refine condF rfl rfl ?_; refine go T3_ok 200 rfl ?_))
    refine call rfl rfl rfl (ok _ (by decide) rfl) (known_any _) ?_
    rintro x w ⟨rfl, qk⟩
    have B8 := B8.no qk
    have q := q.trans qk
    refine go T3_ok 200 rfl ?_
    exact ret (ret1 (v := .bool true) Try.results3 rfl ⟨rfl, q⟩)
  refine go T3_ok 200 rfl ?_
  repeat (first | (refine ldA T3_ok rfl rfl rfl rfl rfl (Bk.all B8) ?_; refine go T3_ok 200 rfl ?_) | (refine ld T3_ok rfl rfl rfl rfl (Bk.get B8 rfl) ?_; refine go T3_ok 200 rfl ?_) | (refine guardA (b := true) rfl rfl rfl rfl (fun _ => ?_) (fun e => by cases e); refine go T3_ok 200 rfl ?_) | (refine guardA (b := false) rfl rfl rfl rfl (fun e => by cases e) (fun _ => ?_); refine go T3_ok 200 rfl ?_) | (refine condT rfl rfl ?_; refine go T3_ok 200 rfl ?_) | (refine condF rfl rfl ?_; refine go T3_ok 200 rfl ?_))
  refine guardD rfl rfl rfl (fun p1 => ?_) (fun z14 => ?_)
  · skip
    refine go T3_ok 200 rfl ?_
    repeat (first | (refine ldA T3_ok rfl rfl rfl rfl rfl (Bk.all B8) ?_; refine go T3_ok 200 rfl ?_) | (refine ld T3_ok rfl rfl rfl rfl (Bk.get B8 rfl) ?_; refine go T3_ok 200 rfl ?_) | (refine guardA (b := true) rfl rfl rfl rfl (fun _ => ?_) (fun e => by cases e); refine go T3_ok 200 rfl ?_) | (refine guardA (b := false) rfl rfl rfl rfl (fun e => by cases e) (fun _ => ?_); refine go T3_ok 200 rfl ?_) | (refine condT rfl rfl ?_; refine go T3_ok 200 rfl ?_) | (refine condF rfl rfl ?_; refine go T3_ok 200 rfl ?_))
    refine call rfl rfl rfl (ok _ (by decide) rfl) (known_any _) ?_
    rintro x w ⟨rfl, qk⟩
    have B8 := B8.no qk
    have q := q.trans qk
    refine go T3_ok 200 rfl ?_
    exact ret (ret1 (v := .bool true) Try.results3 rfl ⟨rfl, q⟩)
  refine go T3_ok 200 rfl ?_
  repeat (first | (refine ldA T3_ok rfl rfl rfl rfl rfl (Bk.all B8) ?_; refine go T3_ok 200 rfl ?_) | (refine ld T3_ok rfl rfl rfl rfl (Bk.get B8 rfl) ?_; refine go T3_ok 200 rfl ?_) | (refine guardA (b := true) rfl rfl rfl rfl (fun _ => ?_) (fun e => by cases e); refine go T3_ok 200 rfl ?_) | (refine guardA (b := false) rfl rfl rfl rfl (fun e => by cases e) (fun _ => ?_); refine go T3_ok 200 rfl ?_) | (refine condT rfl rfl ?_; refine go T3_ok 200 rfl ?_) | (refine condF rfl rfl ?_; refine go T3_ok 200 rfl ?_))
  refine condD rfl (fun p1 => ?_) (fun z15 => ?_)
  · skip
    refine go T3_ok 200 rfl ?_
    repeat (first | (refine ldA T3_ok rfl rfl rfl rfl rfl (Bk.all B8) ?_; refine go T3_ok 200 rfl ?_) | (refine ld T3_ok rfl rfl rfl rfl (Bk.get B8 rfl) ?_; refine go T3_ok 200 rfl ?_) | (refine guardA (b := true) rfl rfl rfl rfl (fun _ => ?_) (fun e => by cases e); refine go T3_ok 200 rfl ?_) | (refine guardA (b := false) rfl rfl rfl rfl (fun e => by cases e) (fun _ => ?_); refine go T3_ok 200 rfl ?_) | (refine condT rfl rfl ?_; refine go T3_ok 200 rfl ?_) | (refine condF rfl rfl ?_; refine go T3_ok 200 rfl ?_))
    refine call rfl rfl rfl (ok _ (by decide) rfl) (known_any _) ?_
    rintro x w ⟨rfl, qk⟩
    have B8 := B8.no qk
    have q := q.trans qk
    refine go T3_ok 200 rfl ?_
    exact ret (ret1 (v := .bool true) Try.results3 rfl ⟨rfl, q⟩)
  obtain ⟨bn, rfl⟩ : ∃ k : Nat, bn = k := ⟨bn.toNat, by omega⟩
  obtain ⟨sb, hsb⟩ := getS_of (l := bins.l) (i := bn) (by omega)
  obtain ⟨hbo, a0, ha0, hk0⟩ := hsk.2.2.2.2 sb (List.mem_of_getElem? hsb)
  have h1 : ∀ r, sb.l[0]? = some r → r.k = 1 := fun r hr => by rw [ha0] at hr; cases hr; exact hk0
  have es := expd_ok hbo h1 hrg (o := o) (by omega)
  have eh := expd_ok hbo h1 hrg (o := o - less) (by omega)
  have el := expd_le hbo hrg (o := o) (o' := o - less) (by omega) (by omega)
  have q00 := q
  refine go T3_ok 200 rfl ?_
  repeat (first | (refine ldA T3_ok rfl rfl rfl rfl rfl (Bk.all B8) ?_; refine go T3_ok 200 rfl ?_) | (refine ld T3_ok rfl rfl rfl rfl (Bk.get B8 rfl) ?_; refine go T3_ok 200 rfl ?_) | (refine guardA (b := true) rfl rfl rfl rfl (fun _ => ?_) (fun e => by cases e); refine go T3_ok 200 rfl ?_) | (refine guardA (b := false) rfl rfl rfl rfl (fun e => by cases e) (fun _ => ?_); refine go T3_ok 200 rfl ?_) | (refine condT rfl rfl ?_; refine go T3_ok 200 rfl ?_) | (refine condF rfl rfl ?_; refine go T3_ok 200 rfl ?_))
  have X1 := Expected_any p bins be al t bn o sb _ (H.no q) ((St.no q).more q.size (Nat.le_refl _)) hsk hrg hsb (by omega)
  refine call rfl rfl rfl (ok _ (by decide) rfl) (X1) ?_
  rintro x w ⟨rfl, qk⟩
  have B8 := B8.no qk
  have q := q.trans qk
  generalize expd sb.l t.l o = so at es el
  generalize hho : expd sb.l t.l (o - less) = ho at eh el
  obtain ⟨sl, sh⟩ := so
  obtain ⟨ll, lh⟩ := ho
  simp only at es eh el
  refine go T3_ok 200 rfl ?_
  refine nw rfl rfl (z := .agg #[I 0, I 0]) (by kernel_rfl) (cs := [I 0, I 0]) rfl ?_
  intro g17 w hg17 hs17 qk B17
  have hq17 := q.size
  have l8 := B8.lt
  have B8 := B8.no qk
  have q := q.trans qk
  refine go T3_ok 200 rfl ?_
  refine stA T3_ok rfl rfl rfl rfl (vs := [I sl, I sh]) rfl rfl rfl B17 rfl ?_
  intro w qk B17 hz
  have B17 : Bk w g17 24 [I sl, I sh] := B17
  have B8 := B8.keep qk (by omega)
  have q := q.step qk (fun k hk e => by omega)
  refine go T3_ok 200 rfl ?_
  repeat (first | (refine ldA T3_ok rfl rfl rfl rfl rfl (Bk.all B8) ?_; refine go T3_ok 200 rfl ?_) | (refine ldA T3_ok rfl rfl rfl rfl rfl (Bk.all B17) ?_; refine go T3_ok 200 rfl ?_) | (refine ld T3_ok rfl rfl rfl rfl (Bk.get B8 rfl) ?_; refine go T3_ok 200 rfl ?_) | (refine ld T3_ok rfl rfl rfl rfl (Bk.get B17 rfl) ?_; refine go T3_ok 200 rfl ?_) | (refine guardA (b := true) rfl rfl rfl rfl (fun _ => ?_) (fun e => by cases e); refine go T3_ok 200 rfl ?_) | (refine guardA (b := false) rfl rfl rfl rfl (fun e => by cases e) (fun _ => ?_); refine go T3_ok 200 rfl ?_) | (refine condT rfl rfl ?_; refine go T3_ok 200 rfl ?_) | (refine condF rfl rfl ?_; refine go T3_ok 200 rfl ?_))
  rw [w64_id (x := o - less) (by omega) (by omega)]
  have X2 := Expected_any p bins be al t bn (o - less) sb _ (H.no q) ((St.no q).more q.size (Nat.le_refl _)) hsk hrg hsb (by omega)
  rw [hho] at X2
  refine call rfl rfl rfl (ok _ (by decide) rfl) (X2) ?_
  rintro x w ⟨rfl, qk⟩
  have B8 := B8.no qk
  have B17 := B17.no qk
  have q := q.trans qk
  refine go T3_ok 200 rfl ?_
  refine nw rfl rfl (z := .agg #[I 0, I 0]) (by kernel_rfl) (cs := [I 0, I 0]) rfl ?_
  intro g19 w hg19 hs19 qk B19
  have hq19 := q.size
  have l8 := B8.lt
  have l17 := B17.lt
  have B8 := B8.no qk
  have B17 := B17.no qk
  have q := q.trans qk
  refine go T3_ok 200 rfl ?_
  refine stA T3_ok rfl rfl rfl rfl (vs := [I ll, I lh]) rfl rfl rfl B19 rfl ?_
  intro w qk B19 hz2
  have B19 : Bk w g19 24 [I ll, I lh] := B19
  have B8 := B8.keep qk (by omega)
  have B17 := B17.keep qk (by omega)
  have q := q.step qk (fun k hk e => by omega)
  refine go T3_ok 200 rfl ?_
  repeat (first | (refine ldA T3_ok rfl rfl rfl rfl rfl (Bk.all B8) ?_; refine go T3_ok 200 rfl ?_) | (refine ldA T3_ok rfl rfl rfl rfl rfl (Bk.all B17) ?_; refine go T3_ok 200 rfl ?_) | (refine ldA T3_ok rfl rfl rfl rfl rfl (Bk.all B19) ?_; refine go T3_ok 200 rfl ?_) | (refine ld T3_ok rfl rfl rfl rfl (Bk.get B8 rfl) ?_; refine go T3_ok 200 rfl ?_) | (refine ld T3_ok rfl rfl rfl rfl (Bk.get B17 rfl) ?_; refine go T3_ok 200 rfl ?_) | (refine ld T3_ok rfl rfl rfl rfl (Bk.get B19 rfl) ?_; refine go T3_ok 200 rfl ?_) | (refine guardA (b := true) rfl rfl rfl rfl (fun _ => ?_) (fun e => by cases e); refine go T3_ok 200 rfl ?_) | (refine guardA (b := false) rfl rfl rfl rfl (fun e => by cases e) (fun _ => ?_); refine go T3_ok 200 rfl ?_) | (refine condT rfl rfl ?_; refine go T3_ok 200 rfl ?_) | (refine condF rfl rfl ?_; refine go T3_ok 200 rfl ?_))
  refine guardD rfl rfl rfl (fun p1 => ?_) (fun _ => ?_)
  · exfalso; omega
  refine go T3_ok 200 rfl ?_
  repeat (first | (refine ldA T3_ok rfl rfl rfl rfl rfl (Bk.all B8) ?_; refine go T3_ok 200 rfl ?_) | (refine ldA T3_ok rfl rfl rfl rfl rfl (Bk.all B17) ?_; refine go T3_ok 200 rfl ?_) | (refine ldA T3_ok rfl rfl rfl rfl rfl (Bk.all B19) ?_; refine go T3_ok 200 rfl ?_) | (refine ld T3_ok rfl rfl rfl rfl (Bk.get B8 rfl) ?_; refine go T3_ok 200 rfl ?_) | (refine ld T3_ok rfl rfl rfl rfl (Bk.get B17 rfl) ?_; refine go T3_ok 200 rfl ?_) | (refine ld T3_ok rfl rfl rfl rfl (Bk.get B19 rfl) ?_; refine go T3_ok 200 rfl ?_) | (refine guardA (b := true) rfl rfl rfl rfl (fun _ => ?_) (fun e => by cases e); refine go T3_ok 200 rfl ?_) | (refine guardA (b := false) rfl rfl rfl rfl (fun e => by cases e) (fun _ => ?_); refine go T3_ok 200 rfl ?_) | (refine condT rfl rfl ?_; refine go T3_ok 200 rfl ?_) | (refine condF rfl rfl ?_; refine go T3_ok 200 rfl ?_))
  refine guardD rfl rfl rfl (fun p1 => ?_) (fun _ => ?_)
  · exfalso; omega
  refine go T3_ok 200 rfl ?_
  repeat (first | (refine ldA T3_ok rfl rfl rfl rfl rfl (Bk.all B8) ?_; refine go T3_ok 200 rfl ?_) | (refine ldA T3_ok rfl rfl rfl rfl rfl (Bk.all B17) ?_; refine go T3_ok 200 rfl ?_) | (refine ldA T3_ok rfl rfl rfl rfl rfl (Bk.all B19) ?_; refine go T3_ok 200 rfl ?_) | (refine ld T3_ok rfl rfl rfl rfl (Bk.get B8 rfl) ?_; refine go T3_ok 200 rfl ?_) | (refine ld T3_ok rfl rfl rfl rfl (Bk.get B17 rfl) ?_; refine go T3_ok 200 rfl ?_) | (refine ld T3_ok rfl rfl rfl rfl (Bk.get B19 rfl) ?_; refine go T3_ok 200 rfl ?_) | (refine guardA (b := true) rfl rfl rfl rfl (fun _ => ?_) (fun e => by cases e); refine go T3_ok 200 rfl ?_) | (refine guardA (b := false) rfl rfl rfl rfl (fun e => by cases e) (fun _ => ?_); refine go T3_ok 200 rfl ?_) | (refine condT rfl rfl ?_; refine go T3_ok 200 rfl ?_) | (refine condF rfl rfl ?_; refine go T3_ok 200 rfl ?_))
  refine guardD rfl rfl rfl (fun p1 => ?_) (fun _ => ?_)
  · exfalso; omega
  refine go T3_ok 200 rfl ?_
  repeat (first | (refine ldA T3_ok rfl rfl rfl rfl rfl (Bk.all B8) ?_; refine go T3_ok 200 rfl ?_) | (refine ldA T3_ok rfl rfl rfl rfl rfl (Bk.all B17) ?_; refine go T3_ok 200 rfl ?_) | (refine ldA T3_ok rfl rfl rfl rfl rfl (Bk.all B19) ?_; refine go T3_ok 200 rfl ?_) | (refine ld T3_ok rfl rfl rfl rfl (Bk.get B8 rfl) ?_; refine go T3_ok 200 rfl ?_) | (refine ld T3_ok rfl rfl rfl rfl (Bk.get B17 rfl) ?_; refine go T3_ok 200 rfl ?_) | (refine ld T3_ok rfl rfl rfl rfl (Bk.get B19 rfl) ?_; refine go T3_ok 200 rfl ?_) | (refine guardA (b := true) rfl rfl rfl rfl (fun _ => ?_) (fun e => by cases e); refine go T3_ok 200 rfl ?_) | (refine guardA (b := false) rfl rfl rfl rfl (fun e => by cases e) (fun _ => ?_); refine go T3_ok 200 rfl ?_) | (refine condT rfl rfl ?_; refine go T3_ok 200 rfl ?_) | (refine condF rfl rfl ?_; refine go T3_ok 200 rfl ?_))
  refine condD rfl (fun p1 => ?_) (fun _ => ?_)
  · exfalso; omega
  refine go T3_ok 200 rfl ?_
  repeat (first | (refine ldA T3_ok rfl rfl rfl rfl rfl (Bk.all B8) ?_; refine go T3_ok 200 rfl ?_) | (refine ldA T3_ok rfl rfl rfl rfl rfl (Bk.all B17) ?_; refine go T3_ok 200 rfl ?_) | (refine ldA T3_ok rfl rfl rfl rfl rfl (Bk.all B19) ?_; refine go T3_ok 200 rfl ?_) | (refine ld T3_ok rfl rfl rfl rfl (Bk.get B8 rfl) ?_; refine go T3_ok 200 rfl ?_) | (refine ld T3_ok rfl rfl rfl rfl (Bk.get B17 rfl) ?_; refine go T3_ok 200 rfl ?_) | (refine ld T3_ok rfl rfl rfl rfl (Bk.get B19 rfl) ?_; refine go T3_ok 200 rfl ?_) | (refine guardA (b := true) rfl rfl rfl rfl (fun _ => ?_) (fun e => by cases e); refine go T3_ok 200 rfl ?_) | (refine guardA (b := false) rfl rfl rfl rfl (fun e => by cases e) (fun _ => ?_); refine go T3_ok 200 rfl ?_) | (refine condT rfl rfl ?_; refine go T3_ok 200 rfl ?_) | (refine condF rfl rfl ?_; refine go T3_ok 200 rfl ?_))
  refine condD rfl (fun p1 => ?_) (fun hsep => ?_)
  · skip
    refine go T3_ok 200 rfl ?_
    repeat (first | (refine ldA T3_ok rfl rfl rfl rfl rfl (Bk.all B8) ?_; refine go T3_ok 200 rfl ?_) | (refine ldA T3_ok rfl rfl rfl rfl rfl (Bk.all B17) ?_; refine go T3_ok 200 rfl ?_) | (refine ldA T3_ok rfl rfl rfl rfl rfl (Bk.all B19) ?_; refine go T3_ok 200 rfl ?_) | (refine ld T3_ok rfl rfl rfl rfl (Bk.get B8 rfl) ?_; refine go T3_ok 200 rfl ?_) | (refine ld T3_ok rfl rfl rfl rfl (Bk.get B17 rfl) ?_; refine go T3_ok 200 rfl ?_) | (refine ld T3_ok rfl rfl rfl rfl (Bk.get B19 rfl) ?_; refine go T3_ok 200 rfl ?_) | (refine guardA (b := true) rfl rfl rfl rfl (fun _ => ?_) (fun e => by cases e); refine go T3_ok 200 rfl ?_) | (refine guardA (b := false) rfl rfl rfl rfl (fun e => by cases e) (fun _ => ?_); refine go T3_ok 200 rfl ?_) | (refine condT rfl rfl ?_; refine go T3_ok 200 rfl ?_) | (refine condF rfl rfl ?_; refine go T3_ok 200 rfl ?_))
    refine call rfl rfl rfl (ok _ (by decide) rfl) (known_any _) ?_
    rintro x w ⟨rfl, qk⟩
    have B8 := B8.no qk
    have B17 := B17.no qk
    have B19 := B19.no qk
    have q := q.trans qk
    refine go T3_ok 200 rfl ?_
    exact ret (ret1 (v := .bool true) Try.results3 rfl ⟨rfl, q⟩)
  have hd2 := hsk.1
  obtain ⟨d, rfl⟩ : ∃ d : Nat, p = d := ⟨p.toNat, by omega⟩
  obtain ⟨n, rfl⟩ : ∃ n : Nat, s = n := ⟨s.toNat, by omega⟩
  have m1 := mid_bd (a := sl) (b := sh) (pc := pc) (by omega) (by omega) (by omega) (by omega) (by omega)
  have m2 := mid_bd (a := ll) (b := lh) (pc := pc) (by omega) (by omega) (by omega) (by omega) (by omega)
  refine go T3_ok 200 rfl ?_
  refine draw mixed (fun w' => Chg No w w') ([0,1,2,3,4,5,6,7,8,9,10,11,12,13,14,15,16,17,18,19,20,21,22,23].map (fun i => (i, true))) rfl (by kernel_rfl) (Chg.drew _) ?_
  refine goH T3_ok 200 rfl ?_
  repeat (first | (refine quietH rfl (fun w' hS => r_load T3_ok rfl rfl rfl (Bk.get (B17.no hS) rfl)) ?_; refine goH T3_ok 200 rfl ?_) | (refine quietH rfl (fun w' hS => r_load T3_ok rfl rfl rfl (Bk.get (B19.no hS) rfl)) ?_; refine goH T3_ok 200 rfl ?_))
  rw [w64_id (x := sh - sl) (by omega) (by omega), w64_id (x := (sh - sl) * pc) (by omega) (by omega)]
  refine quietH rfl (fun w' hS => r_quoN rfl rfl rfl (by omega) (by omega) (by decide)) ?_
  refine goH T3_ok 200 rfl ?_
  repeat (first | (refine quietH rfl (fun w' hS => r_load T3_ok rfl rfl rfl (Bk.get (B17.no hS) rfl)) ?_; refine goH T3_ok 200 rfl ?_) | (refine quietH rfl (fun w' hS => r_load T3_ok rfl rfl rfl (Bk.get (B19.no hS) rfl)) ?_; refine goH T3_ok 200 rfl ?_))
  rw [w64_id (x := lh - ll) (by omega) (by omega), w64_id (x := (lh - ll) * pc) (by omega) (by omega)]
  refine quietH rfl (fun w' hS => r_quoN rfl rfl rfl (by omega) (by omega) (by decide)) ?_
  refine goH T3_ok 200 rfl ?_
  repeat (first | (refine quietH rfl (fun w' hS => r_load T3_ok rfl rfl rfl (Bk.get (B17.no hS) rfl)) ?_; refine goH T3_ok 200 rfl ?_) | (refine quietH rfl (fun w' hS => r_load T3_ok rfl rfl rfl (Bk.get (B19.no hS) rfl)) ?_; refine goH T3_ok 200 rfl ?_))
  rw [w64_id (x := sl + (sh - sl) * pc / 100) (by omega) (by omega), w64_id (x := ll + (lh - ll) * pc / 100) (by omega) (by omega)]
  obtain ⟨kL, hkL⟩ : ∃ k : Nat, sl + (sh - sl) * pc / 100 = k := ⟨(sl + (sh - sl) * pc / 100).toNat, by omega⟩
  obtain ⟨kH, hkH⟩ : ∃ k : Nat, ll + (lh - ll) * pc / 100 = k := ⟨(ll + (lh - ll) * pc / 100).toNat, by omega⟩
  rw [hkL, hkH] 
  obtain ⟨sh, rfl⟩ : ∃ k : Nat, sh = k := ⟨sh.toNat, by omega⟩
  obtain ⟨ll, rfl⟩ : ∃ k : Nat, ll = k := ⟨ll.toNat, by omega⟩
  refine endH ?_
  have qk := Chg.drew w
  have B8 := B8.no qk
  have B17 := B17.no qk
  have B19 := B19.no qk
  have q := q.trans qk
  generalize w.drew = w at q B8 B17 B19 ⊢
  have hd40 : ∀ i : Nat, i ≤ 9 → (d : Int) ^ i ≤ 262144000000000 := fun i hi => pow_40 (by omega) hi
  have hp0 : ∀ i : Nat, 0 ≤ (d : Int) ^ i := fun i => Int.pow_nonneg (by omega)
  refine go T3_ok 200 rfl ?_
  refine loop [5, 6, 8, 17, 19, 21, 22, 23, 24, 25, 26] (fun i : Nat => [I lv, I n, .pointer (some ⟨g8, 0, none⟩), .pointer (some ⟨g17, 0, none⟩), .pointer (some ⟨g19, 0, none⟩), I kL, I kH, I 0, I 0, I ((d : Int) ^ i), I i])
    (fun i w' => w = w' ∧ i ≤ n) (fun i => n - i) 0 (fun _ => rfl) rfl ⟨rfl, by omega⟩ ?_
  rintro i τ w' ⟨rfl, hi'⟩
  refine go T3_ok 200 rfl ?_
  repeat (first | (refine ldA T3_ok rfl rfl rfl rfl rfl (Bk.all B8) ?_; refine go T3_ok 200 rfl ?_) | (refine ldA T3_ok rfl rfl rfl rfl rfl (Bk.all B17) ?_; refine go T3_ok 200 rfl ?_) | (refine ldA T3_ok rfl rfl rfl rfl rfl (Bk.all B19) ?_; refine go T3_ok 200 rfl ?_) | (refine ld T3_ok rfl rfl rfl rfl (Bk.get B8 rfl) ?_; refine go T3_ok 200 rfl ?_) | (refine ld T3_ok rfl rfl rfl rfl (Bk.get B17 rfl) ?_; refine go T3_ok 200 rfl ?_) | (refine ld T3_ok rfl rfl rfl rfl (Bk.get B19 rfl) ?_; refine go T3_ok 200 rfl ?_) | (refine guardA (b := true) rfl rfl rfl rfl (fun _ => ?_) (fun e => by cases e); refine go T3_ok 200 rfl ?_) | (refine guardA (b := false) rfl rfl rfl rfl (fun e => by cases e) (fun _ => ?_); refine go T3_ok 200 rfl ?_) | (refine condT rfl rfl ?_; refine go T3_ok 200 rfl ?_) | (refine condF rfl rfl ?_; refine go T3_ok 200 rfl ?_))
  refine condD rfl (fun hlt => ?_) (fun hlt => ?_)
  · have hlt : i < n := by omega
    have e1 : w64 ((d : Int) ^ i * d) = (d : Int) ^ (i + 1) := by rw [show (d : Int) ^ i * d = (d : Int) ^ (i + 1) from (Int.pow_succ _ _).symm]; exact w64_id (by have := hp0 (i + 1); omega) (by have := hd40 (i + 1) (by omega); omega)
    have ei : w64 ((i : Int) + 1) = ((i + 1 : Nat) : Int) := w64_id (by omega) (by omega)
    refine go T3_ok 200 rfl ?_
    repeat (first | (refine ldA T3_ok rfl rfl rfl rfl rfl (Bk.all B8) ?_; refine go T3_ok 200 rfl ?_) | (refine ldA T3_ok rfl rfl rfl rfl rfl (Bk.all B17) ?_; refine go T3_ok 200 rfl ?_) | (refine ldA T3_ok rfl rfl rfl rfl rfl (Bk.all B19) ?_; refine go T3_ok 200 rfl ?_) | (refine ld T3_ok rfl rfl rfl rfl (Bk.get B8 rfl) ?_; refine go T3_ok 200 rfl ?_) | (refine ld T3_ok rfl rfl rfl rfl (Bk.get B17 rfl) ?_; refine go T3_ok 200 rfl ?_) | (refine ld T3_ok rfl rfl rfl rfl (Bk.get B19 rfl) ?_; refine go T3_ok 200 rfl ?_) | (refine guardA (b := true) rfl rfl rfl rfl (fun _ => ?_) (fun e => by cases e); refine go T3_ok 200 rfl ?_) | (refine guardA (b := false) rfl rfl rfl rfl (fun e => by cases e) (fun _ => ?_); refine go T3_ok 200 rfl ?_) | (refine condT rfl rfl ?_; refine go T3_ok 200 rfl ?_) | (refine condF rfl rfl ?_; refine go T3_ok 200 rfl ?_))
    rw [e1, ei]
    exact round ⟨i + 1, rfl, ⟨rfl, by omega⟩, by omega⟩
  have hin : i = n := by omega
  subst hin
  obtain ⟨N, hN⟩ : ∃ N, 2 ^ i = N := ⟨_, rfl⟩
  have hN9 : 2 ^ i ≤ 2 ^ 9 := Nat.pow_le_pow_right (by omega) (by omega)
  have hp' : ((2 : Int) ^ i) = (N : Int) := by rw [← hN]; simp
  have cL := chamber (D := d) (lv := lv) (by omega) (lo := sh) (hi := ll) i kL (by omega) 3 (.inl ⟨rfl, by omega⟩)
  have cH := chamber (D := d) (lv := lv) (by omega) (lo := sh) (hi := ll) i kH (by omega) 2 (.inr ⟨rfl, by omega⟩)
  rw [hN] at cL cH
  have gL0 : ∀ b, wrongW d lv sh ll 3 kL i b = if (decS (sts d lv (outN i b)) d sh ll).1 = 3 then wtI d kL (outN i b) else 0 := fun _ => rfl
  have gH0 : ∀ b, wrongW d lv sh ll 2 kH i b = if (decS (sts d lv (outN i b)) d sh ll).1 = 2 then wtI d kH (outN i b) else 0 := fun _ => rfl
  generalize wrongW d lv sh ll 3 kL i = gL at cL gL0
  generalize wrongW d lv sh ll 2 kH i = gH at cH gH0
  have nnL : ∀ b, 0 ≤ gL b := fun b => by
    rw [gL0]; split
    · exact (wtI_bd (by omega) (by omega) _).1
    · exact Int.le_refl _
  have nnH : ∀ b, 0 ≤ gH b := fun b => by
    rw [gH0]; split
    · exact (wtI_bd (by omega) (by omega) _).1
    · exact Int.le_refl _
  have hle : ∀ g : Nat → Int, (∀ b, 0 ≤ g b) → lv * sumN g N ≤ (d : Int) ^ i → ∀ b, b ≤ N → 0 ≤ sumN g b ∧ sumN g b ≤ (d : Int) ^ i := fun g hg0 hsum b hb => by
    have h1 := sumN_mono hg0 hb
    have h2 := sumN_nonneg hg0 b
    have h3 := sumN_nonneg hg0 N
    have h4 : 1 * sumN g N ≤ lv * sumN g N := Int.mul_le_mul_of_nonneg_right (by omega) h3
    omega
  have hall := hd40 i (by omega)
  have hall0 := hp0 i
  refine go T3_ok 200 rfl ?_
  refine loop [5, 6, 8, 17, 19, 21, 22, 23, 24, 25, 27] (fun b : Nat => [I lv, I i, .pointer (some ⟨g8, 0, none⟩), .pointer (some ⟨g17, 0, none⟩), .pointer (some ⟨g19, 0, none⟩), I kL, I kH, I (sumN gL b), I (sumN gH b), I ((d : Int) ^ i), I b])
    (fun b w' => Chg No w0 w' ∧ Bk w' g8 26 (skL d bins be al) ∧ Bk w' g17 24 [I sl, I sh] ∧ Bk w' g19 24 [I ll, I lh] ∧ b ≤ N) (fun b => N - b) 0 (fun _ => rfl) rfl ⟨q, B8, B17, B19, by omega⟩ ?_
  rintro b τ w1 ⟨q, B8, B17, B19, hb⟩
  refine go T3_ok 200 rfl ?_
  refine shl rfl rfl rfl rfl i rfl (by omega) ?_
  have ep : w64 (1 * 2 ^ i) = (N : Int) := by rw [Int.one_mul, hp']; exact w64_id (by omega) (by omega)
  rw [ep]
  refine go T3_ok 200 rfl ?_
  refine condD rfl (fun hlt => ?_) (fun hlt => ?_)
  · have hlt : b < N := by omega
    have eb : w64 ((b : Int) + 1) = ((b + 1 : Nat) : Int) := w64_id (by omega) (by omega)
    refine go T3_ok 200 rfl ?_
    refine call rfl rfl rfl (ok _ (by decide) rfl) (Q.Outcome_any i b w1 (by omega) (by omega)) ?_
    rintro v w2 ⟨A2, c2, rfl, qk, o2⟩
    have B8 := B8.no qk
    have B17 := B17.no qk
    have B19 := B19.no qk
    have q := q.trans qk
    refine go T3_ok 200 rfl ?_
    repeat (first | (refine ldA T3_ok rfl rfl rfl rfl rfl (Bk.all B8) ?_; refine go T3_ok 200 rfl ?_) | (refine ldA T3_ok rfl rfl rfl rfl rfl (Bk.all B17) ?_; refine go T3_ok 200 rfl ?_) | (refine ldA T3_ok rfl rfl rfl rfl rfl (Bk.all B19) ?_; refine go T3_ok 200 rfl ?_) | (refine ld T3_ok rfl rfl rfl rfl (Bk.get B8 rfl) ?_; refine go T3_ok 200 rfl ?_) | (refine ld T3_ok rfl rfl rfl rfl (Bk.get B17 rfl) ?_; refine go T3_ok 200 rfl ?_) | (refine ld T3_ok rfl rfl rfl rfl (Bk.get B19 rfl) ?_; refine go T3_ok 200 rfl ?_) | (refine guardA (b := true) rfl rfl rfl rfl (fun _ => ?_) (fun e => by cases e); refine go T3_ok 200 rfl ?_) | (refine guardA (b := false) rfl rfl rfl rfl (fun e => by cases e) (fun _ => ?_); refine go T3_ok 200 rfl ?_) | (refine condT rfl rfl ?_; refine go T3_ok 200 rfl ?_) | (refine condF rfl rfl ?_; refine go T3_ok 200 rfl ?_))
    have hlen := outN_len i b
    have S2 : Sl w2 w2.heap.size 1 A2 (outN i b).length (boolVs (outN i b)) := by rw [hlen]; exact own_sl o2
    have hdd : inB (d : Int) 2 1000 = true := (inB_iff _ _ _).2 (by omega)
    have hE : decE (outN i b).length d lv sh ll = 0 := by unfold decE decB; rw [listed_wrong, wrong_small (by omega) (by omega) (by omega), (inB_iff lv 2 900000).2 (by omega), (inB_iff (sh : Int) 0 ((ll : Int) - 1)).2 (by omega), decide_eq_true (show (ll : Int) ≤ d by omega)]; rfl
    have K := Q.Decide_any (outN i b) d lv sh ll A2 c2 _ w2 S2 (by omega)
    rw [hE, if_pos rfl, if_pos rfl, Int.toNat_natCast, Int.toNat_natCast, Int.toNat_natCast, hlen] at K
    refine call rfl rfl rfl (ok _ (by decide) rfl) (K) ?_
    rintro v w3 ⟨qk, rfl⟩
    have B8 := B8.no qk
    have B17 := B17.no qk
    have B19 := B19.no qk
    have q := q.trans qk
    have S3 := S2.no qk
    have bL := hle gL nnL cL (b + 1) (by omega)
    have bH := hle gH nnH cH (b + 1) (by omega)
    refine go T3_ok 200 rfl ?_
    repeat (first | (refine ldA T3_ok rfl rfl rfl rfl rfl (Bk.all B8) ?_; refine go T3_ok 200 rfl ?_) | (refine ldA T3_ok rfl rfl rfl rfl rfl (Bk.all B17) ?_; refine go T3_ok 200 rfl ?_) | (refine ldA T3_ok rfl rfl rfl rfl rfl (Bk.all B19) ?_; refine go T3_ok 200 rfl ?_) | (refine ld T3_ok rfl rfl rfl rfl (Bk.get B8 rfl) ?_; refine go T3_ok 200 rfl ?_) | (refine ld T3_ok rfl rfl rfl rfl (Bk.get B17 rfl) ?_; refine go T3_ok 200 rfl ?_) | (refine ld T3_ok rfl rfl rfl rfl (Bk.get B19 rfl) ?_; refine go T3_ok 200 rfl ?_) | (refine guardA (b := true) rfl rfl rfl rfl (fun _ => ?_) (fun e => by cases e); refine go T3_ok 200 rfl ?_) | (refine guardA (b := false) rfl rfl rfl rfl (fun e => by cases e) (fun _ => ?_); refine go T3_ok 200 rfl ?_) | (refine condT rfl rfl ?_; refine go T3_ok 200 rfl ?_) | (refine condF rfl rfl ?_; refine go T3_ok 200 rfl ?_))
    rcases decS_cases (sts d lv (outN i b)) d sh ll with hv | hv | hv
    · skip
      have sn1 : sumN gL (b + 1) = sumN gL b + (if (decS (sts d lv (outN i b)) d sh ll).1 = 3 then wtI d kL (outN i b) else 0) := by rw [← gL0]; rfl
      have sn2 : sumN gH (b + 1) = sumN gH b + (if (decS (sts d lv (outN i b)) d sh ll).1 = 2 then wtI d kH (outN i b) else 0) := by rw [← gH0]; rfl
      rw [hv] at sn1 sn2
      rw [hv]
      refine go T3_ok 200 rfl ?_
      repeat (first | (refine ldA T3_ok rfl rfl rfl rfl rfl (Bk.all B8) ?_; refine go T3_ok 200 rfl ?_) | (refine ldA T3_ok rfl rfl rfl rfl rfl (Bk.all B17) ?_; refine go T3_ok 200 rfl ?_) | (refine ldA T3_ok rfl rfl rfl rfl rfl (Bk.all B19) ?_; refine go T3_ok 200 rfl ?_) | (refine ld T3_ok rfl rfl rfl rfl (Bk.get B8 rfl) ?_; refine go T3_ok 200 rfl ?_) | (refine ld T3_ok rfl rfl rfl rfl (Bk.get B17 rfl) ?_; refine go T3_ok 200 rfl ?_) | (refine ld T3_ok rfl rfl rfl rfl (Bk.get B19 rfl) ?_; refine go T3_ok 200 rfl ?_) | (refine guardA (b := true) rfl rfl rfl rfl (fun _ => ?_) (fun e => by cases e); refine go T3_ok 200 rfl ?_) | (refine guardA (b := false) rfl rfl rfl rfl (fun e => by cases e) (fun _ => ?_); refine go T3_ok 200 rfl ?_) | (refine condT rfl rfl ?_; refine go T3_ok 200 rfl ?_) | (refine condF rfl rfl ?_; refine go T3_ok 200 rfl ?_))
      have sn1 : sumN gL (b + 1) = sumN gL b := by rw [sn1]; simp
      have sn2 : sumN gH (b + 1) = sumN gH b := by rw [sn2]; simp
      rw [eb, ← sn1, ← sn2]
      exact round ⟨b + 1, rfl, ⟨q, B8, B17, B19, by omega⟩, by omega⟩
    · skip
      have sn1 : sumN gL (b + 1) = sumN gL b + (if (decS (sts d lv (outN i b)) d sh ll).1 = 3 then wtI d kL (outN i b) else 0) := by rw [← gL0]; rfl
      have sn2 : sumN gH (b + 1) = sumN gH b + (if (decS (sts d lv (outN i b)) d sh ll).1 = 2 then wtI d kH (outN i b) else 0) := by rw [← gH0]; rfl
      rw [hv] at sn1 sn2
      rw [hv]
      refine go T3_ok 200 rfl ?_
      repeat (first | (refine ldA T3_ok rfl rfl rfl rfl rfl (Bk.all B8) ?_; refine go T3_ok 200 rfl ?_) | (refine ldA T3_ok rfl rfl rfl rfl rfl (Bk.all B17) ?_; refine go T3_ok 200 rfl ?_) | (refine ldA T3_ok rfl rfl rfl rfl rfl (Bk.all B19) ?_; refine go T3_ok 200 rfl ?_) | (refine ld T3_ok rfl rfl rfl rfl (Bk.get B8 rfl) ?_; refine go T3_ok 200 rfl ?_) | (refine ld T3_ok rfl rfl rfl rfl (Bk.get B17 rfl) ?_; refine go T3_ok 200 rfl ?_) | (refine ld T3_ok rfl rfl rfl rfl (Bk.get B19 rfl) ?_; refine go T3_ok 200 rfl ?_) | (refine guardA (b := true) rfl rfl rfl rfl (fun _ => ?_) (fun e => by cases e); refine go T3_ok 200 rfl ?_) | (refine guardA (b := false) rfl rfl rfl rfl (fun e => by cases e) (fun _ => ?_); refine go T3_ok 200 rfl ?_) | (refine condT rfl rfl ?_; refine go T3_ok 200 rfl ?_) | (refine condF rfl rfl ?_; refine go T3_ok 200 rfl ?_))
      have W := Q.rWeight_any (outN i b) d kH A2 c2 _ w3 S3 (by omega)
      rw [hlen] at W
      refine call rfl rfl rfl (ok _ (by decide) rfl) (W) ?_
      rintro v w4 ⟨rfl, rfl⟩
      rw [wtw_eq (by omega) (by omega) (by omega) (outN i b) (by rw [hlen]; omega)]
      refine go T3_ok 200 rfl ?_
      have es : w64 (sumN gH b + wtI d kH (outN i b)) = sumN gH (b + 1) := by
        have sn2 : sumN gH (b + 1) = sumN gH b + wtI d kH (outN i b) := by rw [sn2]; simp
        rw [← sn2]; exact w64_id (by omega) (by omega)
      have sn1 : sumN gL (b + 1) = sumN gL b := by rw [sn1]; simp
      rw [es, eb, ← sn1]
      exact round ⟨b + 1, rfl, ⟨q, B8, B17, B19, by omega⟩, by omega⟩
    · skip
      have sn1 : sumN gL (b + 1) = sumN gL b + (if (decS (sts d lv (outN i b)) d sh ll).1 = 3 then wtI d kL (outN i b) else 0) := by rw [← gL0]; rfl
      have sn2 : sumN gH (b + 1) = sumN gH b + (if (decS (sts d lv (outN i b)) d sh ll).1 = 2 then wtI d kH (outN i b) else 0) := by rw [← gH0]; rfl
      rw [hv] at sn1 sn2
      rw [hv]
      refine go T3_ok 200 rfl ?_
      repeat (first | (refine ldA T3_ok rfl rfl rfl rfl rfl (Bk.all B8) ?_; refine go T3_ok 200 rfl ?_) | (refine ldA T3_ok rfl rfl rfl rfl rfl (Bk.all B17) ?_; refine go T3_ok 200 rfl ?_) | (refine ldA T3_ok rfl rfl rfl rfl rfl (Bk.all B19) ?_; refine go T3_ok 200 rfl ?_) | (refine ld T3_ok rfl rfl rfl rfl (Bk.get B8 rfl) ?_; refine go T3_ok 200 rfl ?_) | (refine ld T3_ok rfl rfl rfl rfl (Bk.get B17 rfl) ?_; refine go T3_ok 200 rfl ?_) | (refine ld T3_ok rfl rfl rfl rfl (Bk.get B19 rfl) ?_; refine go T3_ok 200 rfl ?_) | (refine guardA (b := true) rfl rfl rfl rfl (fun _ => ?_) (fun e => by cases e); refine go T3_ok 200 rfl ?_) | (refine guardA (b := false) rfl rfl rfl rfl (fun e => by cases e) (fun _ => ?_); refine go T3_ok 200 rfl ?_) | (refine condT rfl rfl ?_; refine go T3_ok 200 rfl ?_) | (refine condF rfl rfl ?_; refine go T3_ok 200 rfl ?_))
      have W := Q.rWeight_any (outN i b) d kL A2 c2 _ w3 S3 (by omega)
      rw [hlen] at W
      refine call rfl rfl rfl (ok _ (by decide) rfl) (W) ?_
      rintro v w4 ⟨rfl, rfl⟩
      rw [wtw_eq (by omega) (by omega) (by omega) (outN i b) (by rw [hlen]; omega)]
      refine go T3_ok 200 rfl ?_
      have es : w64 (sumN gL b + wtI d kL (outN i b)) = sumN gL (b + 1) := by
        have sn1 : sumN gL (b + 1) = sumN gL b + wtI d kL (outN i b) := by rw [sn1]; simp
        rw [← sn1]; exact w64_id (by omega) (by omega)
      have sn2 : sumN gH (b + 1) = sumN gH b := by rw [sn2]; simp
      rw [es, eb, ← sn2]
      exact round ⟨b + 1, rfl, ⟨q, B8, B17, B19, by omega⟩, by omega⟩
  have hbN : b = N := by omega
  subst hbN
  refine go T3_ok 200 rfl ?_
  refine quoN rfl rfl rfl rfl hall0 (by omega) (by omega) ?_
  refine go T3_ok 200 rfl ?_
  have fL : sumN gL b ≤ (d : Int) ^ i / lv := by
    rw [Int.le_ediv_iff_mul_le (by omega), Int.mul_comm]
    exact cL
  have fH : sumN gH b ≤ (d : Int) ^ i / lv := by
    rw [Int.le_ediv_iff_mul_le (by omega), Int.mul_comm]
    exact cH
  refine guard (b := true) rfl rfl (congrArg Value.bool (decide_eq_true fL)) (fun _ => ?_) (fun e => by cases e)
  refine go T3_ok 200 rfl ?_
  refine quoN rfl rfl rfl rfl hall0 (by omega) (by omega) ?_
  refine go T3_ok 200 rfl ?_
  refine guard (b := true) rfl rfl (congrArg Value.bool (decide_eq_true fH)) (fun _ => ?_) (fun e => by cases e)
  refine go T3_ok 200 rfl ?_
  refine call rfl rfl rfl (ok _ (by decide) rfl) (known_any _) ?_
  rintro x w ⟨rfl, qk⟩
  have B8 := B8.no qk
  have B17 := B17.no qk
  have B19 := B19.no qk
  have q := q.trans qk
  refine go T3_ok 200 rfl ?_
  exact ret (ret1 (v := .bool true) Try.results3 rfl ⟨rfl, q⟩)
/-- a sky, as it comes in -/
structure Sk where
  p : Int
  bins : Sli (Sli Rw)
  be : Int × Int
  al : Int × Int
def skyL (s : Sk) : List Value := skL s.p s.bins s.be s.al
def RwI (r : Rw) : Prop := I64 r.k ∧ I64 r.lo ∧ I64 r.hi
def SkI (w : World) (s : Sk) : Prop := I64 s.p ∧ SliOk w 1 slL (SliOk w 3 rwL RwI) s.bins
abbrev InR (w : World) (s : Sli Rw) : Prop := SliOk w 3 rwL RwI s
set_option maxRecDepth 20000 in
theorem walk_TopChamber (a : Sk) (t : Sli Rw) (bn o less lv s pc : Int) (w0 : World) (H : SkI w0 a) (Ht : InR w0 t) (_ : I64 bn) (_ : I64 o) (_ : I64 less) (_ : I64 lv) (_ : I64 s) (_ : I64 pc) :
    Ret Try.prog 3 [.agg (skyL a).toArray, .slice t.A t.l.length t.c, I bn, I o, I less, I lv, I s, I pc] w0 fun v w' => v = .bool true ∧ Chg No w0 w' := by
  have hm : maxLen = 9223372036854775807 := by decide
  exact walk_TopChamber0 a.p a.bins a.be a.al t bn o less lv s pc w0 (SkM_of H.2) Ht.2.2.1 (by have := Ht.ml; omega)
section
variable {H : Type} {enc : TypeId × Value → H} {w : World}
theorem op_sp : Opn enc Try.prog w 24 spL (fun s : Int × Int => I64 s.1 ∧ I64 s.2) :=
  (opn_struct Try.underlying24 (n := 2) (by kernel_rfl) (opF_cons (opn_int Try.underlying3) rfl (sz := 1) (by kernel_rfl) (opF_cons (opn_int Try.underlying3) rfl (sz := 1) (by kernel_rfl) (opF_nil _ _ rfl)))).to
    (fun p => (p.1, p.2.1)) fun a h => ⟨rfl, h.1, h.2.1⟩
theorem op_rw : Opn enc Try.prog w 85 rwL RwI :=
  (opn_struct Try.underlying85 (n := 3) (by kernel_rfl) (opF_cons (opn_int Try.underlying3) rfl (sz := 1) (by kernel_rfl) (opF_cons op_sp rfl (sz := 2) (by kernel_rfl) (opF_nil _ _ rfl)))).to
    (fun p => (⟨p.1, p.2.1.1, p.2.1.2⟩ : Rw)) fun a h => ⟨rfl, h.1, h.2.1.1, h.2.1.2⟩
theorem op_fw : Opn enc Try.prog w 135 rwL RwI :=
  (opn_struct Try.underlying135 (n := 3) (by kernel_rfl) (opF_cons (opn_int Try.underlying3) rfl (sz := 1) (by kernel_rfl) (opF_cons op_sp rfl (sz := 2) (by kernel_rfl) (opF_nil _ _ rfl)))).to
    (fun p => (⟨p.1, p.2.1.1, p.2.1.2⟩ : Rw)) fun a h => ⟨rfl, h.1, h.2.1.1, h.2.1.2⟩
theorem op_F : Opn enc Try.prog w 83 slL (SliOk w 3 rwL RwI) := opn_slice Try.underlying83 (by kernel_rfl) (by decide) op_fw (fun _ => rfl)
theorem op_FF : Opn enc Try.prog w 22 (fun s : Sli (Sli Rw) => [.slice s.A s.l.length s.c]) (SliOk w 1 slL (SliOk w 3 rwL RwI)) := opn_slice Try.underlying22 (by kernel_rfl) (by decide) op_F (fun _ => rfl)
theorem op_R : Opn enc Try.prog w 27 (fun s : Sli Rw => [.slice s.A s.l.length s.c]) (InR w) := opn_slice Try.underlying27 (by kernel_rfl) (by decide) op_rw (fun _ => rfl)
theorem op_sky : Opn enc Try.prog w 26 skyL (SkI w) :=
  (opn_struct Try.underlying26 (n := 6) (by kernel_rfl) (opF_cons (opn_int Try.underlying3) rfl (sz := 1) (by kernel_rfl) (opF_cons op_FF rfl (sz := 1) (by kernel_rfl) (opF_cons op_sp rfl (sz := 2) (by kernel_rfl) (opF_cons op_sp rfl (sz := 2) (by kernel_rfl) (opF_nil _ _ rfl)))))).to
    (fun p => (⟨p.1, p.2.1, (p.2.2.1.1, p.2.2.1.2), (p.2.2.2.1.1, p.2.2.2.1.2)⟩ : Sk)) fun a h => ⟨rfl, h.1, h.2.1⟩
end
end Go.Proofs.Ytolhfimknimliaa
