/- The contract of expected rates. -/
import Derived.Test.YtolhfimknimliaaCB
import Derived.Test.YtolhfimknimliaaE8
import Derived.Maps.Keyed
namespace Go.Proofs.Ytolhfimknimliaa
open Go.Ev Go.Proofs Go.Top
attribute [local irreducible] At AtH
def bl37 : Tr := .fork [(0, true), (1, true), (5, true)] (.fork [(2, false), (3, true)] (.fin [(4, false), (6, false), (7, true), (8, true), (9, false), (10, true), (11, true), (12, true), (13, true), (14, true), (15, true), (16, true), (17, false), (18, true), (19, true), (20, true), (21, false), (22, true), (23, true), (24, true)]) (.fork [(6, false), (7, true), (8, true)] (.fin [(4, false), (9, false), (10, true), (11, true), (12, true), (13, true), (14, true), (15, true), (16, true), (17, false), (18, true), (19, true), (20, true), (21, false), (22, true), (23, true), (24, true)]) (.fork [(9, false), (10, true), (11, true), (12, true), (13, true), (14, true), (15, true), (16, true)] (.fin [(4, false), (17, false), (18, true), (19, true), (20, true), (21, false), (22, true), (23, true), (24, true)]) (.fork [(17, false), (18, true), (19, true), (20, true)] (.fin [(4, false), (21, false), (22, true), (23, true), (24, true)]) (.fin [(21, false), (22, true), (4, false), (23, true), (24, true)]))))) (.fork [(6, false), (7, true), (8, true)] (.fork [(2, false), (3, true)] (.fin [(4, false), (9, false), (10, true), (11, true), (12, true), (13, true), (14, true), (15, true), (16, true), (17, false), (18, true), (19, true), (20, true), (21, false), (22, true), (23, true), (24, true)]) (.fork [(9, false), (10, true), (11, true), (12, true), (13, true), (14, true), (15, true), (16, true)] (.fin [(4, false), (17, false), (18, true), (19, true), (20, true), (21, false), (22, true), (23, true), (24, true)]) (.fork [(17, false), (18, true), (19, true), (20, true)] (.fin [(4, false), (21, false), (22, true), (23, true), (24, true)]) (.fin [(21, false), (22, true), (4, false), (23, true), (24, true)])))) (.fork [(9, false), (10, true), (11, true), (12, true), (13, true), (14, true), (15, true), (16, true)] (.fork [(2, false), (3, true)] (.fin [(4, false), (17, false), (18, true), (19, true), (20, true), (21, false), (22, true), (23, true), (24, true)]) (.fork [(17, false), (18, true), (19, true), (20, true)] (.fin [(4, false), (21, false), (22, true), (23, true), (24, true)]) (.fin [(21, false), (22, true), (4, false), (23, true), (24, true)]))) (.fork [(17, false), (18, true), (19, true), (20, true)] (.fork [(2, false), (3, true)] (.fin [(4, false), (21, false), (22, true), (23, true), (24, true)]) (.fin [(21, false), (22, true), (4, false), (23, true), (24, true)])) (.fin [(21, false), (22, true), (2, false), (3, true), (4, false), (23, true), (24, true)]))))
/-- a sky with a range table, its value's cells -/
def grL (p : Int) (bins : Sli (Sli Rw)) (be al : Int × Int) (t : Sli Rw) (mb : Nat) : List Value := skL p bins be al ++ [.slice t.A t.l.length t.c, .map (some mb)]
abbrev EkI (x : Int) : Value := .int .i64 x
abbrev EbS (s : Int × Int) : Value := .agg (spL s).toArray
set_option maxRecDepth 20000 in
set_option maxHeartbeats 8000000 in
theorem below_any (p : Int) (bins : Sli (Sli Rw)) (be al : Int × Int) (t : Sli Rw) (bin o : Int) (w : World) (H : SkM w bins) (St : Sl w w.heap.size 3 t.A t.l.length (t.l.flatMap rwL)) (ht : t.l.length ≤ 9223372036854775807)
    (hs : SkOk p bins be al) (hr : Mono 1 1000000 1000000 true t.l) (hb : 0 ≤ bin ∧ bin ≤ (bins.l.length : Int) - 1) (ho : 0 ≤ o ∧ o ≤ 1000000) :
    Ret Try.prog 37 [.agg (skL p bins be al).toArray, .slice t.A t.l.length t.c, I bin, I o] w fun x w' => ∃ g mb, x = .tuple #[.pointer (some ⟨g, 0, none⟩), .bool true] ∧ Chg No w w' ∧
      w.heap.size ≤ g ∧ w.heap.size ≤ mb ∧ g ≠ mb ∧ Bk w' g 140 (grL p bins be al t mb) ∧ Mt Try.prog 3 w' mb 0 EkI EbS (fun _ : Int => none) := by
  have hlen := H.len
  refine enter Try.func37 rfl Try.ntmps37 rfl ?_
  refine go T2_ok 200 rfl ?_
  refine bx rfl rfl rfl (cs := skL p bins be al) rfl ?_
  intro g4 u4 hg4 hs4 q4 B4
  have q := q4
  have H := H.no q4
  have St := (St.no q4).more q4.size (Nat.le_refl _)
  refine go T2_ok 200 rfl ?_
  refine drawT mixed (fun w' => Chg No u4 w') bl37 (by kernel_rfl) (Chg.drew _) ?_
  have qd := Chg.drew u4
  refine segK rfl ?_
  refine goH T2_ok 200 rfl ?_
  repeat (first | (refine quietH rfl (fun w' hS => r_load T2_ok rfl rfl rfl (Bk.get (B4.no hS) rfl)) ?_; refine goH T2_ok 200 rfl ?_) | (refine quietH rfl (fun w' hS => r_loadA T2_ok rfl rfl rfl rfl (B4.no hS).all) ?_; refine goH T2_ok 200 rfl ?_) | (refine guardHA (b := true) rfl rfl rfl rfl (fun _ => ?_) (fun h => by cases h); refine goH T2_ok 200 rfl ?_))
  refine forkK qd ?_ ?_
  · refine segK rfl ?_
    refine goH T2_ok 200 rfl ?_
    repeat (first | (refine quietH rfl (fun w' hS => r_load T2_ok rfl rfl rfl (Bk.get (B4.no hS) rfl)) ?_; refine goH T2_ok 200 rfl ?_) | (refine quietH rfl (fun w' hS => r_loadA T2_ok rfl rfl rfl rfl (B4.no hS).all) ?_; refine goH T2_ok 200 rfl ?_) | (refine guardHA (b := true) rfl rfl rfl rfl (fun _ => ?_) (fun h => by cases h); refine goH T2_ok 200 rfl ?_))
    refine mkME (kt := 3) rfl rfl ?_
    intro mb w hmb hsm qk Mm
    have lmb := qd.size
    have Mm := Mm EkI EbS
    have qd := qd.trans qk
    refine ⟨qd, ?_⟩
    refine goH T2_ok 200 rfl ?_
    repeat (first | (refine quietH rfl (fun w' hS => r_load T2_ok rfl rfl rfl (Bk.get (B4.no hS) rfl)) ?_; refine goH T2_ok 200 rfl ?_) | (refine quietH rfl (fun w' hS => r_loadA T2_ok rfl rfl rfl rfl (B4.no hS).all) ?_; refine goH T2_ok 200 rfl ?_) | (refine guardHA (b := true) rfl rfl rfl rfl (fun _ => ?_) (fun h => by cases h); refine goH T2_ok 200 rfl ?_))
    refine forkK qd ?_ ?_
    · refine segF rfl ?_
      refine goH T2_ok 200 rfl ?_
      repeat (first | (refine quietH rfl (fun w' hS => r_load T2_ok rfl rfl rfl (Bk.get (B4.no hS) rfl)) ?_; refine goH T2_ok 200 rfl ?_) | (refine quietH rfl (fun w' hS => r_loadA T2_ok rfl rfl rfl rfl (B4.no hS).all) ?_; refine goH T2_ok 200 rfl ?_) | (refine guardHA (b := true) rfl rfl rfl rfl (fun _ => ?_) (fun h => by cases h); refine goH T2_ok 200 rfl ?_))
      refine bxE rfl rfl rfl (cs := grL p bins be al t mb) rfl ?_
      intro gg w hgg hsg qk Bg
      have lgg := qd.size
      have lmm := Mm.lt
      have qd := qd.trans qk
      refine ⟨qd, ?_⟩
      have Mm := Mm.no qk
      refine goH T2_ok 200 rfl ?_
      repeat (first | (refine quietH rfl (fun w' hS => r_load T2_ok rfl rfl rfl (Bk.get (B4.no hS) rfl)) ?_; refine goH T2_ok 200 rfl ?_) | (refine quietH rfl (fun w' hS => r_loadA T2_ok rfl rfl rfl rfl (B4.no hS).all) ?_; refine goH T2_ok 200 rfl ?_) | (refine guardHA (b := true) rfl rfl rfl rfl (fun _ => ?_) (fun h => by cases h); refine goH T2_ok 200 rfl ?_))
      refine callE rfl rfl rfl (ok _ (by decide) rfl) (skied_any p bins be al _ (H.no qd)) ?_
      rintro x w ⟨⟨b, rfl, hbb⟩, qk⟩
      obtain rfl : b = true := hbb.2 hs
      have qd := qd.trans qk
      refine ⟨qd, ?_⟩
      try have Mm := Mm.no qk
      try have Bg := Bg.no qk
      refine goH T2_ok 200 rfl ?_
      repeat (first | (refine quietH rfl (fun w' hS => r_load T2_ok rfl rfl rfl (Bk.get (B4.no hS) rfl)) ?_; refine goH T2_ok 200 rfl ?_) | (refine quietH rfl (fun w' hS => r_loadA T2_ok rfl rfl rfl rfl (B4.no hS).all) ?_; refine goH T2_ok 200 rfl ?_) | (refine guardHA (b := true) rfl rfl rfl rfl (fun _ => ?_) (fun h => by cases h); refine goH T2_ok 200 rfl ?_))
      refine callE rfl rfl rfl (ok _ (by decide) rfl) (ranged_any t.l t.A t.c _ _ (St.no qd) ht) ?_
      rintro x w ⟨⟨b, rfl, hbb⟩, qk⟩
      obtain rfl : b = true := hbb.2 hr
      have qd := qd.trans qk
      refine ⟨qd, ?_⟩
      try have Mm := Mm.no qk
      try have Bg := Bg.no qk
      refine goH T2_ok 200 rfl ?_
      repeat (first | (refine quietH rfl (fun w' hS => r_load T2_ok rfl rfl rfl (Bk.get (B4.no hS) rfl)) ?_; refine goH T2_ok 200 rfl ?_) | (refine quietH rfl (fun w' hS => r_loadA T2_ok rfl rfl rfl rfl (B4.no hS).all) ?_; refine goH T2_ok 200 rfl ?_) | (refine guardHA (b := true) rfl rfl rfl rfl (fun _ => ?_) (fun h => by cases h); refine goH T2_ok 200 rfl ?_))
      rw [w64_id (x := (bins.l.length : Int) - 1) (by omega) (by omega)]
      refine callE rfl rfl rfl (ok _ (by decide) rfl) (within_any bin 0 _ _) ?_
      rintro x w ⟨rfl, rfl⟩
      refine ⟨qd, ?_⟩
      rw [decide_eq_true hb]
      refine goH T2_ok 200 rfl ?_
      repeat (first | (refine quietH rfl (fun w' hS => r_load T2_ok rfl rfl rfl (Bk.get (B4.no hS) rfl)) ?_; refine goH T2_ok 200 rfl ?_) | (refine quietH rfl (fun w' hS => r_loadA T2_ok rfl rfl rfl rfl (B4.no hS).all) ?_; refine goH T2_ok 200 rfl ?_) | (refine guardHA (b := true) rfl rfl rfl rfl (fun _ => ?_) (fun h => by cases h); refine goH T2_ok 200 rfl ?_))
      refine callE rfl rfl rfl (ok _ (by decide) rfl) (within_any o 0 1000000 _) ?_
      rintro x w ⟨rfl, rfl⟩
      refine ⟨qd, ?_⟩
      rw [decide_eq_true ho]
      refine goH T2_ok 200 rfl ?_
      repeat (first | (refine quietH rfl (fun w' hS => r_load T2_ok rfl rfl rfl (Bk.get (B4.no hS) rfl)) ?_; refine goH T2_ok 200 rfl ?_) | (refine quietH rfl (fun w' hS => r_loadA T2_ok rfl rfl rfl rfl (B4.no hS).all) ?_; refine goH T2_ok 200 rfl ?_) | (refine guardHA (b := true) rfl rfl rfl rfl (fun _ => ?_) (fun h => by cases h); refine goH T2_ok 200 rfl ?_))
      refine endH ?_
      refine go T2_ok 200 rfl ?_
      exact ret (ret2 (v := .pointer (some ⟨gg, 0, none⟩)) (x := .bool true) Try.results37 rfl rfl ⟨gg, mb, rfl, q.trans qd, by have := q.size; omega, by have := q.size; omega, by omega, Bg, Mm⟩)
    · refine segK rfl ?_
      refine goH T2_ok 200 rfl ?_
      repeat (first | (refine quietH rfl (fun w' hS => r_load T2_ok rfl rfl rfl (Bk.get (B4.no hS) rfl)) ?_; refine goH T2_ok 200 rfl ?_) | (refine quietH rfl (fun w' hS => r_loadA T2_ok rfl rfl rfl rfl (B4.no hS).all) ?_; refine goH T2_ok 200 rfl ?_) | (refine guardHA (b := true) rfl rfl rfl rfl (fun _ => ?_) (fun h => by cases h); refine goH T2_ok 200 rfl ?_))
      refine callE rfl rfl rfl (ok _ (by decide) rfl) (skied_any p bins be al _ (H.no qd)) ?_
      rintro x w ⟨⟨b, rfl, hbb⟩, qk⟩
      obtain rfl : b = true := hbb.2 hs
      have qd := qd.trans qk
      refine ⟨qd, ?_⟩
      try have Mm := Mm.no qk
      try have Bg := Bg.no qk
      refine goH T2_ok 200 rfl ?_
      repeat (first | (refine quietH rfl (fun w' hS => r_load T2_ok rfl rfl rfl (Bk.get (B4.no hS) rfl)) ?_; refine goH T2_ok 200 rfl ?_) | (refine quietH rfl (fun w' hS => r_loadA T2_ok rfl rfl rfl rfl (B4.no hS).all) ?_; refine goH T2_ok 200 rfl ?_) | (refine guardHA (b := true) rfl rfl rfl rfl (fun _ => ?_) (fun h => by cases h); refine goH T2_ok 200 rfl ?_))
      refine forkK qd ?_ ?_
      · refine segF rfl ?_
        refine goH T2_ok 200 rfl ?_
        repeat (first | (refine quietH rfl (fun w' hS => r_load T2_ok rfl rfl rfl (Bk.get (B4.no hS) rfl)) ?_; refine goH T2_ok 200 rfl ?_) | (refine quietH rfl (fun w' hS => r_loadA T2_ok rfl rfl rfl rfl (B4.no hS).all) ?_; refine goH T2_ok 200 rfl ?_) | (refine guardHA (b := true) rfl rfl rfl rfl (fun _ => ?_) (fun h => by cases h); refine goH T2_ok 200 rfl ?_))
        refine bxE rfl rfl rfl (cs := grL p bins be al t mb) rfl ?_
        intro gg w hgg hsg qk Bg
        have lgg := qd.size
        have lmm := Mm.lt
        have qd := qd.trans qk
        refine ⟨qd, ?_⟩
        have Mm := Mm.no qk
        refine goH T2_ok 200 rfl ?_
        repeat (first | (refine quietH rfl (fun w' hS => r_load T2_ok rfl rfl rfl (Bk.get (B4.no hS) rfl)) ?_; refine goH T2_ok 200 rfl ?_) | (refine quietH rfl (fun w' hS => r_loadA T2_ok rfl rfl rfl rfl (B4.no hS).all) ?_; refine goH T2_ok 200 rfl ?_) | (refine guardHA (b := true) rfl rfl rfl rfl (fun _ => ?_) (fun h => by cases h); refine goH T2_ok 200 rfl ?_))
        refine callE rfl rfl rfl (ok _ (by decide) rfl) (ranged_any t.l t.A t.c _ _ (St.no qd) ht) ?_
        rintro x w ⟨⟨b, rfl, hbb⟩, qk⟩
        obtain rfl : b = true := hbb.2 hr
        have qd := qd.trans qk
        refine ⟨qd, ?_⟩
        try have Mm := Mm.no qk
        try have Bg := Bg.no qk
        refine goH T2_ok 200 rfl ?_
        repeat (first | (refine quietH rfl (fun w' hS => r_load T2_ok rfl rfl rfl (Bk.get (B4.no hS) rfl)) ?_; refine goH T2_ok 200 rfl ?_) | (refine quietH rfl (fun w' hS => r_loadA T2_ok rfl rfl rfl rfl (B4.no hS).all) ?_; refine goH T2_ok 200 rfl ?_) | (refine guardHA (b := true) rfl rfl rfl rfl (fun _ => ?_) (fun h => by cases h); refine goH T2_ok 200 rfl ?_))
        rw [w64_id (x := (bins.l.length : Int) - 1) (by omega) (by omega)]
        refine callE rfl rfl rfl (ok _ (by decide) rfl) (within_any bin 0 _ _) ?_
        rintro x w ⟨rfl, rfl⟩
        refine ⟨qd, ?_⟩
        rw [decide_eq_true hb]
        refine goH T2_ok 200 rfl ?_
        repeat (first | (refine quietH rfl (fun w' hS => r_load T2_ok rfl rfl rfl (Bk.get (B4.no hS) rfl)) ?_; refine goH T2_ok 200 rfl ?_) | (refine quietH rfl (fun w' hS => r_loadA T2_ok rfl rfl rfl rfl (B4.no hS).all) ?_; refine goH T2_ok 200 rfl ?_) | (refine guardHA (b := true) rfl rfl rfl rfl (fun _ => ?_) (fun h => by cases h); refine goH T2_ok 200 rfl ?_))
        refine callE rfl rfl rfl (ok _ (by decide) rfl) (within_any o 0 1000000 _) ?_
        rintro x w ⟨rfl, rfl⟩
        refine ⟨qd, ?_⟩
        rw [decide_eq_true ho]
        refine goH T2_ok 200 rfl ?_
        repeat (first | (refine quietH rfl (fun w' hS => r_load T2_ok rfl rfl rfl (Bk.get (B4.no hS) rfl)) ?_; refine goH T2_ok 200 rfl ?_) | (refine quietH rfl (fun w' hS => r_loadA T2_ok rfl rfl rfl rfl (B4.no hS).all) ?_; refine goH T2_ok 200 rfl ?_) | (refine guardHA (b := true) rfl rfl rfl rfl (fun _ => ?_) (fun h => by cases h); refine goH T2_ok 200 rfl ?_))
        refine endH ?_
        refine go T2_ok 200 rfl ?_
        exact ret (ret2 (v := .pointer (some ⟨gg, 0, none⟩)) (x := .bool true) Try.results37 rfl rfl ⟨gg, mb, rfl, q.trans qd, by have := q.size; omega, by have := q.size; omega, by omega, Bg, Mm⟩)
      · refine segK rfl ?_
        refine goH T2_ok 200 rfl ?_
        repeat (first | (refine quietH rfl (fun w' hS => r_load T2_ok rfl rfl rfl (Bk.get (B4.no hS) rfl)) ?_; refine goH T2_ok 200 rfl ?_) | (refine quietH rfl (fun w' hS => r_loadA T2_ok rfl rfl rfl rfl (B4.no hS).all) ?_; refine goH T2_ok 200 rfl ?_) | (refine guardHA (b := true) rfl rfl rfl rfl (fun _ => ?_) (fun h => by cases h); refine goH T2_ok 200 rfl ?_))
        refine callE rfl rfl rfl (ok _ (by decide) rfl) (ranged_any t.l t.A t.c _ _ (St.no qd) ht) ?_
        rintro x w ⟨⟨b, rfl, hbb⟩, qk⟩
        obtain rfl : b = true := hbb.2 hr
        have qd := qd.trans qk
        refine ⟨qd, ?_⟩
        try have Mm := Mm.no qk
        try have Bg := Bg.no qk
        refine goH T2_ok 200 rfl ?_
        repeat (first | (refine quietH rfl (fun w' hS => r_load T2_ok rfl rfl rfl (Bk.get (B4.no hS) rfl)) ?_; refine goH T2_ok 200 rfl ?_) | (refine quietH rfl (fun w' hS => r_loadA T2_ok rfl rfl rfl rfl (B4.no hS).all) ?_; refine goH T2_ok 200 rfl ?_) | (refine guardHA (b := true) rfl rfl rfl rfl (fun _ => ?_) (fun h => by cases h); refine goH T2_ok 200 rfl ?_))
        refine forkK qd ?_ ?_
        · refine segF rfl ?_
          refine goH T2_ok 200 rfl ?_
          repeat (first | (refine quietH rfl (fun w' hS => r_load T2_ok rfl rfl rfl (Bk.get (B4.no hS) rfl)) ?_; refine goH T2_ok 200 rfl ?_) | (refine quietH rfl (fun w' hS => r_loadA T2_ok rfl rfl rfl rfl (B4.no hS).all) ?_; refine goH T2_ok 200 rfl ?_) | (refine guardHA (b := true) rfl rfl rfl rfl (fun _ => ?_) (fun h => by cases h); refine goH T2_ok 200 rfl ?_))
          refine bxE rfl rfl rfl (cs := grL p bins be al t mb) rfl ?_
          intro gg w hgg hsg qk Bg
          have lgg := qd.size
          have lmm := Mm.lt
          have qd := qd.trans qk
          refine ⟨qd, ?_⟩
          have Mm := Mm.no qk
          refine goH T2_ok 200 rfl ?_
          repeat (first | (refine quietH rfl (fun w' hS => r_load T2_ok rfl rfl rfl (Bk.get (B4.no hS) rfl)) ?_; refine goH T2_ok 200 rfl ?_) | (refine quietH rfl (fun w' hS => r_loadA T2_ok rfl rfl rfl rfl (B4.no hS).all) ?_; refine goH T2_ok 200 rfl ?_) | (refine guardHA (b := true) rfl rfl rfl rfl (fun _ => ?_) (fun h => by cases h); refine goH T2_ok 200 rfl ?_))
          rw [w64_id (x := (bins.l.length : Int) - 1) (by omega) (by omega)]
          refine callE rfl rfl rfl (ok _ (by decide) rfl) (within_any bin 0 _ _) ?_
          rintro x w ⟨rfl, rfl⟩
          refine ⟨qd, ?_⟩
          rw [decide_eq_true hb]
          refine goH T2_ok 200 rfl ?_
          repeat (first | (refine quietH rfl (fun w' hS => r_load T2_ok rfl rfl rfl (Bk.get (B4.no hS) rfl)) ?_; refine goH T2_ok 200 rfl ?_) | (refine quietH rfl (fun w' hS => r_loadA T2_ok rfl rfl rfl rfl (B4.no hS).all) ?_; refine goH T2_ok 200 rfl ?_) | (refine guardHA (b := true) rfl rfl rfl rfl (fun _ => ?_) (fun h => by cases h); refine goH T2_ok 200 rfl ?_))
          refine callE rfl rfl rfl (ok _ (by decide) rfl) (within_any o 0 1000000 _) ?_
          rintro x w ⟨rfl, rfl⟩
          refine ⟨qd, ?_⟩
          rw [decide_eq_true ho]
          refine goH T2_ok 200 rfl ?_
          repeat (first | (refine quietH rfl (fun w' hS => r_load T2_ok rfl rfl rfl (Bk.get (B4.no hS) rfl)) ?_; refine goH T2_ok 200 rfl ?_) | (refine quietH rfl (fun w' hS => r_loadA T2_ok rfl rfl rfl rfl (B4.no hS).all) ?_; refine goH T2_ok 200 rfl ?_) | (refine guardHA (b := true) rfl rfl rfl rfl (fun _ => ?_) (fun h => by cases h); refine goH T2_ok 200 rfl ?_))
          refine endH ?_
          refine go T2_ok 200 rfl ?_
          exact ret (ret2 (v := .pointer (some ⟨gg, 0, none⟩)) (x := .bool true) Try.results37 rfl rfl ⟨gg, mb, rfl, q.trans qd, by have := q.size; omega, by have := q.size; omega, by omega, Bg, Mm⟩)
        · refine segK rfl ?_
          refine goH T2_ok 200 rfl ?_
          repeat (first | (refine quietH rfl (fun w' hS => r_load T2_ok rfl rfl rfl (Bk.get (B4.no hS) rfl)) ?_; refine goH T2_ok 200 rfl ?_) | (refine quietH rfl (fun w' hS => r_loadA T2_ok rfl rfl rfl rfl (B4.no hS).all) ?_; refine goH T2_ok 200 rfl ?_) | (refine guardHA (b := true) rfl rfl rfl rfl (fun _ => ?_) (fun h => by cases h); refine goH T2_ok 200 rfl ?_))
          rw [w64_id (x := (bins.l.length : Int) - 1) (by omega) (by omega)]
          refine callE rfl rfl rfl (ok _ (by decide) rfl) (within_any bin 0 _ _) ?_
          rintro x w ⟨rfl, rfl⟩
          refine ⟨qd, ?_⟩
          rw [decide_eq_true hb]
          refine goH T2_ok 200 rfl ?_
          repeat (first | (refine quietH rfl (fun w' hS => r_load T2_ok rfl rfl rfl (Bk.get (B4.no hS) rfl)) ?_; refine goH T2_ok 200 rfl ?_) | (refine quietH rfl (fun w' hS => r_loadA T2_ok rfl rfl rfl rfl (B4.no hS).all) ?_; refine goH T2_ok 200 rfl ?_) | (refine guardHA (b := true) rfl rfl rfl rfl (fun _ => ?_) (fun h => by cases h); refine goH T2_ok 200 rfl ?_))
          refine forkK qd ?_ ?_
          · refine segF rfl ?_
            refine goH T2_ok 200 rfl ?_
            repeat (first | (refine quietH rfl (fun w' hS => r_load T2_ok rfl rfl rfl (Bk.get (B4.no hS) rfl)) ?_; refine goH T2_ok 200 rfl ?_) | (refine quietH rfl (fun w' hS => r_loadA T2_ok rfl rfl rfl rfl (B4.no hS).all) ?_; refine goH T2_ok 200 rfl ?_) | (refine guardHA (b := true) rfl rfl rfl rfl (fun _ => ?_) (fun h => by cases h); refine goH T2_ok 200 rfl ?_))
            refine bxE rfl rfl rfl (cs := grL p bins be al t mb) rfl ?_
            intro gg w hgg hsg qk Bg
            have lgg := qd.size
            have lmm := Mm.lt
            have qd := qd.trans qk
            refine ⟨qd, ?_⟩
            have Mm := Mm.no qk
            refine goH T2_ok 200 rfl ?_
            repeat (first | (refine quietH rfl (fun w' hS => r_load T2_ok rfl rfl rfl (Bk.get (B4.no hS) rfl)) ?_; refine goH T2_ok 200 rfl ?_) | (refine quietH rfl (fun w' hS => r_loadA T2_ok rfl rfl rfl rfl (B4.no hS).all) ?_; refine goH T2_ok 200 rfl ?_) | (refine guardHA (b := true) rfl rfl rfl rfl (fun _ => ?_) (fun h => by cases h); refine goH T2_ok 200 rfl ?_))
            refine callE rfl rfl rfl (ok _ (by decide) rfl) (within_any o 0 1000000 _) ?_
            rintro x w ⟨rfl, rfl⟩
            refine ⟨qd, ?_⟩
            rw [decide_eq_true ho]
            refine goH T2_ok 200 rfl ?_
            repeat (first | (refine quietH rfl (fun w' hS => r_load T2_ok rfl rfl rfl (Bk.get (B4.no hS) rfl)) ?_; refine goH T2_ok 200 rfl ?_) | (refine quietH rfl (fun w' hS => r_loadA T2_ok rfl rfl rfl rfl (B4.no hS).all) ?_; refine goH T2_ok 200 rfl ?_) | (refine guardHA (b := true) rfl rfl rfl rfl (fun _ => ?_) (fun h => by cases h); refine goH T2_ok 200 rfl ?_))
            refine endH ?_
            refine go T2_ok 200 rfl ?_
            exact ret (ret2 (v := .pointer (some ⟨gg, 0, none⟩)) (x := .bool true) Try.results37 rfl rfl ⟨gg, mb, rfl, q.trans qd, by have := q.size; omega, by have := q.size; omega, by omega, Bg, Mm⟩)
          · refine segF rfl ?_
            refine goH T2_ok 200 rfl ?_
            repeat (first | (refine quietH rfl (fun w' hS => r_load T2_ok rfl rfl rfl (Bk.get (B4.no hS) rfl)) ?_; refine goH T2_ok 200 rfl ?_) | (refine quietH rfl (fun w' hS => r_loadA T2_ok rfl rfl rfl rfl (B4.no hS).all) ?_; refine goH T2_ok 200 rfl ?_) | (refine guardHA (b := true) rfl rfl rfl rfl (fun _ => ?_) (fun h => by cases h); refine goH T2_ok 200 rfl ?_))
            refine callE rfl rfl rfl (ok _ (by decide) rfl) (within_any o 0 1000000 _) ?_
            rintro x w ⟨rfl, rfl⟩
            refine ⟨qd, ?_⟩
            rw [decide_eq_true ho]
            refine goH T2_ok 200 rfl ?_
            repeat (first | (refine quietH rfl (fun w' hS => r_load T2_ok rfl rfl rfl (Bk.get (B4.no hS) rfl)) ?_; refine goH T2_ok 200 rfl ?_) | (refine quietH rfl (fun w' hS => r_loadA T2_ok rfl rfl rfl rfl (B4.no hS).all) ?_; refine goH T2_ok 200 rfl ?_) | (refine guardHA (b := true) rfl rfl rfl rfl (fun _ => ?_) (fun h => by cases h); refine goH T2_ok 200 rfl ?_))
            refine bxE rfl rfl rfl (cs := grL p bins be al t mb) rfl ?_
            intro gg w hgg hsg qk Bg
            have lgg := qd.size
            have lmm := Mm.lt
            have qd := qd.trans qk
            refine ⟨qd, ?_⟩
            have Mm := Mm.no qk
            refine goH T2_ok 200 rfl ?_
            repeat (first | (refine quietH rfl (fun w' hS => r_load T2_ok rfl rfl rfl (Bk.get (B4.no hS) rfl)) ?_; refine goH T2_ok 200 rfl ?_) | (refine quietH rfl (fun w' hS => r_loadA T2_ok rfl rfl rfl rfl (B4.no hS).all) ?_; refine goH T2_ok 200 rfl ?_) | (refine guardHA (b := true) rfl rfl rfl rfl (fun _ => ?_) (fun h => by cases h); refine goH T2_ok 200 rfl ?_))
            refine endH ?_
            refine go T2_ok 200 rfl ?_
            exact ret (ret2 (v := .pointer (some ⟨gg, 0, none⟩)) (x := .bool true) Try.results37 rfl rfl ⟨gg, mb, rfl, q.trans qd, by have := q.size; omega, by have := q.size; omega, by omega, Bg, Mm⟩)
  · refine segK rfl ?_
    refine goH T2_ok 200 rfl ?_
    repeat (first | (refine quietH rfl (fun w' hS => r_load T2_ok rfl rfl rfl (Bk.get (B4.no hS) rfl)) ?_; refine goH T2_ok 200 rfl ?_) | (refine quietH rfl (fun w' hS => r_loadA T2_ok rfl rfl rfl rfl (B4.no hS).all) ?_; refine goH T2_ok 200 rfl ?_) | (refine guardHA (b := true) rfl rfl rfl rfl (fun _ => ?_) (fun h => by cases h); refine goH T2_ok 200 rfl ?_))
    refine callE rfl rfl rfl (ok _ (by decide) rfl) (skied_any p bins be al _ (H.no qd)) ?_
    rintro x w ⟨⟨b, rfl, hbb⟩, qk⟩
    obtain rfl : b = true := hbb.2 hs
    have qd := qd.trans qk
    refine ⟨qd, ?_⟩
    try have Mm := Mm.no qk
    try have Bg := Bg.no qk
    refine goH T2_ok 200 rfl ?_
    repeat (first | (refine quietH rfl (fun w' hS => r_load T2_ok rfl rfl rfl (Bk.get (B4.no hS) rfl)) ?_; refine goH T2_ok 200 rfl ?_) | (refine quietH rfl (fun w' hS => r_loadA T2_ok rfl rfl rfl rfl (B4.no hS).all) ?_; refine goH T2_ok 200 rfl ?_) | (refine guardHA (b := true) rfl rfl rfl rfl (fun _ => ?_) (fun h => by cases h); refine goH T2_ok 200 rfl ?_))
    refine forkK qd ?_ ?_
    · refine segK rfl ?_
      refine goH T2_ok 200 rfl ?_
      repeat (first | (refine quietH rfl (fun w' hS => r_load T2_ok rfl rfl rfl (Bk.get (B4.no hS) rfl)) ?_; refine goH T2_ok 200 rfl ?_) | (refine quietH rfl (fun w' hS => r_loadA T2_ok rfl rfl rfl rfl (B4.no hS).all) ?_; refine goH T2_ok 200 rfl ?_) | (refine guardHA (b := true) rfl rfl rfl rfl (fun _ => ?_) (fun h => by cases h); refine goH T2_ok 200 rfl ?_))
      refine mkME (kt := 3) rfl rfl ?_
      intro mb w hmb hsm qk Mm
      have lmb := qd.size
      have Mm := Mm EkI EbS
      have qd := qd.trans qk
      refine ⟨qd, ?_⟩
      refine goH T2_ok 200 rfl ?_
      repeat (first | (refine quietH rfl (fun w' hS => r_load T2_ok rfl rfl rfl (Bk.get (B4.no hS) rfl)) ?_; refine goH T2_ok 200 rfl ?_) | (refine quietH rfl (fun w' hS => r_loadA T2_ok rfl rfl rfl rfl (B4.no hS).all) ?_; refine goH T2_ok 200 rfl ?_) | (refine guardHA (b := true) rfl rfl rfl rfl (fun _ => ?_) (fun h => by cases h); refine goH T2_ok 200 rfl ?_))
      refine forkK qd ?_ ?_
      · refine segF rfl ?_
        refine goH T2_ok 200 rfl ?_
        repeat (first | (refine quietH rfl (fun w' hS => r_load T2_ok rfl rfl rfl (Bk.get (B4.no hS) rfl)) ?_; refine goH T2_ok 200 rfl ?_) | (refine quietH rfl (fun w' hS => r_loadA T2_ok rfl rfl rfl rfl (B4.no hS).all) ?_; refine goH T2_ok 200 rfl ?_) | (refine guardHA (b := true) rfl rfl rfl rfl (fun _ => ?_) (fun h => by cases h); refine goH T2_ok 200 rfl ?_))
        refine bxE rfl rfl rfl (cs := grL p bins be al t mb) rfl ?_
        intro gg w hgg hsg qk Bg
        have lgg := qd.size
        have lmm := Mm.lt
        have qd := qd.trans qk
        refine ⟨qd, ?_⟩
        have Mm := Mm.no qk
        refine goH T2_ok 200 rfl ?_
        repeat (first | (refine quietH rfl (fun w' hS => r_load T2_ok rfl rfl rfl (Bk.get (B4.no hS) rfl)) ?_; refine goH T2_ok 200 rfl ?_) | (refine quietH rfl (fun w' hS => r_loadA T2_ok rfl rfl rfl rfl (B4.no hS).all) ?_; refine goH T2_ok 200 rfl ?_) | (refine guardHA (b := true) rfl rfl rfl rfl (fun _ => ?_) (fun h => by cases h); refine goH T2_ok 200 rfl ?_))
        refine callE rfl rfl rfl (ok _ (by decide) rfl) (ranged_any t.l t.A t.c _ _ (St.no qd) ht) ?_
        rintro x w ⟨⟨b, rfl, hbb⟩, qk⟩
        obtain rfl : b = true := hbb.2 hr
        have qd := qd.trans qk
        refine ⟨qd, ?_⟩
        try have Mm := Mm.no qk
        try have Bg := Bg.no qk
        refine goH T2_ok 200 rfl ?_
        repeat (first | (refine quietH rfl (fun w' hS => r_load T2_ok rfl rfl rfl (Bk.get (B4.no hS) rfl)) ?_; refine goH T2_ok 200 rfl ?_) | (refine quietH rfl (fun w' hS => r_loadA T2_ok rfl rfl rfl rfl (B4.no hS).all) ?_; refine goH T2_ok 200 rfl ?_) | (refine guardHA (b := true) rfl rfl rfl rfl (fun _ => ?_) (fun h => by cases h); refine goH T2_ok 200 rfl ?_))
        rw [w64_id (x := (bins.l.length : Int) - 1) (by omega) (by omega)]
        refine callE rfl rfl rfl (ok _ (by decide) rfl) (within_any bin 0 _ _) ?_
        rintro x w ⟨rfl, rfl⟩
        refine ⟨qd, ?_⟩
        rw [decide_eq_true hb]
        refine goH T2_ok 200 rfl ?_
        repeat (first | (refine quietH rfl (fun w' hS => r_load T2_ok rfl rfl rfl (Bk.get (B4.no hS) rfl)) ?_; refine goH T2_ok 200 rfl ?_) | (refine quietH rfl (fun w' hS => r_loadA T2_ok rfl rfl rfl rfl (B4.no hS).all) ?_; refine goH T2_ok 200 rfl ?_) | (refine guardHA (b := true) rfl rfl rfl rfl (fun _ => ?_) (fun h => by cases h); refine goH T2_ok 200 rfl ?_))
        refine callE rfl rfl rfl (ok _ (by decide) rfl) (within_any o 0 1000000 _) ?_
        rintro x w ⟨rfl, rfl⟩
        refine ⟨qd, ?_⟩
        rw [decide_eq_true ho]
        refine goH T2_ok 200 rfl ?_
        repeat (first | (refine quietH rfl (fun w' hS => r_load T2_ok rfl rfl rfl (Bk.get (B4.no hS) rfl)) ?_; refine goH T2_ok 200 rfl ?_) | (refine quietH rfl (fun w' hS => r_loadA T2_ok rfl rfl rfl rfl (B4.no hS).all) ?_; refine goH T2_ok 200 rfl ?_) | (refine guardHA (b := true) rfl rfl rfl rfl (fun _ => ?_) (fun h => by cases h); refine goH T2_ok 200 rfl ?_))
        refine endH ?_
        refine go T2_ok 200 rfl ?_
        exact ret (ret2 (v := .pointer (some ⟨gg, 0, none⟩)) (x := .bool true) Try.results37 rfl rfl ⟨gg, mb, rfl, q.trans qd, by have := q.size; omega, by have := q.size; omega, by omega, Bg, Mm⟩)
      · refine segK rfl ?_
        refine goH T2_ok 200 rfl ?_
        repeat (first | (refine quietH rfl (fun w' hS => r_load T2_ok rfl rfl rfl (Bk.get (B4.no hS) rfl)) ?_; refine goH T2_ok 200 rfl ?_) | (refine quietH rfl (fun w' hS => r_loadA T2_ok rfl rfl rfl rfl (B4.no hS).all) ?_; refine goH T2_ok 200 rfl ?_) | (refine guardHA (b := true) rfl rfl rfl rfl (fun _ => ?_) (fun h => by cases h); refine goH T2_ok 200 rfl ?_))
        refine callE rfl rfl rfl (ok _ (by decide) rfl) (ranged_any t.l t.A t.c _ _ (St.no qd) ht) ?_
        rintro x w ⟨⟨b, rfl, hbb⟩, qk⟩
        obtain rfl : b = true := hbb.2 hr
        have qd := qd.trans qk
        refine ⟨qd, ?_⟩
        try have Mm := Mm.no qk
        try have Bg := Bg.no qk
        refine goH T2_ok 200 rfl ?_
        repeat (first | (refine quietH rfl (fun w' hS => r_load T2_ok rfl rfl rfl (Bk.get (B4.no hS) rfl)) ?_; refine goH T2_ok 200 rfl ?_) | (refine quietH rfl (fun w' hS => r_loadA T2_ok rfl rfl rfl rfl (B4.no hS).all) ?_; refine goH T2_ok 200 rfl ?_) | (refine guardHA (b := true) rfl rfl rfl rfl (fun _ => ?_) (fun h => by cases h); refine goH T2_ok 200 rfl ?_))
        refine forkK qd ?_ ?_
        · refine segF rfl ?_
          refine goH T2_ok 200 rfl ?_
          repeat (first | (refine quietH rfl (fun w' hS => r_load T2_ok rfl rfl rfl (Bk.get (B4.no hS) rfl)) ?_; refine goH T2_ok 200 rfl ?_) | (refine quietH rfl (fun w' hS => r_loadA T2_ok rfl rfl rfl rfl (B4.no hS).all) ?_; refine goH T2_ok 200 rfl ?_) | (refine guardHA (b := true) rfl rfl rfl rfl (fun _ => ?_) (fun h => by cases h); refine goH T2_ok 200 rfl ?_))
          refine bxE rfl rfl rfl (cs := grL p bins be al t mb) rfl ?_
          intro gg w hgg hsg qk Bg
          have lgg := qd.size
          have lmm := Mm.lt
          have qd := qd.trans qk
          refine ⟨qd, ?_⟩
          have Mm := Mm.no qk
          refine goH T2_ok 200 rfl ?_
          repeat (first | (refine quietH rfl (fun w' hS => r_load T2_ok rfl rfl rfl (Bk.get (B4.no hS) rfl)) ?_; refine goH T2_ok 200 rfl ?_) | (refine quietH rfl (fun w' hS => r_loadA T2_ok rfl rfl rfl rfl (B4.no hS).all) ?_; refine goH T2_ok 200 rfl ?_) | (refine guardHA (b := true) rfl rfl rfl rfl (fun _ => ?_) (fun h => by cases h); refine goH T2_ok 200 rfl ?_))
          rw [w64_id (x := (bins.l.length : Int) - 1) (by omega) (by omega)]
          refine callE rfl rfl rfl (ok _ (by decide) rfl) (within_any bin 0 _ _) ?_
          rintro x w ⟨rfl, rfl⟩
          refine ⟨qd, ?_⟩
          rw [decide_eq_true hb]
          refine goH T2_ok 200 rfl ?_
          repeat (first | (refine quietH rfl (fun w' hS => r_load T2_ok rfl rfl rfl (Bk.get (B4.no hS) rfl)) ?_; refine goH T2_ok 200 rfl ?_) | (refine quietH rfl (fun w' hS => r_loadA T2_ok rfl rfl rfl rfl (B4.no hS).all) ?_; refine goH T2_ok 200 rfl ?_) | (refine guardHA (b := true) rfl rfl rfl rfl (fun _ => ?_) (fun h => by cases h); refine goH T2_ok 200 rfl ?_))
          refine callE rfl rfl rfl (ok _ (by decide) rfl) (within_any o 0 1000000 _) ?_
          rintro x w ⟨rfl, rfl⟩
          refine ⟨qd, ?_⟩
          rw [decide_eq_true ho]
          refine goH T2_ok 200 rfl ?_
          repeat (first | (refine quietH rfl (fun w' hS => r_load T2_ok rfl rfl rfl (Bk.get (B4.no hS) rfl)) ?_; refine goH T2_ok 200 rfl ?_) | (refine quietH rfl (fun w' hS => r_loadA T2_ok rfl rfl rfl rfl (B4.no hS).all) ?_; refine goH T2_ok 200 rfl ?_) | (refine guardHA (b := true) rfl rfl rfl rfl (fun _ => ?_) (fun h => by cases h); refine goH T2_ok 200 rfl ?_))
          refine endH ?_
          refine go T2_ok 200 rfl ?_
          exact ret (ret2 (v := .pointer (some ⟨gg, 0, none⟩)) (x := .bool true) Try.results37 rfl rfl ⟨gg, mb, rfl, q.trans qd, by have := q.size; omega, by have := q.size; omega, by omega, Bg, Mm⟩)
        · refine segK rfl ?_
          refine goH T2_ok 200 rfl ?_
          repeat (first | (refine quietH rfl (fun w' hS => r_load T2_ok rfl rfl rfl (Bk.get (B4.no hS) rfl)) ?_; refine goH T2_ok 200 rfl ?_) | (refine quietH rfl (fun w' hS => r_loadA T2_ok rfl rfl rfl rfl (B4.no hS).all) ?_; refine goH T2_ok 200 rfl ?_) | (refine guardHA (b := true) rfl rfl rfl rfl (fun _ => ?_) (fun h => by cases h); refine goH T2_ok 200 rfl ?_))
          rw [w64_id (x := (bins.l.length : Int) - 1) (by omega) (by omega)]
          refine callE rfl rfl rfl (ok _ (by decide) rfl) (within_any bin 0 _ _) ?_
          rintro x w ⟨rfl, rfl⟩
          refine ⟨qd, ?_⟩
          rw [decide_eq_true hb]
          refine goH T2_ok 200 rfl ?_
          repeat (first | (refine quietH rfl (fun w' hS => r_load T2_ok rfl rfl rfl (Bk.get (B4.no hS) rfl)) ?_; refine goH T2_ok 200 rfl ?_) | (refine quietH rfl (fun w' hS => r_loadA T2_ok rfl rfl rfl rfl (B4.no hS).all) ?_; refine goH T2_ok 200 rfl ?_) | (refine guardHA (b := true) rfl rfl rfl rfl (fun _ => ?_) (fun h => by cases h); refine goH T2_ok 200 rfl ?_))
          refine forkK qd ?_ ?_
          · refine segF rfl ?_
            refine goH T2_ok 200 rfl ?_
            repeat (first | (refine quietH rfl (fun w' hS => r_load T2_ok rfl rfl rfl (Bk.get (B4.no hS) rfl)) ?_; refine goH T2_ok 200 rfl ?_) | (refine quietH rfl (fun w' hS => r_loadA T2_ok rfl rfl rfl rfl (B4.no hS).all) ?_; refine goH T2_ok 200 rfl ?_) | (refine guardHA (b := true) rfl rfl rfl rfl (fun _ => ?_) (fun h => by cases h); refine goH T2_ok 200 rfl ?_))
            refine bxE rfl rfl rfl (cs := grL p bins be al t mb) rfl ?_
            intro gg w hgg hsg qk Bg
            have lgg := qd.size
            have lmm := Mm.lt
            have qd := qd.trans qk
            refine ⟨qd, ?_⟩
            have Mm := Mm.no qk
            refine goH T2_ok 200 rfl ?_
            repeat (first | (refine quietH rfl (fun w' hS => r_load T2_ok rfl rfl rfl (Bk.get (B4.no hS) rfl)) ?_; refine goH T2_ok 200 rfl ?_) | (refine quietH rfl (fun w' hS => r_loadA T2_ok rfl rfl rfl rfl (B4.no hS).all) ?_; refine goH T2_ok 200 rfl ?_) | (refine guardHA (b := true) rfl rfl rfl rfl (fun _ => ?_) (fun h => by cases h); refine goH T2_ok 200 rfl ?_))
            refine callE rfl rfl rfl (ok _ (by decide) rfl) (within_any o 0 1000000 _) ?_
            rintro x w ⟨rfl, rfl⟩
            refine ⟨qd, ?_⟩
            rw [decide_eq_true ho]
            refine goH T2_ok 200 rfl ?_
            repeat (first | (refine quietH rfl (fun w' hS => r_load T2_ok rfl rfl rfl (Bk.get (B4.no hS) rfl)) ?_; refine goH T2_ok 200 rfl ?_) | (refine quietH rfl (fun w' hS => r_loadA T2_ok rfl rfl rfl rfl (B4.no hS).all) ?_; refine goH T2_ok 200 rfl ?_) | (refine guardHA (b := true) rfl rfl rfl rfl (fun _ => ?_) (fun h => by cases h); refine goH T2_ok 200 rfl ?_))
            refine endH ?_
            refine go T2_ok 200 rfl ?_
            exact ret (ret2 (v := .pointer (some ⟨gg, 0, none⟩)) (x := .bool true) Try.results37 rfl rfl ⟨gg, mb, rfl, q.trans qd, by have := q.size; omega, by have := q.size; omega, by omega, Bg, Mm⟩)
          · refine segF rfl ?_
            refine goH T2_ok 200 rfl ?_
            repeat (first | (refine quietH rfl (fun w' hS => r_load T2_ok rfl rfl rfl (Bk.get (B4.no hS) rfl)) ?_; refine goH T2_ok 200 rfl ?_) | (refine quietH rfl (fun w' hS => r_loadA T2_ok rfl rfl rfl rfl (B4.no hS).all) ?_; refine goH T2_ok 200 rfl ?_) | (refine guardHA (b := true) rfl rfl rfl rfl (fun _ => ?_) (fun h => by cases h); refine goH T2_ok 200 rfl ?_))
            refine callE rfl rfl rfl (ok _ (by decide) rfl) (within_any o 0 1000000 _) ?_
            rintro x w ⟨rfl, rfl⟩
            refine ⟨qd, ?_⟩
            rw [decide_eq_true ho]
            refine goH T2_ok 200 rfl ?_
            repeat (first | (refine quietH rfl (fun w' hS => r_load T2_ok rfl rfl rfl (Bk.get (B4.no hS) rfl)) ?_; refine goH T2_ok 200 rfl ?_) | (refine quietH rfl (fun w' hS => r_loadA T2_ok rfl rfl rfl rfl (B4.no hS).all) ?_; refine goH T2_ok 200 rfl ?_) | (refine guardHA (b := true) rfl rfl rfl rfl (fun _ => ?_) (fun h => by cases h); refine goH T2_ok 200 rfl ?_))
            refine bxE rfl rfl rfl (cs := grL p bins be al t mb) rfl ?_
            intro gg w hgg hsg qk Bg
            have lgg := qd.size
            have lmm := Mm.lt
            have qd := qd.trans qk
            refine ⟨qd, ?_⟩
            have Mm := Mm.no qk
            refine goH T2_ok 200 rfl ?_
            repeat (first | (refine quietH rfl (fun w' hS => r_load T2_ok rfl rfl rfl (Bk.get (B4.no hS) rfl)) ?_; refine goH T2_ok 200 rfl ?_) | (refine quietH rfl (fun w' hS => r_loadA T2_ok rfl rfl rfl rfl (B4.no hS).all) ?_; refine goH T2_ok 200 rfl ?_) | (refine guardHA (b := true) rfl rfl rfl rfl (fun _ => ?_) (fun h => by cases h); refine goH T2_ok 200 rfl ?_))
            refine endH ?_
            refine go T2_ok 200 rfl ?_
            exact ret (ret2 (v := .pointer (some ⟨gg, 0, none⟩)) (x := .bool true) Try.results37 rfl rfl ⟨gg, mb, rfl, q.trans qd, by have := q.size; omega, by have := q.size; omega, by omega, Bg, Mm⟩)
    · refine segK rfl ?_
      refine goH T2_ok 200 rfl ?_
      repeat (first | (refine quietH rfl (fun w' hS => r_load T2_ok rfl rfl rfl (Bk.get (B4.no hS) rfl)) ?_; refine goH T2_ok 200 rfl ?_) | (refine quietH rfl (fun w' hS => r_loadA T2_ok rfl rfl rfl rfl (B4.no hS).all) ?_; refine goH T2_ok 200 rfl ?_) | (refine guardHA (b := true) rfl rfl rfl rfl (fun _ => ?_) (fun h => by cases h); refine goH T2_ok 200 rfl ?_))
      refine callE rfl rfl rfl (ok _ (by decide) rfl) (ranged_any t.l t.A t.c _ _ (St.no qd) ht) ?_
      rintro x w ⟨⟨b, rfl, hbb⟩, qk⟩
      obtain rfl : b = true := hbb.2 hr
      have qd := qd.trans qk
      refine ⟨qd, ?_⟩
      try have Mm := Mm.no qk
      try have Bg := Bg.no qk
      refine goH T2_ok 200 rfl ?_
      repeat (first | (refine quietH rfl (fun w' hS => r_load T2_ok rfl rfl rfl (Bk.get (B4.no hS) rfl)) ?_; refine goH T2_ok 200 rfl ?_) | (refine quietH rfl (fun w' hS => r_loadA T2_ok rfl rfl rfl rfl (B4.no hS).all) ?_; refine goH T2_ok 200 rfl ?_) | (refine guardHA (b := true) rfl rfl rfl rfl (fun _ => ?_) (fun h => by cases h); refine goH T2_ok 200 rfl ?_))
      refine forkK qd ?_ ?_
      · refine segK rfl ?_
        refine goH T2_ok 200 rfl ?_
        repeat (first | (refine quietH rfl (fun w' hS => r_load T2_ok rfl rfl rfl (Bk.get (B4.no hS) rfl)) ?_; refine goH T2_ok 200 rfl ?_) | (refine quietH rfl (fun w' hS => r_loadA T2_ok rfl rfl rfl rfl (B4.no hS).all) ?_; refine goH T2_ok 200 rfl ?_) | (refine guardHA (b := true) rfl rfl rfl rfl (fun _ => ?_) (fun h => by cases h); refine goH T2_ok 200 rfl ?_))
        refine mkME (kt := 3) rfl rfl ?_
        intro mb w hmb hsm qk Mm
        have lmb := qd.size
        have Mm := Mm EkI EbS
        have qd := qd.trans qk
        refine ⟨qd, ?_⟩
        refine goH T2_ok 200 rfl ?_
        repeat (first | (refine quietH rfl (fun w' hS => r_load T2_ok rfl rfl rfl (Bk.get (B4.no hS) rfl)) ?_; refine goH T2_ok 200 rfl ?_) | (refine quietH rfl (fun w' hS => r_loadA T2_ok rfl rfl rfl rfl (B4.no hS).all) ?_; refine goH T2_ok 200 rfl ?_) | (refine guardHA (b := true) rfl rfl rfl rfl (fun _ => ?_) (fun h => by cases h); refine goH T2_ok 200 rfl ?_))
        refine forkK qd ?_ ?_
        · refine segF rfl ?_
          refine goH T2_ok 200 rfl ?_
          repeat (first | (refine quietH rfl (fun w' hS => r_load T2_ok rfl rfl rfl (Bk.get (B4.no hS) rfl)) ?_; refine goH T2_ok 200 rfl ?_) | (refine quietH rfl (fun w' hS => r_loadA T2_ok rfl rfl rfl rfl (B4.no hS).all) ?_; refine goH T2_ok 200 rfl ?_) | (refine guardHA (b := true) rfl rfl rfl rfl (fun _ => ?_) (fun h => by cases h); refine goH T2_ok 200 rfl ?_))
          refine bxE rfl rfl rfl (cs := grL p bins be al t mb) rfl ?_
          intro gg w hgg hsg qk Bg
          have lgg := qd.size
          have lmm := Mm.lt
          have qd := qd.trans qk
          refine ⟨qd, ?_⟩
          have Mm := Mm.no qk
          refine goH T2_ok 200 rfl ?_
          repeat (first | (refine quietH rfl (fun w' hS => r_load T2_ok rfl rfl rfl (Bk.get (B4.no hS) rfl)) ?_; refine goH T2_ok 200 rfl ?_) | (refine quietH rfl (fun w' hS => r_loadA T2_ok rfl rfl rfl rfl (B4.no hS).all) ?_; refine goH T2_ok 200 rfl ?_) | (refine guardHA (b := true) rfl rfl rfl rfl (fun _ => ?_) (fun h => by cases h); refine goH T2_ok 200 rfl ?_))
          rw [w64_id (x := (bins.l.length : Int) - 1) (by omega) (by omega)]
          refine callE rfl rfl rfl (ok _ (by decide) rfl) (within_any bin 0 _ _) ?_
          rintro x w ⟨rfl, rfl⟩
          refine ⟨qd, ?_⟩
          rw [decide_eq_true hb]
          refine goH T2_ok 200 rfl ?_
          repeat (first | (refine quietH rfl (fun w' hS => r_load T2_ok rfl rfl rfl (Bk.get (B4.no hS) rfl)) ?_; refine goH T2_ok 200 rfl ?_) | (refine quietH rfl (fun w' hS => r_loadA T2_ok rfl rfl rfl rfl (B4.no hS).all) ?_; refine goH T2_ok 200 rfl ?_) | (refine guardHA (b := true) rfl rfl rfl rfl (fun _ => ?_) (fun h => by cases h); refine goH T2_ok 200 rfl ?_))
          refine callE rfl rfl rfl (ok _ (by decide) rfl) (within_any o 0 1000000 _) ?_
          rintro x w ⟨rfl, rfl⟩
          refine ⟨qd, ?_⟩
          rw [decide_eq_true ho]
          refine goH T2_ok 200 rfl ?_
          repeat (first | (refine quietH rfl (fun w' hS => r_load T2_ok rfl rfl rfl (Bk.get (B4.no hS) rfl)) ?_; refine goH T2_ok 200 rfl ?_) | (refine quietH rfl (fun w' hS => r_loadA T2_ok rfl rfl rfl rfl (B4.no hS).all) ?_; refine goH T2_ok 200 rfl ?_) | (refine guardHA (b := true) rfl rfl rfl rfl (fun _ => ?_) (fun h => by cases h); refine goH T2_ok 200 rfl ?_))
          refine endH ?_
          refine go T2_ok 200 rfl ?_
          exact ret (ret2 (v := .pointer (some ⟨gg, 0, none⟩)) (x := .bool true) Try.results37 rfl rfl ⟨gg, mb, rfl, q.trans qd, by have := q.size; omega, by have := q.size; omega, by omega, Bg, Mm⟩)
        · refine segK rfl ?_
          refine goH T2_ok 200 rfl ?_
          repeat (first | (refine quietH rfl (fun w' hS => r_load T2_ok rfl rfl rfl (Bk.get (B4.no hS) rfl)) ?_; refine goH T2_ok 200 rfl ?_) | (refine quietH rfl (fun w' hS => r_loadA T2_ok rfl rfl rfl rfl (B4.no hS).all) ?_; refine goH T2_ok 200 rfl ?_) | (refine guardHA (b := true) rfl rfl rfl rfl (fun _ => ?_) (fun h => by cases h); refine goH T2_ok 200 rfl ?_))
          rw [w64_id (x := (bins.l.length : Int) - 1) (by omega) (by omega)]
          refine callE rfl rfl rfl (ok _ (by decide) rfl) (within_any bin 0 _ _) ?_
          rintro x w ⟨rfl, rfl⟩
          refine ⟨qd, ?_⟩
          rw [decide_eq_true hb]
          refine goH T2_ok 200 rfl ?_
          repeat (first | (refine quietH rfl (fun w' hS => r_load T2_ok rfl rfl rfl (Bk.get (B4.no hS) rfl)) ?_; refine goH T2_ok 200 rfl ?_) | (refine quietH rfl (fun w' hS => r_loadA T2_ok rfl rfl rfl rfl (B4.no hS).all) ?_; refine goH T2_ok 200 rfl ?_) | (refine guardHA (b := true) rfl rfl rfl rfl (fun _ => ?_) (fun h => by cases h); refine goH T2_ok 200 rfl ?_))
          refine forkK qd ?_ ?_
          · refine segF rfl ?_
            refine goH T2_ok 200 rfl ?_
            repeat (first | (refine quietH rfl (fun w' hS => r_load T2_ok rfl rfl rfl (Bk.get (B4.no hS) rfl)) ?_; refine goH T2_ok 200 rfl ?_) | (refine quietH rfl (fun w' hS => r_loadA T2_ok rfl rfl rfl rfl (B4.no hS).all) ?_; refine goH T2_ok 200 rfl ?_) | (refine guardHA (b := true) rfl rfl rfl rfl (fun _ => ?_) (fun h => by cases h); refine goH T2_ok 200 rfl ?_))
            refine bxE rfl rfl rfl (cs := grL p bins be al t mb) rfl ?_
            intro gg w hgg hsg qk Bg
            have lgg := qd.size
            have lmm := Mm.lt
            have qd := qd.trans qk
            refine ⟨qd, ?_⟩
            have Mm := Mm.no qk
            refine goH T2_ok 200 rfl ?_
            repeat (first | (refine quietH rfl (fun w' hS => r_load T2_ok rfl rfl rfl (Bk.get (B4.no hS) rfl)) ?_; refine goH T2_ok 200 rfl ?_) | (refine quietH rfl (fun w' hS => r_loadA T2_ok rfl rfl rfl rfl (B4.no hS).all) ?_; refine goH T2_ok 200 rfl ?_) | (refine guardHA (b := true) rfl rfl rfl rfl (fun _ => ?_) (fun h => by cases h); refine goH T2_ok 200 rfl ?_))
            refine callE rfl rfl rfl (ok _ (by decide) rfl) (within_any o 0 1000000 _) ?_
            rintro x w ⟨rfl, rfl⟩
            refine ⟨qd, ?_⟩
            rw [decide_eq_true ho]
            refine goH T2_ok 200 rfl ?_
            repeat (first | (refine quietH rfl (fun w' hS => r_load T2_ok rfl rfl rfl (Bk.get (B4.no hS) rfl)) ?_; refine goH T2_ok 200 rfl ?_) | (refine quietH rfl (fun w' hS => r_loadA T2_ok rfl rfl rfl rfl (B4.no hS).all) ?_; refine goH T2_ok 200 rfl ?_) | (refine guardHA (b := true) rfl rfl rfl rfl (fun _ => ?_) (fun h => by cases h); refine goH T2_ok 200 rfl ?_))
            refine endH ?_
            refine go T2_ok 200 rfl ?_
            exact ret (ret2 (v := .pointer (some ⟨gg, 0, none⟩)) (x := .bool true) Try.results37 rfl rfl ⟨gg, mb, rfl, q.trans qd, by have := q.size; omega, by have := q.size; omega, by omega, Bg, Mm⟩)
          · refine segF rfl ?_
            refine goH T2_ok 200 rfl ?_
            repeat (first | (refine quietH rfl (fun w' hS => r_load T2_ok rfl rfl rfl (Bk.get (B4.no hS) rfl)) ?_; refine goH T2_ok 200 rfl ?_) | (refine quietH rfl (fun w' hS => r_loadA T2_ok rfl rfl rfl rfl (B4.no hS).all) ?_; refine goH T2_ok 200 rfl ?_) | (refine guardHA (b := true) rfl rfl rfl rfl (fun _ => ?_) (fun h => by cases h); refine goH T2_ok 200 rfl ?_))
            refine callE rfl rfl rfl (ok _ (by decide) rfl) (within_any o 0 1000000 _) ?_
            rintro x w ⟨rfl, rfl⟩
            refine ⟨qd, ?_⟩
            rw [decide_eq_true ho]
            refine goH T2_ok 200 rfl ?_
            repeat (first | (refine quietH rfl (fun w' hS => r_load T2_ok rfl rfl rfl (Bk.get (B4.no hS) rfl)) ?_; refine goH T2_ok 200 rfl ?_) | (refine quietH rfl (fun w' hS => r_loadA T2_ok rfl rfl rfl rfl (B4.no hS).all) ?_; refine goH T2_ok 200 rfl ?_) | (refine guardHA (b := true) rfl rfl rfl rfl (fun _ => ?_) (fun h => by cases h); refine goH T2_ok 200 rfl ?_))
            refine bxE rfl rfl rfl (cs := grL p bins be al t mb) rfl ?_
            intro gg w hgg hsg qk Bg
            have lgg := qd.size
            have lmm := Mm.lt
            have qd := qd.trans qk
            refine ⟨qd, ?_⟩
            have Mm := Mm.no qk
            refine goH T2_ok 200 rfl ?_
            repeat (first | (refine quietH rfl (fun w' hS => r_load T2_ok rfl rfl rfl (Bk.get (B4.no hS) rfl)) ?_; refine goH T2_ok 200 rfl ?_) | (refine quietH rfl (fun w' hS => r_loadA T2_ok rfl rfl rfl rfl (B4.no hS).all) ?_; refine goH T2_ok 200 rfl ?_) | (refine guardHA (b := true) rfl rfl rfl rfl (fun _ => ?_) (fun h => by cases h); refine goH T2_ok 200 rfl ?_))
            refine endH ?_
            refine go T2_ok 200 rfl ?_
            exact ret (ret2 (v := .pointer (some ⟨gg, 0, none⟩)) (x := .bool true) Try.results37 rfl rfl ⟨gg, mb, rfl, q.trans qd, by have := q.size; omega, by have := q.size; omega, by omega, Bg, Mm⟩)
      · refine segK rfl ?_
        refine goH T2_ok 200 rfl ?_
        repeat (first | (refine quietH rfl (fun w' hS => r_load T2_ok rfl rfl rfl (Bk.get (B4.no hS) rfl)) ?_; refine goH T2_ok 200 rfl ?_) | (refine quietH rfl (fun w' hS => r_loadA T2_ok rfl rfl rfl rfl (B4.no hS).all) ?_; refine goH T2_ok 200 rfl ?_) | (refine guardHA (b := true) rfl rfl rfl rfl (fun _ => ?_) (fun h => by cases h); refine goH T2_ok 200 rfl ?_))
        rw [w64_id (x := (bins.l.length : Int) - 1) (by omega) (by omega)]
        refine callE rfl rfl rfl (ok _ (by decide) rfl) (within_any bin 0 _ _) ?_
        rintro x w ⟨rfl, rfl⟩
        refine ⟨qd, ?_⟩
        rw [decide_eq_true hb]
        refine goH T2_ok 200 rfl ?_
        repeat (first | (refine quietH rfl (fun w' hS => r_load T2_ok rfl rfl rfl (Bk.get (B4.no hS) rfl)) ?_; refine goH T2_ok 200 rfl ?_) | (refine quietH rfl (fun w' hS => r_loadA T2_ok rfl rfl rfl rfl (B4.no hS).all) ?_; refine goH T2_ok 200 rfl ?_) | (refine guardHA (b := true) rfl rfl rfl rfl (fun _ => ?_) (fun h => by cases h); refine goH T2_ok 200 rfl ?_))
        refine forkK qd ?_ ?_
        · refine segK rfl ?_
          refine goH T2_ok 200 rfl ?_
          repeat (first | (refine quietH rfl (fun w' hS => r_load T2_ok rfl rfl rfl (Bk.get (B4.no hS) rfl)) ?_; refine goH T2_ok 200 rfl ?_) | (refine quietH rfl (fun w' hS => r_loadA T2_ok rfl rfl rfl rfl (B4.no hS).all) ?_; refine goH T2_ok 200 rfl ?_) | (refine guardHA (b := true) rfl rfl rfl rfl (fun _ => ?_) (fun h => by cases h); refine goH T2_ok 200 rfl ?_))
          refine mkME (kt := 3) rfl rfl ?_
          intro mb w hmb hsm qk Mm
          have lmb := qd.size
          have Mm := Mm EkI EbS
          have qd := qd.trans qk
          refine ⟨qd, ?_⟩
          refine goH T2_ok 200 rfl ?_
          repeat (first | (refine quietH rfl (fun w' hS => r_load T2_ok rfl rfl rfl (Bk.get (B4.no hS) rfl)) ?_; refine goH T2_ok 200 rfl ?_) | (refine quietH rfl (fun w' hS => r_loadA T2_ok rfl rfl rfl rfl (B4.no hS).all) ?_; refine goH T2_ok 200 rfl ?_) | (refine guardHA (b := true) rfl rfl rfl rfl (fun _ => ?_) (fun h => by cases h); refine goH T2_ok 200 rfl ?_))
          refine forkK qd ?_ ?_
          · refine segF rfl ?_
            refine goH T2_ok 200 rfl ?_
            repeat (first | (refine quietH rfl (fun w' hS => r_load T2_ok rfl rfl rfl (Bk.get (B4.no hS) rfl)) ?_; refine goH T2_ok 200 rfl ?_) | (refine quietH rfl (fun w' hS => r_loadA T2_ok rfl rfl rfl rfl (B4.no hS).all) ?_; refine goH T2_ok 200 rfl ?_) | (refine guardHA (b := true) rfl rfl rfl rfl (fun _ => ?_) (fun h => by cases h); refine goH T2_ok 200 rfl ?_))
            refine bxE rfl rfl rfl (cs := grL p bins be al t mb) rfl ?_
            intro gg w hgg hsg qk Bg
            have lgg := qd.size
            have lmm := Mm.lt
            have qd := qd.trans qk
            refine ⟨qd, ?_⟩
            have Mm := Mm.no qk
            refine goH T2_ok 200 rfl ?_
            repeat (first | (refine quietH rfl (fun w' hS => r_load T2_ok rfl rfl rfl (Bk.get (B4.no hS) rfl)) ?_; refine goH T2_ok 200 rfl ?_) | (refine quietH rfl (fun w' hS => r_loadA T2_ok rfl rfl rfl rfl (B4.no hS).all) ?_; refine goH T2_ok 200 rfl ?_) | (refine guardHA (b := true) rfl rfl rfl rfl (fun _ => ?_) (fun h => by cases h); refine goH T2_ok 200 rfl ?_))
            refine callE rfl rfl rfl (ok _ (by decide) rfl) (within_any o 0 1000000 _) ?_
            rintro x w ⟨rfl, rfl⟩
            refine ⟨qd, ?_⟩
            rw [decide_eq_true ho]
            refine goH T2_ok 200 rfl ?_
            repeat (first | (refine quietH rfl (fun w' hS => r_load T2_ok rfl rfl rfl (Bk.get (B4.no hS) rfl)) ?_; refine goH T2_ok 200 rfl ?_) | (refine quietH rfl (fun w' hS => r_loadA T2_ok rfl rfl rfl rfl (B4.no hS).all) ?_; refine goH T2_ok 200 rfl ?_) | (refine guardHA (b := true) rfl rfl rfl rfl (fun _ => ?_) (fun h => by cases h); refine goH T2_ok 200 rfl ?_))
            refine endH ?_
            refine go T2_ok 200 rfl ?_
            exact ret (ret2 (v := .pointer (some ⟨gg, 0, none⟩)) (x := .bool true) Try.results37 rfl rfl ⟨gg, mb, rfl, q.trans qd, by have := q.size; omega, by have := q.size; omega, by omega, Bg, Mm⟩)
          · refine segF rfl ?_
            refine goH T2_ok 200 rfl ?_
            repeat (first | (refine quietH rfl (fun w' hS => r_load T2_ok rfl rfl rfl (Bk.get (B4.no hS) rfl)) ?_; refine goH T2_ok 200 rfl ?_) | (refine quietH rfl (fun w' hS => r_loadA T2_ok rfl rfl rfl rfl (B4.no hS).all) ?_; refine goH T2_ok 200 rfl ?_) | (refine guardHA (b := true) rfl rfl rfl rfl (fun _ => ?_) (fun h => by cases h); refine goH T2_ok 200 rfl ?_))
            refine callE rfl rfl rfl (ok _ (by decide) rfl) (within_any o 0 1000000 _) ?_
            rintro x w ⟨rfl, rfl⟩
            refine ⟨qd, ?_⟩
            rw [decide_eq_true ho]
            refine goH T2_ok 200 rfl ?_
            repeat (first | (refine quietH rfl (fun w' hS => r_load T2_ok rfl rfl rfl (Bk.get (B4.no hS) rfl)) ?_; refine goH T2_ok 200 rfl ?_) | (refine quietH rfl (fun w' hS => r_loadA T2_ok rfl rfl rfl rfl (B4.no hS).all) ?_; refine goH T2_ok 200 rfl ?_) | (refine guardHA (b := true) rfl rfl rfl rfl (fun _ => ?_) (fun h => by cases h); refine goH T2_ok 200 rfl ?_))
            refine bxE rfl rfl rfl (cs := grL p bins be al t mb) rfl ?_
            intro gg w hgg hsg qk Bg
            have lgg := qd.size
            have lmm := Mm.lt
            have qd := qd.trans qk
            refine ⟨qd, ?_⟩
            have Mm := Mm.no qk
            refine goH T2_ok 200 rfl ?_
            repeat (first | (refine quietH rfl (fun w' hS => r_load T2_ok rfl rfl rfl (Bk.get (B4.no hS) rfl)) ?_; refine goH T2_ok 200 rfl ?_) | (refine quietH rfl (fun w' hS => r_loadA T2_ok rfl rfl rfl rfl (B4.no hS).all) ?_; refine goH T2_ok 200 rfl ?_) | (refine guardHA (b := true) rfl rfl rfl rfl (fun _ => ?_) (fun h => by cases h); refine goH T2_ok 200 rfl ?_))
            refine endH ?_
            refine go T2_ok 200 rfl ?_
            exact ret (ret2 (v := .pointer (some ⟨gg, 0, none⟩)) (x := .bool true) Try.results37 rfl rfl ⟨gg, mb, rfl, q.trans qd, by have := q.size; omega, by have := q.size; omega, by omega, Bg, Mm⟩)
        · refine segF rfl ?_
          refine goH T2_ok 200 rfl ?_
          repeat (first | (refine quietH rfl (fun w' hS => r_load T2_ok rfl rfl rfl (Bk.get (B4.no hS) rfl)) ?_; refine goH T2_ok 200 rfl ?_) | (refine quietH rfl (fun w' hS => r_loadA T2_ok rfl rfl rfl rfl (B4.no hS).all) ?_; refine goH T2_ok 200 rfl ?_) | (refine guardHA (b := true) rfl rfl rfl rfl (fun _ => ?_) (fun h => by cases h); refine goH T2_ok 200 rfl ?_))
          refine callE rfl rfl rfl (ok _ (by decide) rfl) (within_any o 0 1000000 _) ?_
          rintro x w ⟨rfl, rfl⟩
          refine ⟨qd, ?_⟩
          rw [decide_eq_true ho]
          refine goH T2_ok 200 rfl ?_
          repeat (first | (refine quietH rfl (fun w' hS => r_load T2_ok rfl rfl rfl (Bk.get (B4.no hS) rfl)) ?_; refine goH T2_ok 200 rfl ?_) | (refine quietH rfl (fun w' hS => r_loadA T2_ok rfl rfl rfl rfl (B4.no hS).all) ?_; refine goH T2_ok 200 rfl ?_) | (refine guardHA (b := true) rfl rfl rfl rfl (fun _ => ?_) (fun h => by cases h); refine goH T2_ok 200 rfl ?_))
          refine mkME (kt := 3) rfl rfl ?_
          intro mb w hmb hsm qk Mm
          have lmb := qd.size
          have Mm := Mm EkI EbS
          have qd := qd.trans qk
          refine ⟨qd, ?_⟩
          refine goH T2_ok 200 rfl ?_
          repeat (first | (refine quietH rfl (fun w' hS => r_load T2_ok rfl rfl rfl (Bk.get (B4.no hS) rfl)) ?_; refine goH T2_ok 200 rfl ?_) | (refine quietH rfl (fun w' hS => r_loadA T2_ok rfl rfl rfl rfl (B4.no hS).all) ?_; refine goH T2_ok 200 rfl ?_) | (refine guardHA (b := true) rfl rfl rfl rfl (fun _ => ?_) (fun h => by cases h); refine goH T2_ok 200 rfl ?_))
          refine bxE rfl rfl rfl (cs := grL p bins be al t mb) rfl ?_
          intro gg w hgg hsg qk Bg
          have lgg := qd.size
          have lmm := Mm.lt
          have qd := qd.trans qk
          refine ⟨qd, ?_⟩
          have Mm := Mm.no qk
          refine goH T2_ok 200 rfl ?_
          repeat (first | (refine quietH rfl (fun w' hS => r_load T2_ok rfl rfl rfl (Bk.get (B4.no hS) rfl)) ?_; refine goH T2_ok 200 rfl ?_) | (refine quietH rfl (fun w' hS => r_loadA T2_ok rfl rfl rfl rfl (B4.no hS).all) ?_; refine goH T2_ok 200 rfl ?_) | (refine guardHA (b := true) rfl rfl rfl rfl (fun _ => ?_) (fun h => by cases h); refine goH T2_ok 200 rfl ?_))
          refine endH ?_
          refine go T2_ok 200 rfl ?_
          exact ret (ret2 (v := .pointer (some ⟨gg, 0, none⟩)) (x := .bool true) Try.results37 rfl rfl ⟨gg, mb, rfl, q.trans qd, by have := q.size; omega, by have := q.size; omega, by omega, Bg, Mm⟩)

end Go.Proofs.Ytolhfimknimliaa
