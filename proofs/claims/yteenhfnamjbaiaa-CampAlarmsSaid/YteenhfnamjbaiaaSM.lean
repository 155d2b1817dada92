/- Plain specification and laws of supplies and schedules (layer 9). No walk in it. -/

namespace Go.Camp
structure Stk where
  ch : Int
  gas : Int
  dat : Int
deriving DecidableEq
structure Dy where
  slo : Int
  shi : Int
  llo : Int
  lhi : Int
  gas : Int
deriving DecidableEq
structure Sup where
  b : Stk
  room : Int
  store : Int
  run : Int
  idle : Int
  burn : Int
  dat : Int
  days : List Dy
def inR (x l h : Int) : Prop := l ≤ x ∧ x ≤ h
instance (x l h : Int) : Decidable (inR x l h) := by unfold inR; infer_instance
structure DyOk (d : Dy) : Prop where
  s0 : 0 ≤ d.slo
  s1 : d.slo ≤ d.shi
  s2 : d.shi ≤ 50
  l0 : 0 ≤ d.llo
  l1 : d.llo ≤ d.lhi
  l2 : d.lhi ≤ 50
  g0 : 0 ≤ d.gas
  g1 : d.gas ≤ 1000
structure SupOk (a : Sup) : Prop where
  r0 : 0 ≤ a.room
  r1 : a.room ≤ 50
  t0 : 0 ≤ a.store
  t1 : a.store ≤ 50
  c0 : 0 ≤ a.b.ch
  c1 : a.b.ch ≤ a.room
  g0 : 0 ≤ a.b.gas
  g1 : a.b.gas ≤ 1000
  d0 : 0 ≤ a.b.dat
  d1 : a.b.dat ≤ a.store
  i0 : 0 ≤ a.idle
  i1 : a.idle ≤ a.run
  u1 : a.run ≤ 50
  b0 : 0 ≤ a.burn
  b1 : a.burn ≤ 50
  a0 : 0 ≤ a.dat
  a1 : a.dat ≤ 50
  days : ∀ d ∈ a.days, DyOk d
  len : a.days.length ≤ 30
/-- the stock after a day, and whether the supply does not fail -/
def rawN (a : Sup) (d : Dy) (x : Stk) (run : Bool) (sun link : Int) : Stk :=
  ⟨x.ch + (sun - (if run then a.run else a.idle)), x.gas + d.gas - (if run then a.burn else 0), max 0 (x.dat + (if run then a.dat else 0) - link)⟩
def fineN (a : Sup) (y : Stk) : Bool := decide (0 ≤ y.ch) && (decide (0 ≤ y.gas) && decide (y.dat ≤ a.store))
def capN (a : Sup) (y : Stk) : Stk := ⟨min a.room y.ch, y.gas, y.dat⟩
def nextN (a : Sup) (d : Dy) (x : Stk) (run : Bool) (sun link : Int) : Stk := capN a (rawN a d x run sun link)
def okN (a : Sup) (d : Dy) (x : Stk) (run : Bool) (sun link : Int) : Bool := fineN a (rawN a d x run sun link)
/-- the stock after each day, up to that on which the supply fails; whether it fails -/
def runC (a : Sup) : List (Dy × Bool × Int × Int) → Stk → List Stk × Bool
  | [], _ => ([], false)
  | (d, r, s, l) :: xs, x => if okN a d x r s l then ((nextN a d x r s l) :: (runC a xs (nextN a d x r s l)).1, (runC a xs (nextN a d x r s l)).2) else ([], true)
def dayC (p : List Stk × Bool) : Int := if p.2 then (p.1.length : Int) else -1
/-- is a schedule safe? -/
def safeN (a : Sup) : List Dy → List Bool → Stk → Bool
  | d :: ds, r :: rs, x => okN a d x r d.slo d.llo && safeN a ds rs (nextN a d x r d.slo d.llo)
  | _, _, _ => true
def least (ds : List Dy) (rs : List Bool) : List (Dy × Bool × Int × Int) := (ds.zip rs).map fun p => (p.1, p.2, p.1.slo, p.1.llo)
theorem safe_run (a : Sup) : ∀ (ds : List Dy) (rs : List Bool) (x : Stk), safeN a ds rs x = !(runC a (least ds rs) x).2 := by
  intro ds
  induction ds with
  | nil => intro rs x; cases rs <;> rfl
  | cons d ds ih =>
    intro rs x
    cases rs with
    | nil => rfl
    | cons r rs =>
      show (okN a d x r d.slo d.llo && safeN a ds rs _) = !(runC a ((d, r, d.slo, d.llo) :: least ds rs) x).2
      unfold runC
      cases h : okN a d x r d.slo d.llo with
      | true => simp only [Bool.true_and, if_true]; exact ih rs _
      | false => simp
/-- a stock that is as good -/
def Le (x y : Stk) : Prop := x.ch ≤ y.ch ∧ x.gas ≤ y.gas ∧ y.dat ≤ x.dat
theorem Le.refl (x : Stk) : Le x x := ⟨Int.le_refl _, Int.le_refl _, Int.le_refl _⟩
theorem le_next {a a' : Sup} (h : a'.room = a.room ∧ a'.store = a.store ∧ a'.run = a.run ∧ a'.idle = a.idle ∧ a'.burn = a.burn ∧ a'.dat = a.dat) {d d' : Dy} (hd : d.gas ≤ d'.gas) {x x' : Stk} (hx : Le x x') {s s' l l' : Int} (hs : s ≤ s') (hl : l ≤ l') (r : Bool)
    (hf : okN a d x r s l = true) : okN a' d' x' r s' l' = true ∧ Le (nextN a d x r s l) (nextN a' d' x' r s' l') := by
  obtain ⟨h1, h2, h3, h4, h5, h6⟩ := h
  obtain ⟨x1, x2, x3⟩ := hx
  unfold okN fineN nextN capN rawN at *
  simp only [Bool.and_eq_true, decide_eq_true_eq, h1, h2, h3, h4, h5, h6, Le] at *
  cases r <;> simp at * <;> omega
/-- with as much or more of everything, what does not fail does not fail -/
theorem run_mono {a a' : Sup} (h : a'.room = a.room ∧ a'.store = a.store ∧ a'.run = a.run ∧ a'.idle = a.idle ∧ a'.burn = a.burn ∧ a'.dat = a.dat) : ∀ (xs ys : List (Dy × Bool × Int × Int)) (x x' : Stk), Le x x' → xs.length = ys.length →
    (∀ (i : Nat) (p q : Dy × Bool × Int × Int), xs[i]? = some p → ys[i]? = some q → p.1.gas ≤ q.1.gas ∧ p.2.1 = q.2.1 ∧ p.2.2.1 ≤ q.2.2.1 ∧ p.2.2.2 ≤ q.2.2.2) → (runC a xs x).2 = false → (runC a' ys x').2 = false := by
  intro xs
  induction xs with
  | nil => intro ys x x' _ hl _ _; cases ys with | nil => rfl | cons y ys => simp at hl
  | cons p xs ih =>
    intro ys x x' hx hl hp hr
    cases ys with
    | nil => simp at hl
    | cons q ys =>
      obtain ⟨d, r, s, l⟩ := p
      obtain ⟨d', r', s', l'⟩ := q
      have h0 := hp 0 (d, r, s, l) (d', r', s', l') rfl rfl
      simp only at h0
      obtain ⟨e1, e2, e3, e4⟩ := h0
      subst e2
      unfold runC at hr ⊢
      cases hk : okN a d x r s l with
      | false => rw [hk] at hr; simp at hr
      | true =>
        rw [hk] at hr
        simp only [if_true] at hr
        obtain ⟨g1, g2⟩ := le_next h e1 hx e3 e4 r hk
        rw [g1]
        simp only [if_true]
        exact ih ys _ _ g2 (by simpa using hl) (fun i p q h1 h2 => hp (i + 1) p q (by simpa using h1) (by simpa using h2)) hr
/-! ### The best schedule -/
def runs : List Bool → Nat
  | [] => 0
  | true :: l => runs l + 1
  | false :: l => runs l
/-- does a schedule come before another one? -/
def sooner : List Bool → List Bool → Bool
  | a :: l, b :: m => if a != b then a else sooner l m
  | _, _ => false
/-- on how many days the detector can run, -1 if the supply can fail -/
def most (a : Sup) : List Dy → Stk → Int
  | [], _ => 0
  | d :: ds, x =>
    let k1 := most a ds (nextN a d x true d.slo d.llo)
    let k2 := most a ds (nextN a d x false d.slo d.llo)
    let n1 := if okN a d x true d.slo d.llo then max (-1) (if 0 ≤ k1 then k1 + 1 else k1) else -1
    if okN a d x false d.slo d.llo then max n1 k2 else n1
/-- runs on the first day? -/
def runsN (a : Sup) (d : Dy) (ds : List Dy) (x : Stk) : Bool :=
  okN a d x true d.slo d.llo && (decide (0 ≤ most a ds (nextN a d x true d.slo d.llo)) && (most a ds (nextN a d x true d.slo d.llo) + 1 == most a (d :: ds) x))
def best (a : Sup) : List Dy → Stk → List Bool
  | [], _ => []
  | d :: ds, x => runsN a d ds x :: best a ds (nextN a d x (runsN a d ds x) d.slo d.llo)
theorem most_ge (a : Sup) : ∀ (ds : List Dy) (x : Stk), -1 ≤ most a ds x := by
  intro ds
  induction ds with
  | nil => intro x; simp [most]
  | cons d ds ih =>
    intro x
    have i1 := ih (nextN a d x true d.slo d.llo)
    have i2 := ih (nextN a d x false d.slo d.llo)
    unfold most
    simp only
    split <;> split <;> omega
theorem most_le (a : Sup) : ∀ (ds : List Dy) (x : Stk), most a ds x ≤ ds.length := by
  intro ds
  induction ds with
  | nil => intro x; simp [most]
  | cons d ds ih =>
    intro x
    have i1 := ih (nextN a d x true d.slo d.llo)
    have i2 := ih (nextN a d x false d.slo d.llo)
    unfold most
    simp only [List.length_cons]
    split <;> split <;> omega
theorem best_len (a : Sup) : ∀ (ds : List Dy) (x : Stk), (best a ds x).length = ds.length := by
  intro ds
  induction ds with
  | nil => intro x; rfl
  | cons d ds ih => intro x; simp [best, ih]
/-- each safe schedule has at most so many runs -/
theorem most_up (a : Sup) : ∀ (ds : List Dy) (x : Stk) (rs : List Bool), rs.length = ds.length → safeN a ds rs x = true → (runs rs : Int) ≤ most a ds x := by
  intro ds
  induction ds with
  | nil => intro x rs h _; cases rs with | nil => simp [runs, most] | cons r rs => simp at h
  | cons d ds ih =>
    intro x rs h hs
    cases rs with
    | nil => simp at h
    | cons r rs =>
      simp only [safeN, Bool.and_eq_true] at hs
      have i1 := ih _ rs (by simpa using h) hs.2
      unfold most
      simp only
      cases r with
      | true =>
        rw [hs.1, if_pos rfl, if_pos (show 0 ≤ most a ds (nextN a d x true d.slo d.llo) by omega)]
        simp only [runs]
        split <;> omega
      | false =>
        rw [hs.1, if_pos rfl]
        simp only [runs]
        omega
/-- the best schedule is safe, and has so many runs -/
theorem best_ok (a : Sup) : ∀ (ds : List Dy) (x : Stk), 0 ≤ most a ds x → safeN a ds (best a ds x) x = true ∧ (runs (best a ds x) : Int) = most a ds x := by
  intro ds
  induction ds with
  | nil => intro x _; exact ⟨rfl, rfl⟩
  | cons d ds ih =>
    intro x h
    have i1 := ih (nextN a d x true d.slo d.llo)
    have i2 := ih (nextN a d x false d.slo d.llo)
    have g1 := most_ge a ds (nextN a d x true d.slo d.llo)
    have g2 := most_ge a ds (nextN a d x false d.slo d.llo)
    have hm : most a (d :: ds) x = (let k1 := most a ds (nextN a d x true d.slo d.llo)
      let k2 := most a ds (nextN a d x false d.slo d.llo)
      let n1 := if okN a d x true d.slo d.llo then max (-1) (if 0 ≤ k1 then k1 + 1 else k1) else -1
      if okN a d x false d.slo d.llo then max n1 k2 else n1) := rfl
    simp only at hm
    cases hr : runsN a d ds x with
    | true =>
      simp only [runsN, Bool.and_eq_true, decide_eq_true_eq, beq_iff_eq] at hr
      obtain ⟨h1, h2, h3⟩ := hr
      have hr : runsN a d ds x = true := by simp [runsN, h1, h2, h3]
      obtain ⟨j1, j2⟩ := i1 h2
      refine ⟨?_, ?_⟩
      · simp only [best, hr, safeN, h1, j1, Bool.and_self]
      · simp only [best, hr, runs]; rw [← h3, ← j2]; push_cast; rfl
    | false =>
      have hk : okN a d x false d.slo d.llo = true ∧ most a (d :: ds) x = most a ds (nextN a d x false d.slo d.llo) := by
        rw [hm] at h ⊢
        have hr' : ¬ (okN a d x true d.slo d.llo = true ∧ 0 ≤ most a ds (nextN a d x true d.slo d.llo) ∧ most a ds (nextN a d x true d.slo d.llo) + 1 = most a (d :: ds) x) := by
          rintro ⟨h1, h2, h3⟩
          simp [runsN, h1, h2, h3] at hr
        rw [hm] at hr'
        cases hf : okN a d x false d.slo d.llo <;> cases ht : okN a d x true d.slo d.llo <;> simp only [hf, ht, if_true, if_false, Bool.false_eq_true, true_and, false_and, not_false_eq_true] at h hr' ⊢
        · omega
        · split at h <;> split at hr' <;> omega
        · omega
        · split at h <;> split at hr' <;> split <;> omega
      obtain ⟨h1, h2⟩ := hk
      rw [h2] at h
      obtain ⟨j1, j2⟩ := i2 h
      refine ⟨?_, ?_⟩
      · simp only [best, hr, safeN, h1, j1, Bool.and_self]
      · simp only [best, hr, runs]; rw [h2, ← j2]
/-- no safe schedule with as many runs comes before it -/
theorem best_first (a : Sup) : ∀ (ds : List Dy) (x : Stk) (rs : List Bool), rs.length = ds.length → safeN a ds rs x = true → (runs rs : Int) = most a ds x → sooner rs (best a ds x) = false := by
  intro ds
  induction ds with
  | nil => intro x rs h _ _; cases rs with | nil => rfl | cons r rs => simp at h
  | cons d ds ih =>
    intro x rs h hs hm
    cases rs with
    | nil => simp at h
    | cons r rs =>
      have hs' := hs
      simp only [safeN, Bool.and_eq_true] at hs
      have hl : rs.length = ds.length := by simpa using h
      have up := most_up a ds _ rs hl hs.2
      simp only [best, sooner]
      cases r with
      | true =>
        have ht : runsN a d ds x = true := by
          have hmu : most a (d :: ds) x = (let k1 := most a ds (nextN a d x true d.slo d.llo)
            let k2 := most a ds (nextN a d x false d.slo d.llo)
            let n1 := if okN a d x true d.slo d.llo then max (-1) (if 0 ≤ k1 then k1 + 1 else k1) else -1
            if okN a d x false d.slo d.llo then max n1 k2 else n1) := rfl
          simp only [hs.1, if_true] at hmu
          have hle : most a ds (nextN a d x true d.slo d.llo) + 1 ≤ most a (d :: ds) x := by
            rw [hmu]
            split <;> split <;> omega
          simp only [runs] at hm
          have : most a ds (nextN a d x true d.slo d.llo) + 1 = most a (d :: ds) x := by push_cast at hm; omega
          simp only [runsN, hs.1, this, Bool.true_and, Bool.and_eq_true, decide_eq_true_eq, beq_self_eq_true, and_true]
          omega
        rw [ht]
        simp only [bne_self_eq_false, Bool.false_eq_true, if_false]
        refine ih _ rs hl hs.2 ?_
        simp only [runsN, Bool.and_eq_true, beq_iff_eq] at ht
        simp only [runs] at hm
        have := ht.2.2
        push_cast at hm
        omega
      | false =>
        cases ht : runsN a d ds x with
        | true => simp
        | false =>
          simp only [bne_self_eq_false, Bool.false_eq_true, if_false]
          refine ih _ rs hl hs.2 ?_
          simp only [runs] at hm
          have hf2 : most a ds (nextN a d x false d.slo d.llo) ≤ most a (d :: ds) x := by
            have hmu : most a (d :: ds) x = (let k1 := most a ds (nextN a d x true d.slo d.llo)
              let k2 := most a ds (nextN a d x false d.slo d.llo)
              let n1 := if okN a d x true d.slo d.llo then max (-1) (if 0 ≤ k1 then k1 + 1 else k1) else -1
              if okN a d x false d.slo d.llo then max n1 k2 else n1) := rfl
            simp only [hs.1, if_true] at hmu
            rw [hmu]; omega
          omega
/-- which is the only such one -/
theorem sooner_total : ∀ (l m : List Bool), l.length = m.length → l ≠ m → sooner l m = true ∨ sooner m l = true := by
  intro l
  induction l with
  | nil => intro m h hne; cases m with | nil => exact absurd rfl hne | cons b m => simp at h
  | cons a l ih =>
    intro m h hne
    cases m with
    | nil => simp at h
    | cons b m =>
      simp only [sooner]
      by_cases e : a = b
      · subst e
        simp only [bne_self_eq_false, Bool.false_eq_true, if_false]
        exact ih m (by simpa using h) (fun e => hne (by rw [e]))
      · cases a <;> cases b <;> simp at e ⊢
end Go.Camp
namespace Go.Camp
structure Cl where
  opn : Int
  due : Int
  work : Int
deriving DecidableEq
structure Tr where
  ways : List (List Int)
  stops : List Cl
def wayT (t : Tr) (p q : Nat) : Int := ((t.ways[p]?).bind (·[q]?)).getD 0
def stopT (t : Tr) (i : Nat) : Cl := (t.stops[i]?).getD ⟨0, 0, 0⟩
structure TrOk (t : Tr) : Prop where
  n1 : 1 ≤ t.stops.length
  n8 : t.stops.length ≤ 8
  w : t.ways.length = t.stops.length + 1
  r : ∀ l ∈ t.ways, l.length = t.stops.length + 1 ∧ ∀ x ∈ l, 0 ≤ x ∧ x ≤ 1000000
  s : ∀ c ∈ t.stops, (0 ≤ c.opn ∧ c.opn ≤ c.due) ∧ c.due ≤ 1000000 ∧ 0 ≤ c.work ∧ c.work ≤ 1000000
/-- when one begins at a stop -/
def begT (t : Tr) (p i : Nat) (x : Int) : Int := max (stopT t i).opn (x + wayT t p (i + 1))
def okT (t : Tr) (p i : Nat) (x : Int) : Bool := decide (begT t p i x ≤ (stopT t i).due)
def leaveT (t : Tr) (p i : Nat) (x : Int) : Int := begT t p i x + (stopT t i).work
/-- the end of what is left of an order, if it is possible -/
def endT (t : Tr) : List Nat → Nat → Int → Option Int
  | [], p, x => some (x + wayT t p 0)
  | i :: l, p, x => if okT t p i x then endT t l (i + 1) (leaveT t p i x) else none
/-- when one begins at the stops -/
def begs (t : Tr) : List Nat → Nat → Int → List Int
  | [], _, _ => []
  | i :: l, p, x => begT t p i x :: begs t l (i + 1) (leaveT t p i x)
theorem begT_mono (t : Tr) (p i : Nat) {x y : Int} (h : x ≤ y) : begT t p i x ≤ begT t p i y := by unfold begT; omega
theorem okT_mono {t : Tr} {p i : Nat} {x y : Int} (h : x ≤ y) (hy : okT t p i y = true) : okT t p i x = true := by
  have := begT_mono t p i h
  unfold okT at *
  simp only [decide_eq_true_eq] at *
  omega
/-- who comes earlier ends no later -/
theorem endT_mono (t : Tr) : ∀ (l : List Nat) (p : Nat) (x y e : Int), x ≤ y → endT t l p y = some e → ∃ e', endT t l p x = some e' ∧ e' ≤ e := by
  intro l
  induction l with
  | nil => intro p x y e h he; simp only [endT, Option.some.injEq] at he; exact ⟨_, rfl, by omega⟩
  | cons i l ih =>
    intro p x y e h he
    simp only [endT] at he ⊢
    cases hy : okT t p i y with
    | false => rw [hy] at he; simp at he
    | true =>
      rw [hy] at he
      rw [okT_mono h hy]
      simp only [if_true] at he ⊢
      refine ih _ _ _ e ?_ he
      have := begT_mono t p i h
      unfold leaveT
      omega
/-! ### The search, and what it leaves out -/
def bit (d i : Nat) : Bool := d.testBit i
/-- what is known so far: for each set and place, 1 plus the time of leaving; the best order, and its end (-1: none) -/
structure Ms where
  early : List Int
  best : List Nat
  least : Int
def getE (e : List Int) (d p : Nat) : Int := (e[d * 9 + p]?).getD 0
/-- the search as the program does it: f = stops left -/
def moreR (t : Tr) : Nat → Nat → Nat → Int → List Nat → Ms → Ms
  | 0, d, p, x, now, s =>
    if 0 < getE s.early d p ∧ getE s.early d p ≤ x + 1 then s else
    if s.least < 0 ∨ x + wayT t p 0 < s.least then ⟨s.early.set (d * 9 + p) (x + 1), now, x + wayT t p 0⟩ else ⟨s.early.set (d * 9 + p) (x + 1), s.best, s.least⟩
  | f + 1, d, p, x, now, s =>
    if 0 < getE s.early d p ∧ getE s.early d p ≤ x + 1 then s else
    (List.range t.stops.length).foldl (fun s i => if d.testBit i then s else if okT t p i x then moreR t f (d ||| 2 ^ i) (i + 1) (leaveT t p i x) (now ++ [i]) s else s) ⟨s.early.set (d * 9 + p) (x + 1), s.best, s.least⟩
end Go.Camp
namespace Go.Camp
structure Sc where
  nx : List (Int × Int)
  al : List (Bool × Bool)
deriving DecidableEq
structure ScOk (s : Sc) : Prop where
  n1 : 1 ≤ s.nx.length
  n2 : s.nx.length ≤ 16384
  al : s.al.length = s.nx.length
  nx : ∀ p ∈ s.nx, (0 ≤ p.1 ∧ p.1 ≤ s.nx.length - 1) ∧ 0 ≤ p.2 ∧ p.2 ≤ s.nx.length - 1
/-- as defined for the program -/
abbrev Sc8 (s : Sc) : Prop := ScOk s ∧ s.nx.length ≤ 128
/-- where something first is -/
def ixN {α : Type} [DecidableEq α] (s : List α) (k : α) : Nat := s.idxOf k
/-- numbers of classes, in the order of their first -/
def clsS {α : Type} [DecidableEq α] (s : List α × List Nat) (k : α) : List α × List Nat :=
  if k ∈ s.1 then (s.1, s.2 ++ [ixN s.1 k]) else (s.1 ++ [k], s.2 ++ [s.1.length])
def clsP {α : Type} [DecidableEq α] (ks : List α) : List α × List Nat := ks.foldl clsS ([], [])
theorem clsP_snoc {α : Type} [DecidableEq α] (ks : List α) (k : α) : clsP (ks ++ [k]) = clsS (clsP ks) k := by simp [clsP, List.foldl_append]
theorem cls_inv {α : Type} [DecidableEq α] (P : List α → List α × List Nat → Prop) (h0 : P [] ([], [])) (hs : ∀ ks k s, P ks s → P (ks ++ [k]) (clsS s k)) (ks : List α) : P ks (clsP ks) := by
  have h : ∀ l : List α, P l.reverse (clsP l.reverse) := by
    intro l
    induction l with
    | nil => exact h0
    | cons k l ih => rw [List.reverse_cons, clsP_snoc]; exact hs _ _ _ ih
  have := h ks.reverse
  rwa [List.reverse_reverse] at this
theorem cls_len {α : Type} [DecidableEq α] (ks : List α) : (clsP ks).2.length = ks.length := by
  refine cls_inv (α := α) (fun ks s => s.2.length = ks.length) rfl (fun ks k s h => ?_) ks
  unfold clsS
  split <;> simp [h]
end Go.Camp
namespace Go.Camp
/-- where one comes from a state -/
def nxA (s : Sc) (x : Nat) : Nat × Nat := match s.nx[x]? with | some p => (p.1.toNat, p.2.toNat) | none => (0, 0)
def addN (l : List Nat) (k : Nat) : List Nat := if k ∈ l then l else l ++ [k]
/-- the states that are reached, in their order -/
def reachR (s : Sc) : Nat → Nat → List Nat → List Nat
  | 0, _, l => l
  | f + 1, i, l => match l[i]? with | none => l | some x => reachR s f (i + 1) (addN (addN l (nxA s x).1) (nxA s x).2)
def reachP (s : Sc) : List Nat := reachR s s.nx.length 0 [0]
/-- the alarms of a state -/
def alA (s : Sc) (x : Nat) : Bool × Bool := (s.al[x]?).getD (false, false)
/-- a key of a state's class and its heirs' -/
def key2 (s : Sc) (ofv : List Nat) (x c : Nat) : Nat × Nat × Nat := (c, ofv.getD (nxA s x).1 0, ofv.getD (nxA s x).2 0)
/-- a list of some of n states -/
structure Among (n : Nat) (l : List Nat) : Prop where
  nd : l.Nodup
  lt : ∀ x ∈ l, x < n
theorem nodup_len : ∀ (n : Nat) (l : List Nat), l.Nodup → (∀ x ∈ l, x < n) → l.length ≤ n := by
  intro n
  induction n with
  | zero => intro l _ h; cases l with | nil => simp | cons a l => exact absurd (h a (by simp)) (by omega)
  | succ n ih =>
    intro l hd h
    by_cases hn : n ∈ l
    · have h1 := ih (l.erase n) (hd.erase n) (fun x hx => by
        have h2 := (hd.mem_erase_iff).1 hx
        have := h x h2.2
        have := h2.1
        omega)
      rw [List.length_erase_of_mem hn] at h1
      omega
    · have := ih l hd (fun x hx => by
        have := h x hx
        have : x ≠ n := fun e => hn (e ▸ hx)
        omega)
      omega
theorem Among.len {n : Nat} {l : List Nat} (h : Among n l) : l.length ≤ n := nodup_len n l h.nd h.lt
theorem Among.add {n : Nat} {l : List Nat} (h : Among n l) {k : Nat} (hk : k < n) : Among n (addN l k) := by
  unfold addN
  split
  · exact h
  · rename_i hn
    refine ⟨?_, fun x hx => ?_⟩
    · rw [List.nodup_append]
      exact ⟨h.nd, by simp, fun a ha b hb e => by simp at hb; subst hb; subst e; exact hn ha⟩
    · rcases List.mem_append.1 hx with hx | hx
      · exact h.lt x hx
      · simp at hx; omega
theorem nxA_lt {s : Sc} (h : ScOk s) (x : Nat) : (nxA s x).1 < s.nx.length ∧ (nxA s x).2 < s.nx.length := by
  unfold nxA
  have := h.n1
  cases hx : s.nx[x]? with
  | none => exact ⟨by show 0 < _; omega, by show 0 < _; omega⟩
  | some p =>
    have := h.nx p (List.mem_of_getElem? hx)
    exact ⟨by show p.1.toNat < _; omega, by show p.2.toNat < _; omega⟩
theorem addN_get {l : List Nat} {i x k : Nat} (h : l[i]? = some x) : (addN l k)[i]? = some x := by
  unfold addN
  split
  · exact h
  · rw [List.getElem?_append_left (List.getElem?_eq_some_iff.1 h).1]; exact h
end Go.Camp
namespace Go.Camp
/-- the classes of states, state by state -/
def ofU (S cls ofv : List Nat) : List Nat := (S.zip cls).foldl (fun o xc => o.set xc.1 xc.2) ofv
def keys2 (s : Sc) (S cls o : List Nat) : List (Nat × Nat × Nat) := (S.zip cls).map fun xc => key2 s o xc.1 xc.2
/-- the classes are told apart as long as there are more -/
def smR (s : Sc) (S : List Nat) : Nat → Nat → List Nat → List Nat → List Nat × List Nat × Nat
  | 0, many, cls, ofv => (cls, ofv, many)
  | f + 1, many, cls, ofv => if (clsP (keys2 s S cls (ofU S cls ofv))).1.length = many then ((clsP (keys2 s S cls (ofU S cls ofv))).2, ofU S cls ofv, many) else smR s S f (clsP (keys2 s S cls (ofU S cls ofv))).1.length (clsP (keys2 s S cls (ofU S cls ofv))).2 (ofU S cls ofv)
def nxU (s : Sc) (S cls o : List Nat) (many : Nat) : List (Int × Int) := (S.zip cls).foldl (fun l xc => l.set xc.2 (((o.getD (nxA s xc.1).1 0 : Nat) : Int), ((o.getD (nxA s xc.1).2 0 : Nat) : Int))) (List.replicate many (0, 0))
def alU (s : Sc) (S cls : List Nat) (many : Nat) : List (Bool × Bool) := (S.zip cls).foldl (fun l xc => l.set xc.2 (alA s xc.1)) (List.replicate many (false, false))
def smE (s : Sc) : List Nat × List Nat × Nat := smR s (reachP s) (s.nx.length + 1) (clsP ((reachP s).map (alA s))).1.length (clsP ((reachP s).map (alA s))).2 (List.replicate s.nx.length 0)
def smallP (s : Sc) : Sc := ⟨nxU s (reachP s) (smE s).1 (ofU (reachP s) (smE s).1 (smE s).2.1) (smE s).2.2, alU s (reachP s) (smE s).1 (smE s).2.2⟩
theorem reachR_among {s : Sc} (h : ScOk s) : ∀ (f i : Nat) (l : List Nat), Among s.nx.length l → Among s.nx.length (reachR s f i l) := by
  intro f
  induction f with
  | zero => intro i l hl; exact hl
  | succ f ih =>
    intro i l hl
    unfold reachR
    split
    · exact hl
    · rename_i x hx
      exact ih _ _ ((hl.add (nxA_lt h x).1).add (nxA_lt h x).2)
theorem reach_among {s : Sc} (h : ScOk s) : Among s.nx.length (reachP s) := reachR_among h _ _ _ ⟨by simp, fun x hx => by have := h.n1; simp at hx; omega⟩
theorem ofU_len (S cls ofv : List Nat) : (ofU S cls ofv).length = ofv.length := by
  unfold ofU
  generalize S.zip cls = L
  induction L generalizing ofv with
  | nil => rfl
  | cons a l ih => rw [List.foldl_cons, ih]; simp
theorem keys2_len {s : Sc} {S cls o : List Nat} (h : cls.length = S.length) : (keys2 s S cls o).length = S.length := by simp [keys2, h]
/-- what the numbering of classes keeps -/
structure ClsOk {α : Type} (ks : List α) (N : List α × List Nat) : Prop where
  lt : ∀ c ∈ N.2, c < N.1.length
  cov : ∀ c, c < N.1.length → c ∈ N.2
  sub : ∀ k ∈ ks, k ∈ N.1
  len : N.1.length ≤ ks.length
  same : ∀ (i : Nat) (k : α) (c : Nat), ks[i]? = some k → N.2[i]? = some c → N.1[c]? = some k
theorem clsOk {α : Type} [DecidableEq α] (ks : List α) : ClsOk ks (clsP ks) ∧ (clsP ks).2.length = ks.length := by
  refine cls_inv (α := α) (fun ks N => ClsOk ks N ∧ N.2.length = ks.length) ⟨⟨by simp, by simp, by simp, by simp, by simp⟩, rfl⟩ (fun ks k N ih => ?_) ks
  obtain ⟨⟨h1, h2, h3, h4, h5⟩, hl⟩ := ih
  unfold clsS
  by_cases hk : k ∈ N.1
  · rw [if_pos hk]
    have hix : ixN N.1 k < N.1.length := List.idxOf_lt_length_of_mem hk
    have hget : N.1[ixN N.1 k]? = some k := by
      rw [List.getElem?_eq_getElem hix]
      exact congrArg some (List.getElem_idxOf hix)
    refine ⟨⟨fun c hc => ?_, fun c hc => List.mem_append_left _ (h2 c hc), fun x hx => ?_, by rw [List.length_append]; show N.1.length ≤ _; omega, fun i x c hx hc => ?_⟩, by simp [hl]⟩
    · rcases List.mem_append.1 hc with hc | hc
      · exact h1 c hc
      · simp at hc; subst hc; exact hix
    · rcases List.mem_append.1 hx with hx | hx
      · exact h3 x hx
      · simp at hx; subst hx; exact hk
    · rcases Nat.lt_or_ge i ks.length with hi | hi
      · rw [List.getElem?_append_left hi] at hx
        rw [List.getElem?_append_left (by omega)] at hc
        exact h5 i x c hx hc
      · have hi' : i = ks.length := by have := (List.getElem?_eq_some_iff.1 hx).1; simp at this; omega
        subst hi'
        rw [List.getElem?_append_right (Nat.le_refl _), Nat.sub_self] at hx
        rw [← hl, List.getElem?_append_right (Nat.le_refl _), Nat.sub_self] at hc
        simp at hx hc
        subst hx; subst hc
        exact hget
  · rw [if_neg hk]
    refine ⟨⟨fun c hc => ?_, fun c hc => ?_, fun x hx => ?_, by simp; omega, fun i x c hx hc => ?_⟩, by simp [hl]⟩
    · rw [List.length_append]
      rcases List.mem_append.1 hc with hc | hc
      · have := h1 c hc; omega
      · simp at hc; subst hc; simp
    · rw [List.length_append] at hc
      simp at hc
      rcases Nat.lt_or_ge c N.1.length with h | h
      · exact List.mem_append_left _ (h2 c h)
      · obtain rfl : c = N.1.length := by omega
        exact List.mem_append_right _ (by simp)
    · rcases List.mem_append.1 hx with hx | hx
      · exact List.mem_append_left _ (h3 x hx)
      · exact List.mem_append_right _ hx
    · rcases Nat.lt_or_ge i ks.length with hi | hi
      · rw [List.getElem?_append_left hi] at hx
        rw [List.getElem?_append_left (by omega)] at hc
        have := h5 i x c hx hc
        show (N.1 ++ [k])[c]? = some x
        rw [List.getElem?_append_left (List.getElem?_eq_some_iff.1 this).1]
        exact this
      · have hi' : i = ks.length := by have := (List.getElem?_eq_some_iff.1 hx).1; simp at this; omega
        subst hi'
        rw [List.getElem?_append_right (Nat.le_refl _), Nat.sub_self] at hx
        rw [← hl, List.getElem?_append_right (Nat.le_refl _), Nat.sub_self] at hc
        simp at hx hc
        subst hx; subst hc
        simp
theorem cover_len : ∀ (n : Nat) (l : List Nat), (∀ c, c < n → c ∈ l) → n ≤ l.length := by
  intro n
  induction n with
  | zero => intro l _; exact Nat.zero_le _
  | succ n ih =>
    intro l h
    have hn := h n (Nat.lt_succ_self n)
    have := ih (l.erase n) (fun c hc => (List.mem_erase_of_ne (by omega)).2 (h c (by omega)))
    rw [List.length_erase_of_mem hn] at this
    have := List.length_pos_of_mem hn
    omega
/-- there are no fewer classes -/
theorem more_cls {s : Sc} {S cls o : List Nat} {many : Nat} (hl : cls.length = S.length) (hc : ∀ c, c < many → c ∈ cls) : many ≤ (clsP (keys2 s S cls o)).1.length := by
  have h := (clsOk (keys2 s S cls o)).1
  have := cover_len many ((clsP (keys2 s S cls o)).1.map (·.1)) (fun c hlt => by
    obtain ⟨i, hi⟩ := List.getElem?_of_mem (hc c hlt)
    have hi1 := (List.getElem?_eq_some_iff.1 hi).1
    have hx : ∃ x, S[i]? = some x := ⟨_, List.getElem?_eq_getElem (by omega)⟩
    obtain ⟨x, hx⟩ := hx
    have hk : (key2 s o x c) ∈ keys2 s S cls o := by
      refine List.mem_map.2 ⟨(x, c), ?_, rfl⟩
      exact List.mem_of_getElem? (i := i) (by rw [List.getElem?_zip_eq_some]; exact ⟨hx, hi⟩)
    exact List.mem_map.2 ⟨_, h.sub _ hk, rfl⟩)
  simpa using this
end Go.Camp
namespace Go.Camp
/-- how many of the first bits are set, and one -/
def grainsN (last set : Nat) : Nat := (List.range last).foldl (fun n i => n + (if set.testBit i then 1 else 0)) 1
theorem grainsN_succ (last set : Nat) : grainsN (last + 1) set = grainsN last set + (if set.testBit last then 1 else 0) := by simp [grainsN, List.range_succ, List.foldl_append]
theorem grainsN_le (last set : Nat) : grainsN last set ≤ last + 1 := by
  induction last with
  | zero => exact Nat.le_refl _
  | succ n ih => rw [grainsN_succ]; split <;> omega
/-- the successors and the alarms of what a tracker has seen -/
def trNx (last set : Nat) : Int × Int := (((set * 2 % 2 ^ last : Nat) : Int), (((set * 2 + 1) % 2 ^ last : Nat) : Int))
def trAl (need last set : Nat) : Bool × Bool := (false, decide (need ≤ grainsN last set))
/-- a tracker that sees its first n sets of slots -/
def trRaw (need last n : Nat) : Sc := ⟨(List.range n).map (trNx last), (List.range n).map (trAl need last)⟩
def trackP (need gap : Nat) : Sc := smallP (trRaw need (need + gap - 1) (2 ^ (need + gap - 1)))
theorem trRaw_ok {need last : Nat} (h : last ≤ 7) : ScOk (trRaw need last (2 ^ last)) := by
  have hp : 2 ^ last ≤ 128 := Nat.le_trans (Nat.pow_le_pow_right (by decide) h) (by decide)
  have hp0 : 0 < 2 ^ last := Nat.pow_pos (by decide)
  have hl : (trRaw need last (2 ^ last)).nx.length = 2 ^ last := by simp [trRaw]
  refine ⟨by omega, by omega, by simp [trRaw], fun p hp => ?_⟩
  rw [hl]
  simp only [trRaw, List.mem_map] at hp
  obtain ⟨s, _, rfl⟩ := hp
  have h1 := Nat.mod_lt (s * 2) hp0
  have h2 := Nat.mod_lt (s * 2 + 1) hp0
  unfold trNx
  simp only
  generalize s * 2 % 2 ^ last = a at *
  generalize (s * 2 + 1) % 2 ^ last = b at *
  generalize 2 ^ last = k at *
  omega
end Go.Camp
namespace Go.Camp
/-- a pair of states that is come to, with the cells that lead to it -/
abbrev Wy := Nat × Nat × List Bool
def nxC (s : Sc) (x : Nat) (c : Bool) : Nat := if c then (nxA s x).2 else (nxA s x).1
def alC (s : Sc) (x : Nat) (c : Bool) : Bool := if c then (alA s x).2 else (alA s x).1
def keyW (w : Wy) : Nat × Nat := (w.1, w.2.1)
def addW (L : List Wy) (w : Wy) : List Wy := if keyW w ∈ L.map keyW then L else L ++ [w]
def heirW (a b : Sc) (w : Wy) (c : Bool) : Wy := (nxC a w.1 c, nxC b w.2.1 c, w.2.2 ++ [c])
def diffW (a b : Sc) (w : Wy) (c : Bool) : Bool := alC a w.1 c != alC b w.2.1 c
/-- one after the other; the pairs that are come to wait behind -/
def difR (a b : Sc) : Nat → Nat → List Wy → Option (List Bool)
  | 0, _, _ => none
  | f + 1, i, L => match L[i]? with
    | none => none
    | some w => if diffW a b w false then some (w.2.2 ++ [false]) else
      if diffW a b w true then some (w.2.2 ++ [true]) else difR a b f (i + 1) (addW (addW L (heirW a b w false)) (heirW a b w true))
def difP (a b : Sc) : Option (List Bool) := difR a b (a.nx.length * b.nx.length) 0 [(0, 0, [])]
structure AmW (n m : Nat) (L : List Wy) : Prop where
  nd : (L.map keyW).Nodup
  lt : ∀ w ∈ L, w.1 < n ∧ w.2.1 < m
  cl : ∀ (j : Nat) (w : Wy), L[j]? = some w → w.2.2.length ≤ j
theorem enc_inj {m x y x' y' : Nat} (hy : y < m) (hy' : y' < m) (h : x * m + y = x' * m + y') : x = x' ∧ y = y' := by
  have hm : 0 < m := by omega
  have e1 : (x * m + y) / m = x := by rw [Nat.mul_comm, Nat.mul_add_div hm, Nat.div_eq_of_lt hy, Nat.add_zero]
  have e2 : (x' * m + y') / m = x' := by rw [Nat.mul_comm, Nat.mul_add_div hm, Nat.div_eq_of_lt hy', Nat.add_zero]
  rw [h, e2] at e1
  subst e1
  exact ⟨rfl, by omega⟩
theorem AmW.len {n m : Nat} {L : List Wy} (h : AmW n m L) : L.length ≤ n * m := by
  have h1 : (L.map fun w => w.1 * m + w.2.1).Nodup := by
    have := h.nd
    rw [List.Nodup, List.pairwise_map] at this ⊢
    refine this.imp_of_mem fun {a b} ha hb hne he => hne ?_
    obtain ⟨e1, e2⟩ := enc_inj (h.lt a ha).2 (h.lt b hb).2 he
    unfold keyW
    rw [e1, e2]
  have := nodup_len (n * m) _ h1 (fun x hx => by
    obtain ⟨w, hw, rfl⟩ := List.mem_map.1 hx
    obtain ⟨h2, h3⟩ := h.lt w hw
    have : w.1 * m + m ≤ n * m := by rw [← Nat.succ_mul]; exact Nat.mul_le_mul_right _ h2
    show w.1 * m + w.2.1 < n * m
    omega)
  rwa [List.length_map] at this
theorem AmW.add {n m : Nat} {L : List Wy} (h : AmW n m L) {w : Wy} (h1 : w.1 < n) (h2 : w.2.1 < m) (h3 : w.2.2.length ≤ L.length) : AmW n m (addW L w) := by
  unfold addW
  split
  · exact h
  · rename_i hn
    refine ⟨?_, fun x hx => ?_, fun j x hx => ?_⟩
    · rw [List.map_append, List.nodup_append]
      exact ⟨h.nd, by simp, fun a ha b hb e => by simp at hb; subst hb; subst e; exact hn ha⟩
    · rcases List.mem_append.1 hx with hx | hx
      · exact h.lt x hx
      · rw [List.mem_singleton] at hx; subst hx; exact ⟨h1, h2⟩
    · rcases Nat.lt_or_ge j L.length with hj | hj
      · rw [List.getElem?_append_left hj] at hx; exact h.cl j x hx
      · rw [List.getElem?_append_right hj] at hx
        have hl := (List.getElem?_eq_some_iff.1 hx).1
        simp at hl
        rw [show j - L.length = 0 by omega] at hx
        simp at hx
        subst hx
        omega
theorem addW_len (L : List Wy) (w : Wy) : L.length ≤ (addW L w).length := by
  unfold addW
  split
  · exact Nat.le_refl _
  · rw [List.length_append]; omega
theorem addW_get {L : List Wy} {i : Nat} {x k : Wy} (h : L[i]? = some x) : (addW L k)[i]? = some x := by
  unfold addW
  split
  · exact h
  · rw [List.getElem?_append_left (List.getElem?_eq_some_iff.1 h).1]; exact h
theorem addW_drop {L : List Wy} {i : Nat} {k : Wy} (h : i ≤ L.length) (hn : keyW k ∉ L.map keyW) : (addW L k).drop i = L.drop i ++ [k] := by
  unfold addW
  rw [if_neg hn, List.drop_append_of_le_length h]
theorem nxC_lt {s : Sc} (h : ScOk s) (x : Nat) (c : Bool) : nxC s x c < s.nx.length := by
  unfold nxC
  have := nxA_lt h x
  split
  · exact this.2
  · exact this.1
end Go.Camp
