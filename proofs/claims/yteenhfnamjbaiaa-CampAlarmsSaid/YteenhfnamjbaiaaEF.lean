/- A step calculus over the kit's 'wp': regions whose order forks in three. No statement about the program is in it. -/
import Derived.Test.YteenhfnamjbaiaaE5
namespace Go.Ev.F3
open Go.Ev
inductive Tr where
  | fin (r : List (Nat × Bool))
  | fork (r : List (Nat × Bool)) (a b : Tr)
  | fork3 (r : List (Nat × Bool)) (a b c : Tr)
def Tr.seg : Tr → List (Nat × Bool)
  | .fin r => r
  | .fork r _ _ => r
  | .fork3 r _ _ _ => r
def Tr.len : Tr → Nat
  | .fin r => r.length
  | .fork r a _ => r.length + a.len
  | .fork3 r a _ _ => r.length + a.len
def Tr.ok (ops : Array Oper) : Bool → Tr → Array Bool → Bool
  | ff, .fin r, L => segOk ops ff r L && (Region.ready .any ops (listS r L) == [])
  | ff, .fork r a b, L => segOk ops ff r L && (Nat.beq a.len b.len && (match headOf a.seg, headOf b.seg with
      | some i, some j => Region.ready .any ops (listS r L) == [i, j]
      | _, _ => false) && (a.ok ops true (listS r L) && b.ok ops true (listS r L)))
  | ff, .fork3 r a b c, L => segOk ops ff r L && ((Nat.beq a.len b.len && (Nat.beq a.len c.len && (match headOf a.seg, headOf b.seg, headOf c.seg with
      | some i, some j, some z => Region.ready .any ops (listS r L) == [i, j, z]
      | _, _, _ => false))) && (a.ok ops true (listS r L) && (b.ok ops true (listS r L) && c.ok ops true (listS r L))))
section
variable {P : Program} {n : Nat} {R : Env → World → Prop} {fr : Fra} {S : World → Prop} {all : Array Oper} {k : List It} {ρ : Env} {dec : List Nat} {w : World}
def TrAt (P : Program) (n : Nat) (R : Env → World → Prop) (fr : Fra) (S : World → Prop) (all : Array Oper) (k : List It) : Tr → Env → World → Prop
  | .fin r, ρ, w => ∃ l, pickO all.toList r = some l ∧ AtH P n R fr S all l k ρ [] w
  | .fork r a b, ρ, w => ∃ l, pickO all.toList r = some l ∧ AtH P n R fr S all l [.lp fr.2 (fun ρ' w' => S w' ∧ (TrAt P n R fr S all k a ρ' w' ∧ TrAt P n R fr S all k b ρ' w'))] ρ [] w
  | .fork3 r a b c, ρ, w => ∃ l, pickO all.toList r = some l ∧ AtH P n R fr S all l [.lp fr.2 (fun ρ' w' => S w' ∧ (TrAt P n R fr S all k a ρ' w' ∧ TrAt P n R fr S all k b ρ' w' ∧ TrAt P n R fr S all k c ρ' w'))] ρ [] w
theorem tr_sound (hnd : noDefer all.toList = true) (hs : Region.noSelect all = true) : ∀ (t : Tr) (L : Array Bool) (ρ : Env) (w : World), S w → TrAt P n R fr S all k t ρ w →
    (t.ok all false L = true → anyH P fr.1 .any all (Lq P n R fr.1 k) S t.len L (F fr.2 n ρ) w) ∧
    (∀ i, t.ok all true L = true → headOf t.seg = some i → wpOpIn (fen fr.1) 0 P all (Lq P n R fr.1 k) i (fun a' w' => (S w' ∨ ∀ o, all[i]? = some o → lastOk .any all o = true) ∧ anyH P fr.1 .any all (Lq P n R fr.1 k) S (t.len - 1) (L.setIfInBounds i true) a' w') (F fr.2 n ρ) w) := by
  have head : ∀ {r : List (Nat × Bool)} {i : Nat}, headOf r = some i → ∃ r', r = (i, false) :: r' := by
    intro r i h
    unfold headOf at h
    split at h
    · cases h; exact ⟨_, rfl⟩
    · cases h
  intro t
  induction t with
  | fin r =>
    intro L ρ w hS ⟨l, hl, h⟩
    refine ⟨fun hc => ?_, fun i hc hh => ?_⟩
    · simp only [Tr.ok, Bool.and_eq_true, beq_iff_eq] at hc
      have := seg_run (m := 0) (k' := k) (k := k) hnd hs (fun ρ w h => anyH_done hc.2 ⟨ρ, _, rfl, h⟩ 0) r l L ρ w hl hc.1 rfl (.inl hS) h
      simpa [Tr.len] using this
    · obtain ⟨r', rfl⟩ := head hh
      simp only [Tr.ok, segOk, Bool.true_or, Bool.true_and, Bool.and_eq_true, beq_iff_eq] at hc
      have := seg_first (m := 0) (k' := k) (k := k) (L := L) hnd hs (fun l ρ w hl hS' h => seg_run hnd hs (fun ρ w h => anyH_done hc.2 ⟨ρ, _, rfl, h⟩ 0) r' l _ ρ w hl hc.1 rfl hS' h) hl hS h
      simpa [Tr.len] using this
  | fork r a b iha ihb =>
    intro L ρ w hS ⟨l, hl, h⟩
    have fork : ∀ fin, Nat.beq a.len b.len = true → (match headOf a.seg, headOf b.seg with
      | some i, some j => Region.ready .any all fin == [i, j]
      | _, _ => false) = true → a.ok all true fin = true → b.ok all true fin = true →
        ∀ ρ w, (dn P n R fr.1 [.lp fr.2 (fun ρ' w' => S w' ∧ (TrAt P n R fr S all k a ρ' w' ∧ TrAt P n R fr S all k b ρ' w'))]).N fr.2 ρ w → anyH P fr.1 .any all (Lq P n R fr.1 k) S a.len fin (F fr.2 n ρ) w := by
      rintro fin hlen hm ha hb ρ w ⟨_, hS, ta, tb⟩
      have hlen := Nat.eq_of_beq_eq_true hlen
      split at hm
      · rename_i i j hi hj
        have hpos : 0 < a.len := by
          obtain ⟨r', hr'⟩ := head hi
          cases a with
          | fin r => simp only [Tr.seg] at hr'; subst hr'; simp [Tr.len]
          | fork r x y => simp only [Tr.seg] at hr'; subst hr'; simp [Tr.len]; omega
          | fork3 r x y z => simp only [Tr.seg] at hr'; subst hr'; simp [Tr.len]; omega
        rw [show a.len = (a.len - 1) + 1 by omega]
        refine anyH_all (by simpa using hm) (by simp) fun x hx => ?_
        simp only [List.mem_cons, List.not_mem_nil, or_false] at hx
        rcases hx with rfl | rfl
        · exact (iha fin ρ w hS ta).2 _ ha hi
        · rw [hlen]
          exact (ihb fin ρ w hS tb).2 _ hb hj
      · cases hm
    refine ⟨fun hc => ?_, fun i hc hh => ?_⟩
    · simp only [Tr.ok, Bool.and_eq_true] at hc
      exact seg_run (m := a.len) hnd hs (fork _ hc.2.1.1 hc.2.1.2 hc.2.2.1 hc.2.2.2) r l L ρ w hl hc.1 rfl (.inl hS) h
    · obtain ⟨r', rfl⟩ := head hh
      simp only [Tr.ok, segOk, Bool.true_or, Bool.true_and, Bool.and_eq_true] at hc
      have := seg_first (m := a.len) (L := L) hnd hs (fun l ρ w hl hS' h => seg_run hnd hs (fork _ hc.2.1.1 hc.2.1.2 hc.2.2.1 hc.2.2.2) r' l _ ρ w hl hc.1 rfl hS' h) hl hS h
      have e : (Tr.fork ((i, false) :: r') a b).len - 1 = r'.length + a.len := by simp only [Tr.len, List.length_cons]; omega
      rw [e]
      exact this
  | fork3 r a b c iha ihb ihc =>
    intro L ρ w hS ⟨l, hl, h⟩
    have fork : ∀ fin, Nat.beq a.len b.len = true → Nat.beq a.len c.len = true → (match headOf a.seg, headOf b.seg, headOf c.seg with
      | some i, some j, some z => Region.ready .any all fin == [i, j, z]
      | _, _, _ => false) = true → a.ok all true fin = true → b.ok all true fin = true → c.ok all true fin = true →
        ∀ ρ w, (dn P n R fr.1 [.lp fr.2 (fun ρ' w' => S w' ∧ (TrAt P n R fr S all k a ρ' w' ∧ TrAt P n R fr S all k b ρ' w' ∧ TrAt P n R fr S all k c ρ' w'))]).N fr.2 ρ w → anyH P fr.1 .any all (Lq P n R fr.1 k) S a.len fin (F fr.2 n ρ) w := by
      rintro fin hlen hlen2 hm ha hb hcc ρ w ⟨_, hS, ta, tb, tc⟩
      have hlen := Nat.eq_of_beq_eq_true hlen
      have hlen2 := Nat.eq_of_beq_eq_true hlen2
      split at hm
      · rename_i i j z hi hj hz
        have hpos : 0 < a.len := by
          obtain ⟨r', hr'⟩ := head hi
          cases a with
          | fin r => simp only [Tr.seg] at hr'; subst hr'; simp [Tr.len]
          | fork r x y => simp only [Tr.seg] at hr'; subst hr'; simp [Tr.len]; omega
          | fork3 r x y z => simp only [Tr.seg] at hr'; subst hr'; simp [Tr.len]; omega
        rw [show a.len = (a.len - 1) + 1 by omega]
        refine anyH_all (by simpa using hm) (by simp) fun x hx => ?_
        simp only [List.mem_cons, List.not_mem_nil, or_false] at hx
        rcases hx with rfl | rfl | rfl
        · exact (iha fin ρ w hS ta).2 _ ha hi
        · rw [hlen]
          exact (ihb fin ρ w hS tb).2 _ hb hj
        · rw [hlen2]
          exact (ihc fin ρ w hS tc).2 _ hcc hz
      · cases hm
    refine ⟨fun hc => ?_, fun i hc hh => ?_⟩
    · simp only [Tr.ok, Bool.and_eq_true] at hc
      exact seg_run (m := a.len) hnd hs (fork _ hc.2.1.1 hc.2.1.2.1 hc.2.1.2.2 hc.2.2.1 hc.2.2.2.1 hc.2.2.2.2) r l L ρ w hl hc.1 rfl (.inl hS) h
    · obtain ⟨r', rfl⟩ := head hh
      simp only [Tr.ok, segOk, Bool.true_or, Bool.true_and, Bool.and_eq_true] at hc
      have := seg_first (m := a.len) (L := L) hnd hs (fun l ρ w hl hS' h => seg_run hnd hs (fork _ hc.2.1.1 hc.2.1.2.1 hc.2.1.2.2 hc.2.2.1 hc.2.2.2.1 hc.2.2.2.2) r' l _ ρ w hl hc.1 rfl hS' h) hl hS h
      have e : (Tr.fork3 ((i, false) :: r') a b c).len - 1 = r'.length + a.len := by simp only [Tr.len, List.length_cons]; omega
      rw [e]
      exact this
def drawTOk (ops : Array Oper) (t : Tr) : Bool := noDefer ops.toList && (Region.noSelect ops && (Nat.beq t.len ops.size && t.ok ops false (Array.replicate ops.size false)))
/-- a drawn region whose order forks -/
theorem drawT (hm : P.follows .mixedOrders = true) (S : World → Prop) (t : Tr) {id : Nat} {ops all0 : Array Oper} (hk : drawTOk ops t = true) (hS : S w.drew) (h : TrAt P n R fr S ops k t ρ w.drew) : At P n R fr all0 [] (.code (.region id ops true) :: k) ρ dec w := by
  show (Code.region id ops true).wpIn (fen fr.1) 0 P (Lq P n R fr.1 k) (F fr.2 n ρ) w
  refine region_held (S := S) hm ?_
  simp only [drawTOk, Bool.and_eq_true] at hk
  obtain ⟨hnd, hs, hlen, hc⟩ := hk
  have := (tr_sound hnd hs t _ ρ w.drew hS h).1 hc
  rw [Nat.eq_of_beq_eq_true hlen] at this
  exact this
/-- a segment begins -/
theorem segF {r : List (Nat × Bool)} {l : List (Oper × Bool)} (hl : pickO all.toList r = some l) (h : AtH P n R fr S all l k ρ [] w) : TrAt P n R fr S all k (.fin r) ρ w := ⟨l, hl, h⟩
theorem segK {r : List (Nat × Bool)} {a b : Tr} {l : List (Oper × Bool)} (hl : pickO all.toList r = some l) (h : AtH P n R fr S all l [.lp fr.2 (fun ρ' w' => S w' ∧ (TrAt P n R fr S all k a ρ' w' ∧ TrAt P n R fr S all k b ρ' w'))] ρ [] w) : TrAt P n R fr S all k (.fork r a b) ρ w := ⟨l, hl, h⟩
theorem segK3 {r : List (Nat × Bool)} {a b c : Tr} {l : List (Oper × Bool)} (hl : pickO all.toList r = some l) (h : AtH P n R fr S all l [.lp fr.2 (fun ρ' w' => S w' ∧ (TrAt P n R fr S all k a ρ' w' ∧ TrAt P n R fr S all k b ρ' w' ∧ TrAt P n R fr S all k c ρ' w'))] ρ [] w) : TrAt P n R fr S all k (.fork3 r a b c) ρ w := ⟨l, hl, h⟩
theorem forkK3 {a b c : Tr} (hS : S w) (ha : TrAt P n R fr S all k a ρ w) (hb : TrAt P n R fr S all k b ρ w) (hc : TrAt P n R fr S all k c ρ w) : AtH P n R fr S all [] [.lp fr.2 (fun ρ' w' => S w' ∧ (TrAt P n R fr S all k a ρ' w' ∧ TrAt P n R fr S all k b ρ' w' ∧ TrAt P n R fr S all k c ρ' w'))] ρ dec w := ⟨rfl, hS, ha, hb, hc⟩
/-- the end of a segment: both goes on -/
theorem forkK {a b : Tr} (hS : S w) (ha : TrAt P n R fr S all k a ρ w) (hb : TrAt P n R fr S all k b ρ w) : AtH P n R fr S all [] [.lp fr.2 (fun ρ' w' => S w' ∧ (TrAt P n R fr S all k a ρ' w' ∧ TrAt P n R fr S all k b ρ' w'))] ρ dec w := ⟨rfl, hS, ha, hb⟩
end
end Go.Ev.F3
