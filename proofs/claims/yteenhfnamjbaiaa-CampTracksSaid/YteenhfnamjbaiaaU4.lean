/- Plain laws of scanners (layer 9): tables of differences; products; trackers. No walk in it. -/
import Derived.Test.YteenhfnamjbaiaaU3
namespace Go.Camp
/-- a table of truth values as one of states that are equal in effect -/
def tE (n : Nat) (L : List Bool) (x y : Nat) : Bool := !(L.getD (x * n + y) true)
/-- what is marked differs in effect -/
structure Snd (s : Sc) (L : List Bool) : Prop where
 len : L.length = s.nx.length * s.nx.length
 sd : ∀ x y, x < s.nx.length → y < s.nx.length → L.getD (x * s.nx.length + y) true = true → ¬ Eq2 s s x y
def CldC (s : Sc) (L : List Bool) (x y : Nat) (c : Bool) : Prop := alC s x c = alC s y c ∧ L.getD (nxC s x c * s.nx.length + nxC s y c) true = false
/-- what is not marked ahead of some pair has heirs that are not marked -/
def ClU (s : Sc) (L : List Bool) (i k : Nat) : Prop := ∀ x y, x < s.nx.length → y < s.nx.length → (x < i ∨ x = i ∧ y < k) → L.getD (x * s.nx.length + y) true = false → ∀ c, CldC s L x y c
structure PI (s : Sc) (L0 L : List Bool) (ch : Bool) (i k : Nat) : Prop where
 snd : Snd s L
 no : ch = false → L = L0 ∧ ClU s L i k
 yes : ch = true → L0.count true < L.count true
theorem enc_lt {n x y : Nat} (hx : x < n) (hy : y < n) : x * n + y < n * n := by
 have : (x + 1) * n ≤ n * n := Nat.mul_le_mul_right n hx
 rw [Nat.succ_mul] at this
 omega
theorem eqT_of {s : Sc} (h : ScOk s) {L : List Bool} (h1 : Snd s L) (h2 : ClU s L s.nx.length 0) : EqT s (tE s.nx.length L) := by
 intro x y hx hy
 unfold tE
 constructor
 ·intro e
  have e : L.getD (x * s.nx.length + y) true = false := by simpa using e
  refine bisim (R := fun x y => x < s.nx.length ∧ y < s.nx.length ∧ L.getD (x * s.nx.length + y) true = false) (fun x y hR c => ?_) ⟨hx, hy, e⟩
  obtain ⟨hx, hy, e⟩ := hR
  obtain ⟨k1, k2⟩ := h2 x y hx hy (.inl hx) e c
  exact ⟨k1, nxC_lt h _ _, nxC_lt h _ _, k2⟩
 ·intro hq
  cases he : L.getD (x * s.nx.length + y) true with
  | false => rfl
  | true => exact absurd hq (h1.sd x y hx hy he)
theorem getD_set {L : List Bool} {i j : Nat} (hi : i < L.length) : (L.set i true).getD j true = if i = j then true else L.getD j true := by
 rw [List.getD_eq_getElem?_getD, List.getElem?_set, List.getD_eq_getElem?_getD]
 split
 ·rename_i h
  subst h
  simp
 ·rfl
theorem Snd.set {s : Sc} {L : List Bool} (h : Snd s L) {i k : Nat} (hi : i < s.nx.length) (hk : k < s.nx.length) (hn : ¬ Eq2 s s i k) : Snd s (L.set (i * s.nx.length + k) true) := by
 refine ⟨by rw [List.length_set]; exact h.len, fun x y hx hy he => ?_⟩
 rw [getD_set (by rw [h.len]; exact enc_lt hi hk)] at he
 split at he
 ·rename_i e
  obtain ⟨rfl, rfl⟩ := enc_inj hk hy e
  exact hn
 ·exact h.sd x y hx hy he
theorem count_set_true {L : List Bool} {i : Nat} (hi : i < L.length) (h : L.getD i true = false) : (L.set i true).count true = L.count true + 1 := by
 rw [List.count_set hi]
 rw [List.getD_eq_getElem?_getD, List.getElem?_eq_getElem hi] at h
 have h : L[i] = false := h
 rw [h]
 rfl
/-- a pair that differs at a cell, or whose heirs are marked -/
theorem dif_at {s : Sc} {L : List Bool} (h : ScOk s) (hs : Snd s L) {i k : Nat} {c : Bool} (hc : ¬ CldC s L i k c) : ¬ Eq2 s s i k := by
 intro hq
 refine hc ⟨hq.al c, ?_⟩
 cases he : L.getD (nxC s i c * s.nx.length + nxC s k c) true with
 | false => rfl
 | true => exact absurd (hq.nx c) (hs.sd _ _ (nxC_lt h _ _) (nxC_lt h _ _) he)
section
variable {s : Sc} {L0 L : List Bool} {ch : Bool} {i k : Nat}
theorem PI.skip (hp : PI s L0 L ch i k) (hs : L.getD (i * s.nx.length + k) true = true) : PI s L0 L ch i (k + 1) := by
 refine ⟨hp.snd, fun e => ⟨(hp.no e).1, fun x y hx hy h he c => ?_⟩, hp.yes⟩
 by_cases h' : x = i ∧ y = k
 ·obtain ⟨rfl, rfl⟩ := h'
  rw [hs] at he; cases he
 ·exact (hp.no e).2 x y hx hy (by omega) he c
theorem PI.same (hp : PI s L0 L ch i k) (hc : ∀ c, CldC s L i k c) : PI s L0 L ch i (k + 1) := by
 refine ⟨hp.snd, fun e => ⟨(hp.no e).1, fun x y hx hy h he c => ?_⟩, hp.yes⟩
 by_cases h' : x = i ∧ y = k
 ·obtain ⟨rfl, rfl⟩ := h'
  exact hc c
 ·exact (hp.no e).2 x y hx hy (by omega) he c
theorem PI.mark (h : ScOk s) (hp : PI s L0 L ch i k) (hi : i < s.nx.length) (hk : k < s.nx.length) (hs : L.getD (i * s.nx.length + k) true = false) {c : Bool} (hc : ¬ CldC s L i k c) : PI s L0 (L.set (i * s.nx.length + k) true) true i (k + 1) := by
 refine ⟨hp.snd.set hi hk (dif_at h hp.snd hc), fun e => (by cases e), fun _ => ?_⟩
 rw [count_set_true (by rw [hp.snd.len]; exact enc_lt hi hk) hs]
 cases ch with
 | false => rw [(hp.no rfl).1]; omega
 | true => have := hp.yes rfl; omega
theorem PI.row (hp : PI s L0 L ch i s.nx.length) : PI s L0 L ch (i + 1) 0 := by
 refine ⟨hp.snd, fun e => ⟨(hp.no e).1, fun x y hx hy h he c => ?_⟩, hp.yes⟩
 exact (hp.no e).2 x y hx hy (by omega) he c
theorem PI.start (hs : Snd s L) : PI s L L false 0 0 := ⟨hs, fun _ => ⟨rfl, fun x y _ _ h => by omega⟩, fun e => by cases e⟩
theorem snd_rep : Snd s (List.replicate (s.nx.length * s.nx.length) false) := by
 refine ⟨by simp, fun x y hx hy he => ?_⟩
 rw [List.getD_eq_getElem?_getD, List.getElem?_replicate, if_pos (enc_lt hx hy)] at he
 cases he
end
/-! ### Products -/
def prNx (a b : Sc) (j : Nat) : Int × Int := ((((nxA a (j / b.nx.length)).1 * b.nx.length + (nxA b (j % b.nx.length)).1 : Nat) : Int), (((nxA a (j / b.nx.length)).2 * b.nx.length + (nxA b (j % b.nx.length)).2 : Nat) : Int))
def prAl (a b : Sc) (j : Nat) : Bool × Bool := ((alA a (j / b.nx.length)).1 && (alA b (j % b.nx.length)).1, (alA a (j / b.nx.length)).2 && (alA b (j % b.nx.length)).2)
/-- the first pairs of states of a product -/
def prRaw (a b : Sc) (n : Nat) : Sc := ⟨(List.range n).map (prNx a b), (List.range n).map (prAl a b)⟩
def prodP (a b : Sc) : Sc := smallP (prRaw a b (a.nx.length * b.nx.length))
theorem prRaw_len (a b : Sc) (n : Nat) : (prRaw a b n).nx.length = n ∧ (prRaw a b n).al.length = n := by simp [prRaw]
theorem pr_div {n x y : Nat} (hy : y < n) : (x * n + y) / n = x ∧ (x * n + y) % n = y := by
 have hn : 0 < n := by omega
 rw [Nat.mul_comm, Nat.mul_add_div hn, Nat.mul_add_mod, Nat.div_eq_of_lt hy, Nat.mod_eq_of_lt hy]
 exact ⟨rfl, rfl⟩
theorem pr_lt {n m x y : Nat} (hx : x < m) (hy : y < n) : x * n + y < m * n := by
 have : (x + 1) * n ≤ m * n := Nat.mul_le_mul_right n hx
 rw [Nat.succ_mul] at this
 omega
theorem prRaw_ok {a b : Sc} (ha : Sc8 a) (hb : Sc8 b) : ScOk (prRaw a b (a.nx.length * b.nx.length)) := by
 obtain ⟨h1, h2⟩ := prRaw_len a b (a.nx.length * b.nx.length)
 have n1 := ha.1.n1
 have m1 := hb.1.n1
 have hle : a.nx.length * b.nx.length ≤ 128 * 128 := Nat.mul_le_mul ha.2 hb.2
 have hpos : 0 < a.nx.length * b.nx.length := Nat.mul_pos (by omega) (by omega)
 refine ⟨by omega, by omega, by omega, fun p hp => ?_⟩
 rw [h1]
 simp only [prRaw, List.mem_map] at hp
 obtain ⟨j, _, rfl⟩ := hp
 obtain ⟨k1, k2⟩ := nxA_lt ha.1 (j / b.nx.length)
 obtain ⟨k3, k4⟩ := nxA_lt hb.1 (j % b.nx.length)
 have e1 := pr_lt k1 k3
 have e2 := pr_lt k2 k4
 unfold prNx
 simp only
 omega
theorem pr_at {a b : Sc} {x y : Nat} (hx : x < a.nx.length) (hy : y < b.nx.length) : nxA (prRaw a b (a.nx.length * b.nx.length)) (x * b.nx.length + y) = ((nxA a x).1 * b.nx.length + (nxA b y).1, (nxA a x).2 * b.nx.length + (nxA b y).2) ∧
  alA (prRaw a b (a.nx.length * b.nx.length)) (x * b.nx.length + y) = ((alA a x).1 && (alA b y).1, (alA a x).2 && (alA b y).2) := by
 have hlt := pr_lt hx hy
 obtain ⟨d1, d2⟩ := pr_div (x := x) hy
 unfold nxA alA prRaw
 simp only [List.getElem?_map, List.getElem?_range hlt, Option.map_some, Option.getD_some, prNx, prAl, d1, d2, Int.toNat_natCast]
 exact ⟨rfl, rfl⟩
/-- a product tells a track where both do -/
theorem pr_run {a b : Sc} (ha : ScOk a) (hb : ScOk b) : ∀ (cs : List Bool) (x y : Nat), x < a.nx.length → y < b.nx.length → runS (prRaw a b (a.nx.length * b.nx.length)) (x * b.nx.length + y) cs = List.zipWith (fun p q => p && q) (runS a x cs) (runS b y cs) := by
 intro cs
 induction cs with
 | nil => intro x y _ _; rfl
 | cons c cs ih =>
  intro x y hx hy
  obtain ⟨e1, e2⟩ := pr_at hx hy
  have h1 : nxC (prRaw a b (a.nx.length * b.nx.length)) (x * b.nx.length + y) c = nxC a x c * b.nx.length + nxC b y c := by
   unfold nxC
   rw [e1]
   cases c <;> rfl
  have h2 : alC (prRaw a b (a.nx.length * b.nx.length)) (x * b.nx.length + y) c = (alC a x c && alC b y c) := by
   unfold alC
   rw [e2]
   cases c <;> rfl
  simp only [runS, h1, h2, List.zipWith_cons_cons]
  rw [ih _ _ (nxC_lt ha _ _) (nxC_lt hb _ _)]
theorem prod_run {a b : Sc} (ha : Sc8 a) (hb : Sc8 b) (cs : List Bool) : runS (prodP a b) 0 cs = List.zipWith (fun p q => p && q) (runS a 0 cs) (runS b 0 cs) := by
 have n1 := ha.1.n1
 have m1 := hb.1.n1
 rw [show runS (prodP a b) 0 cs = runS (prRaw a b (a.nx.length * b.nx.length)) 0 cs from (small_ok (prRaw_ok ha hb)).2.2.1 cs]
 have := pr_run ha.1 hb.1 cs 0 0 (by omega) (by omega)
 rwa [Nat.zero_mul, Nat.zero_add] at this
/-! ### Trackers -/
/-- how many grains are in the last cells, and this one -/
def seenG (last : Nat) (cs : List Bool) (i : Nat) : Nat := ((cs.take (i + 1)).drop (i - last)).count true
theorem tr_at {need last st : Nat} (h : st < 2 ^ last) : nxA (trRaw need last (2 ^ last)) st = (st * 2 % 2 ^ last, (st * 2 + 1) % 2 ^ last) ∧ alA (trRaw need last (2 ^ last)) st = (false, decide (need ≤ grainsN last st)) := by
 unfold nxA alA trRaw
 simp only [List.getElem?_map, List.getElem?_range h, Option.map_some, Option.getD_some, trNx, trAl, Int.toNat_natCast]
 refine ⟨?_, ?_⟩ <;> first | trivial | rfl
theorem bit_step {last st j : Nat} {c : Bool} : ((st * 2 + c.toNat) % 2 ^ last).testBit j = (decide (j < last) && (if j = 0 then c else st.testBit (j - 1))) := by
 rw [Nat.testBit_mod_two_pow]
 congr 1
 cases j with
 | zero => cases c <;> simp [Nat.testBit_zero] <;> omega
 | succ j =>
  rw [Nat.testBit_succ, show (st * 2 + c.toNat) / 2 = st by cases c <;> simp <;> omega]
  simp
theorem grains_rev (r : List Bool) (st : Nat) : ∀ last, (∀ j, j < last → st.testBit j = r.getD j false) → grainsN last st = 1 + (r.take last).count true := by
 intro last
 induction last with
 | zero => intro _; simp [grainsN]
 | succ n ih =>
  intro h
  rw [grainsN_succ, ih (fun j hj => h j (by omega)), h n (by omega), List.take_add_one, List.count_append, List.getD_eq_getElem?_getD]
  cases hn : r[n]? with
  | none => simp
  | some b => cases b <;> simp <;> omega
/-- a tracker's state is the last cells -/
theorem tr_state (need last : Nat) : ∀ cs : List Bool, desS (trRaw need last (2 ^ last)) 0 cs.reverse < 2 ^ last ∧ ∀ j, j < last → (desS (trRaw need last (2 ^ last)) 0 cs.reverse).testBit j = cs.getD j false := by
 have hp : 0 < 2 ^ last := Nat.pow_pos (by decide)
 intro cs
 induction cs with
 | nil => exact ⟨hp, fun j _ => by simp [desS]⟩
 | cons c cs ih =>
  obtain ⟨h1, h2⟩ := ih
  rw [List.reverse_cons, desS_snoc]
  generalize desS (trRaw need last (2 ^ last)) 0 cs.reverse = st at *
  have e : nxC (trRaw need last (2 ^ last)) st c = (st * 2 + c.toNat) % 2 ^ last := by
   unfold nxC
   rw [(tr_at h1).1]
   cases c <;> rfl
  rw [e]
  refine ⟨Nat.mod_lt _ hp, fun j hj => ?_⟩
  rw [bit_step, decide_eq_true hj, Bool.true_and]
  cases j with
  | zero => simp
  | succ j => rw [if_neg (by omega), Nat.add_sub_cancel, h2 j (by omega)]; simp
theorem take_rev {α : Type} (l : List α) (n : Nat) : (l.reverse.take n) = (l.drop (l.length - n)).reverse := by
 rw [List.take_reverse]
/-- a tracker tells a track where there are enough grains -/
theorem tr_run (need last : Nat) (cs : List Bool) (i : Nat) (c : Bool) (hc : cs[i]? = some c) : (runS (trRaw need last (2 ^ last)) 0 cs)[i]? = some (c && decide (need ≤ seenG last cs i)) := by
 have key : ∀ (s : Sc) (cs : List Bool) (x i : Nat) (c : Bool), cs[i]? = some c → (runS s x cs)[i]? = some (alC s (desS s x (cs.take i)) c) := by
  intro s cs
  induction cs with
  | nil => intro x i c h; simp at h
  | cons d cs ih =>
   intro x i c h
   cases i with
   | zero => simp at h; subst h; rfl
   | succ i => simpa [runS, desS] using ih (nxC s x d) i c (by simpa using h)
 rw [key _ _ _ _ _ hc]
 have hi := (List.getElem?_eq_some_iff.1 hc).1
 obtain ⟨h1, h2⟩ := tr_state need last (cs.take i).reverse
 rw [List.reverse_reverse] at h1 h2
 have hg := grains_rev (cs.take i).reverse _ last h2
 unfold alC
 rw [(tr_at h1).2]
 cases c with
 | false => rfl
 | true =>
  simp only [if_true, Bool.true_and]
  congr 3
  rw [hg, take_rev, List.count_reverse]
  unfold seenG
  have hl : (cs.take i).length = i := by rw [List.length_take]; omega
  rw [List.take_add_one, hc, List.drop_append_of_le_length (by omega), List.count_append, hl]
  simp
  omega
end Go.Camp
