/- A step calculus over the kit's 'wp': a slice of the call's own that begins anywhere in its block (a queue); calls of methods through an interface. No statement about the program is in it. -/
import Derived.Test.YteenhfnamjbaiaaES
namespace Go.Ev
open Go.RowKit
/-- a slice of the call's own, that begins anywhere in its block -/
def OwnQ (w : World) (base : Nat) (e : TypeId) (size : Nat) (v : Value) (n : Nat) (xs : List Value) : Prop :=
  xs.length = n * size ∧ ((v = .slice none 0 0 ∧ n = 0) ∨
    ∃ g off cap cur, v = .slice (some ⟨g, off, none⟩) n cap ∧ base ≤ g ∧ w.heap[g]? = some (.cells cur e (0, 0)) ∧ n ≤ cap ∧ cap ≤ maxLen ∧ off + cap * size ≤ cur.size ∧ (cur.toList.drop off).take (n * size) = xs)
section
variable {P : Program} {T : Tab} {n : Nat} {R : Env → World → Prop} {fr : Fra} {all : Array Oper} {l : List Oper} {k : List It} {ρ : Env} {dec : List Nat} {w w' : World} {o : Oper} {x y : Operand}
variable {B : Nat} {e : TypeId} {sz m : Nat} {v : Value} {xs : List Value} {M : Nat → Prop}
theorem OwnQ.nil : OwnQ w B e sz (.slice none 0 0) 0 [] := ⟨by simp, .inl ⟨rfl, rfl⟩⟩
theorem OwnQ.keep (h : OwnQ w B e sz v m xs) (c : Chg M w w') (hm : ∀ k, v.ownBlock = some k → ¬ M k) : OwnQ w' B e sz v m xs := by
  refine ⟨h.1, ?_⟩
  rcases h.2 with hn | ⟨g, off, cap, cur, rfl, hb, hgg, rest⟩
  · exact .inl hn
  · refine .inr ⟨g, off, cap, cur, rfl, hb, ?_, rest⟩
    rw [c.block g (Array.getElem?_eq_some_iff.1 hgg).1 (hm g rfl)]
    exact hgg
theorem OwnQ.no (h : OwnQ w B e sz v m xs) (c : Chg No w w') : OwnQ w' B e sz v m xs := h.keep c fun _ _ h => h
theorem OwnQ.ge (h : OwnQ w B e sz v m xs) {k : Nat} (hk : v.ownBlock = some k) : B ≤ k := by
  rcases h.2 with ⟨rfl, _⟩ | ⟨g, off, cap, cur, rfl, hb, _⟩
  · simp [Value.ownBlock] at hk
  · simp only [Value.ownBlock, Option.some.injEq] at hk
    omega
theorem OwnQ.lt (h : OwnQ w B e sz v m xs) {k : Nat} (hk : v.ownBlock = some k) : k < w.heap.size := by
  rcases h.2 with ⟨rfl, _⟩ | ⟨g, off, cap, cur, rfl, hb, hg, _⟩
  · simp [Value.ownBlock] at hk
  · simp only [Value.ownBlock, Option.some.injEq] at hk
    subst hk
    exact (Array.getElem?_eq_some_iff.1 hg).1
theorem OwnQ.form (h : OwnQ w B e sz v m xs) : ∃ A c, v = .slice A m c ∧ m ≤ c ∧ c ≤ maxLen := by
  rcases h.2 with ⟨rfl, rfl⟩ | ⟨g, off, cap, cur, rfl, _, _, h1, h2, _⟩
  · exact ⟨_, _, rfl, Nat.le_refl _, Nat.zero_le _⟩
  · exact ⟨_, _, rfl, h1, h2⟩
theorem OwnQ.base {B' : Nat} (h : OwnQ w B e sz v m xs) (hB : B' ≤ B) : OwnQ w B' e sz v m xs := by
  refine ⟨h.1, ?_⟩
  rcases h.2 with hn | ⟨g, off, cap, cur, rfl, hb, rest⟩
  · exact .inl hn
  · exact .inr ⟨g, off, cap, cur, rfl, Nat.le_trans hB hb, rest⟩
theorem OwnQ.cells {g off c : Nat} (h : OwnQ w B e sz (.slice (some ⟨g, off, none⟩) m c) m xs) : ∀ j u, xs[j]? = some u → w.cell? ⟨g, off + j, none⟩ = some u := by
  intro j u hu
  rcases h.2 with ⟨hv, _⟩ | ⟨g', off', cap, cur, hv, hb, hg, h1, h2, h3, h4⟩
  · cases hv
  · injection hv with hA
    injection hA with hA
    injection hA with e1 e2
    subst e1
    subst e2
    rw [cell_of_row w g (off + j) cur e (0, 0) hg]
    rw [← h4, List.getElem?_take] at hu
    split at hu
    · rw [List.getElem?_drop] at hu
      simpa using hu
    · cases hu
theorem OwnQ.sl {A : Option Addr} {c : Nat} (h : OwnQ w B e sz (.slice A m c) m xs) : Sl w w.heap.size sz A m xs := by
  refine ⟨h.1, Nat.le_refl _, fun hn => ?_⟩
  rcases h.2 with ⟨_, h0⟩ | ⟨g, off, cap, cur, hv, hb, hg, _⟩
  · omega
  · injection hv with hA
    subst hA
    exact ⟨g, off, rfl, (Array.getElem?_eq_some_iff.1 hg).1, h.cells⟩
theorem OwnQ.drop {A A' : Option Addr} {c : Nat} (h : OwnQ w B e sz (.slice A m c) m xs) (j : Nat) (hj : j ≤ m) (hA : A' = if c = j then A else A.map fun x => x.add (j * sz)) :
    OwnQ w B e sz (.slice A' (m - j) (c - j)) (m - j) (xs.drop (j * sz)) := by
  refine ⟨by rw [List.length_drop, h.1, Nat.sub_mul], ?_⟩
  rcases h.2 with ⟨hv, h0⟩ | ⟨g, off, cap, cur, hv, hb, hg, h1, h2, h3, h4⟩
  · injection hv with e1 e2 e3
    subst e1
    obtain rfl : j = 0 := by omega
    subst e3
    rw [if_pos rfl] at hA
    subst hA
    exact .inl ⟨by simp [h0], by omega⟩
  · injection hv with e1 e2 e3
    subst e1
    subst e3
    by_cases hc : c = j
    · rw [if_pos hc] at hA
      subst hA
      subst hc
      obtain rfl : c = m := by omega
      refine .inr ⟨g, off, 0, cur, by simp, hb, hg, by omega, by omega, by have := Nat.zero_le (c * sz); omega, ?_⟩
      rw [Nat.sub_self, Nat.zero_mul, List.take_zero, ← h.1, List.drop_length]
    · rw [if_neg hc, Option.map_some, Addr.add_mid] at hA
      subst hA
      have hcj : (c - j) * sz + j * sz = c * sz := by rw [← Nat.add_mul]; congr 1; omega
      refine .inr ⟨g, off + j * sz, c - j, cur, rfl, hb, hg, by omega, by omega, by omega, ?_⟩
      rw [← h4, List.drop_take, List.drop_drop, Nat.sub_mul]
end
section
variable {P : Program} (w : World)
theorem run_append_room_off (t ty e : TypeId) (i : TypeInfo) (ht : P.underlying t = some (.slice e)) (hi : P.info? e = some i)
    (g off sLen sCap : Nat) (cur : Array Value) (hg : w.heap[g]? = some (.cells cur e (0, 0)))
    (a : Addr) (m c : Nat) (news : List Value) (hl : news.length = m * i.size) (hnews : ∀ j u, news[j]? = some u → w.cell? (a.add j) = some u) (h1 : ∀ u ∈ news, u.oneCell' = true)
    (hroom : sLen + m ≤ sCap) (hfit : off + sLen * i.size + news.length ≤ cur.size) :
    (Builtin.append_ #[t, t] ty #[.slice (some ⟨g, off, none⟩) sLen sCap, .slice (some a) m c]).run P w =
      .ok (.slice (some ⟨g, off, none⟩) (sLen + m) sCap) (w.setRow g (cur.toList.take (off + sLen * i.size) ++ news ++ cur.toList.drop (off + sLen * i.size + news.length)).toArray) := by
  have hf := run_firstCells_some (P := P) w i.size m a m c news hl hnews
  have hst := run_storeCells_at P g (off + sLen * i.size) e news 0 cur w hg (by simpa using hfit) h1
  simp only [Nat.add_zero] at hst
  simp [Builtin.append_, run_underlying ht, sizeOf, typeInfo, hi, Builtin.lenOf, hroom, hf, Addr.add_mid, hst]
theorem run_append_q (base : Nat) (t ty e : TypeId) (i : TypeInfo) (z : Value) (size bytes : Nat) (ht : P.underlying t = some (.slice e)) (hi : P.info? e = some i) (hz : i.zero = some z)
    (hsize : i.size = size) (hby : i.bytes = bytes) (hzs : z.cells.size = size) (hsz : 0 < size)
    (v : Value) (n : Nat) (xs : List Value) (hown : OwnQ w base e size v n xs)
    (a : Addr) (m c : Nat) (news : List Value) (hl : news.length = m * size) (hnews : ∀ j u, news[j]? = some u → w.cell? (a.add j) = some u) (h1 : ∀ u ∈ news, u.oneCell' = true)
    (h63 : n + m ≤ maxLen) (hbytes : (n + m) * bytes ≤ 140737488355328) (hbase : base ≤ w.heap.size) (hm : 0 < m) :
    ∃ v' w', (Builtin.append_ #[t, t] ty #[v, .slice (some a) m c]).run P w = .ok v' w' ∧ OwnQ w' base e size v' (n + m) (xs ++ news) ∧ w.grownBy w' v.ownBlock ∧ (v'.ownBlock = v.ownBlock ∨ v'.ownBlock = some w.heap.size) := by
  subst hsize
  subst hby
  have hsmall : n + m ≤ 9223372036854775807 := by simp only [maxLen] at h63; omega
  have hlen : (xs ++ news).length = (n + m) * i.size := by rw [List.length_append, hown.1, hl, Nat.add_mul]
  have grown : ∀ (old : Nat), old < n + m → ∀ (row : Option Nat),
      OwnQ (w.drew.alloc (.cells (xs.toArray ++ news.toArray ++ Builtin.zeroCells z.cells (grownCap w (n + m) old e - (n + m))) e)) base e i.size
        (.slice (some ⟨w.heap.size, 0, none⟩) (n + m) (grownCap w (n + m) old e)) (n + m) (xs ++ news) ∧
      w.grownBy (w.drew.alloc (.cells (xs.toArray ++ news.toArray ++ Builtin.zeroCells z.cells (grownCap w (n + m) old e - (n + m))) e)) row := by
    intro old ho row
    have hge := grownCap_ge w (n + m) old e
    have hcm : grownCap w (n + m) old e ≤ maxLen := grownCap_le_maxLen w (n + m) old e h63
    refine ⟨⟨hlen, .inr ⟨w.heap.size, 0, _, _, rfl, hbase, heap_alloc_new w.drew _, hge, hcm, ?_, ?_⟩⟩, ⟨rfl, rfl, rfl, by simp, fun k hk _ => heap_alloc_old w.drew _ k hk⟩⟩
    · refine Nat.le_of_eq ?_
      simp only [Array.size_append, List.size_toArray, size_zeroCells, hzs, hown.1, hl, ← Nat.add_mul]
      rw [Nat.zero_add]
      congr 1
      omega
    · rw [List.drop_zero]
      simp only [Array.toList_append, List.append_assoc]
      rw [← List.append_assoc, ← hlen]
      exact List.take_left
  rcases hown.2 with ⟨rfl, rfl⟩ | ⟨g, off, cap, cur, rfl, hbg, hg, hnc, hcm, hcs, htake⟩
  · have hx : xs = [] := List.eq_nil_of_length_eq_zero (by simpa using hown.1)
    subst hx
    have hr := run_append_nil (P := P) w t ty e i z ht hi hz a m c news hl hnews (by omega) (by omega) (by have hb := hbytes; simp only [Nat.zero_add] at hb; omega)
    have hgr := grown 0 (by omega) (Value.ownBlock (.slice none 0 0))
    simp only [Nat.zero_add, List.nil_append, Array.empty_append] at hgr ⊢
    exact ⟨_, _, hr, hgr.1, hgr.2, Or.inr rfl⟩
  · by_cases hroom : n + m ≤ cap
    · have hcm2 : (n + m) * i.size ≤ cap * i.size := Nat.mul_le_mul_right _ hroom
      rw [Nat.add_mul] at hcm2
      have hfit : off + n * i.size + news.length ≤ cur.size := by rw [hl]; omega
      have hr := run_append_room_off (P := P) w t ty e i ht hi g off n cap cur hg a m c news hl hnews h1 hroom hfit
      refine ⟨_, _, hr, ⟨hlen, .inr ⟨g, off, cap, _, rfl, hbg, setRow_heap w g cur _ e _ hg, hroom, hcm, ?_, ?_⟩⟩, ⟨rfl, rfl, rfl, by simp, fun k _ hk => setRow_other w g k _ (fun e => hk (by simp [Value.ownBlock, e]))⟩, Or.inl rfl⟩
      · simp only [List.size_toArray, List.length_append, List.length_take, List.length_drop, Array.length_toList]
        omega
      · have hsz2 : cur.toList.length = cur.size := Array.length_toList
        have e1 : cur.toList.take (off + n * i.size) = cur.toList.take off ++ xs := by rw [List.take_add, htake]
        rw [e1]
        show List.take _ (List.drop off (cur.toList.take off ++ xs ++ news ++ _)) = _
        rw [List.append_assoc, List.append_assoc, List.drop_append_of_le_length (by rw [List.length_take]; omega)]
        have e2 : List.drop off (cur.toList.take off) = [] := List.drop_eq_nil_of_le (by rw [List.length_take]; omega)
        rw [e2, List.nil_append, ← List.append_assoc, ← hlen]
        exact List.take_left
    · have holds : ∀ j u, xs[j]? = some u → w.cell? ((⟨g, off, none⟩ : Addr).add j) = some u := fun j u hu => by rw [Addr.add_mid]; exact OwnQ.cells hown j u hu
      have hr := run_append_grow (P := P) w t ty e i z ht hi hz ⟨g, off, none⟩ n cap xs hown.1 holds a m c news hl hnews (by omega) (by omega) (growslice_fits (by omega) hbytes)
      have hgr := grown cap (by omega) (Value.ownBlock (.slice (some ⟨g, off, none⟩) n cap))
      exact ⟨_, _, hr, hgr.1, hgr.2, Or.inr rfl⟩
end
section
variable {P : Program} {T : Tab} {n : Nat} {R : Env → World → Prop} {fr : Fra} {all : Array Oper} {l : List Oper} {k : List It} {ρ : Env} {dec : List Nat} {w w' : World} {o : Oper} {x y : Operand}
variable {B : Nat} {e es eb : Nat} {t : TypeId} {m : Nat} {v : Value} {xs : List Value}
/-- append, onto a queue, of what can be read -/
theorem r_appQ (hT : tabOk P T = true) {s : Operand} (ho : o.op = .call { callee := .builtin .append, args := #[s, x], argTypes := #[t, t] }) (ht : Tab.get T t = some (.slc e es eb))
    {A : Option Addr} {nn c : Nat} (hs : ev n ρ s = .slice A nn c) {A2 : Option Addr} {c2 : Nat} (hx : ev n ρ x = .slice A2 m c2) (hown : OwnQ w B e es (.slice A nn c) nn xs) {news : List Value}
    {B2 : Nat} (hsl : Sl w B2 es A2 m news) (h1 : news.all (·.oneCell') = true) (h63 : nn + m ≤ maxLen) (hby : (nn + m) * eb ≤ 140737488355328) (hB : B ≤ w.heap.size) (hm : 0 < m) :
    ∃ A' c' w', (execOp (ev n ρ) o).run P w = .ok (.value (.slice A' (nn + m) c')) w' ∧ OwnQ w' B e es (.slice A' (nn + m) c') (nn + m) (xs ++ news) ∧ Chg (fun k => (Value.slice A nn c).ownBlock = some k) w w' ∧
      ((Value.slice A' (nn + m) c').ownBlock = (Value.slice A nn c).ownBlock ∨ (Value.slice A' (nn + m) c').ownBlock = some w.heap.size) := by
  obtain ⟨hu, inf, z, hi, hsz, hb, hz, hzs, hes⟩ := tab_slc hT ht
  obtain ⟨b2, o2, hA2, hb2, hc2⟩ := hsl.2.2 hm
  subst hA2
  obtain ⟨v', w', hr, hown', hg, hat⟩ := run_append_q (P := P) w B t o.type e inf z es eb hu hi hz hsz hb hzs hes (.slice A nn c) nn xs hown ⟨b2, o2, none⟩ m c2 news hsl.1 (fun j u hu => by rw [Addr.add_mid]; exact hc2 j u hu) (oneCells h1) h63 hby hB hm
  obtain ⟨A', c', rfl, _⟩ := hown'.form
  exact ⟨A', c', w', exec_app ho hs hx hr, hown', (Chg.grown hg).mono fun k _ h => h.symm, hat⟩
theorem appQE {S : World → Prop} {l' : List (Oper × Bool)} (hT : tabOk P T = true) (hw : wantB n ρ all o = true) {s : Operand} (ho : o.op = .call { callee := .builtin .append, args := #[s, x], argTypes := #[t, t] }) (ht : Tab.get T t = some (.slc e es eb))
    {A : Option Addr} {nn c : Nat} (hs : ev n ρ s = .slice A nn c) {A2 : Option Addr} {c2 : Nat} (hx : ev n ρ x = .slice A2 m c2) (hown : OwnQ w B e es (.slice A nn c) nn xs) {news : List Value}
    {B2 : Nat} (hsl : Sl w B2 es A2 m news) (h1 : news.all (·.oneCell') = true) (h63 : nn + m ≤ maxLen) (hby : (nn + m) * eb ≤ 140737488355328) (hB : B ≤ w.heap.size) (hm : 0 < m)
    (h : ∀ A' c' w', OwnQ w' B e es (.slice A' (nn + m) c') (nn + m) (xs ++ news) → Chg (fun k => (Value.slice A nn c).ownBlock = some k) w w' →
      ((Value.slice A' (nn + m) c').ownBlock = (Value.slice A nn c).ownBlock ∨ (Value.slice A' (nn + m) c').ownBlock = some w.heap.size) → S w' ∧ AtH P n R fr S all l' k (updo ρ o.dst (.slice A' (nn + m) c')) dec w') : AtH P n R fr S all ((o, false) :: l') k ρ dec w := by
  obtain ⟨A', c', w', hr, a1, a2, a3⟩ := r_appQ hT ho ht hs hx hown hsl h1 h63 hby hB hm
  obtain ⟨h2, h3⟩ := h A' c' w' a1 a2 a3
  exact valE hw hr h2 h3
/-- a value goes into an interface -/
theorem mkI (hw : wantB n ρ all o = true) {t : TypeId} (ho : o.op = .makeInterface t x) (hc : P.concrete t = true) {u : Value} (hx : ev n ρ x = u) (h : At P n R fr all l k (updo ρ o.dst (.iface t u)) dec w) : At P n R fr all (o :: l) k ρ dec w := by
  refine op_val hw (w' := w) ?_ h
  simp [execOp, ho, hx, run_makeInterface w t u hc]
/-- a call of a method through an interface -/
theorem callM {fo : Operand} {args : Array Operand} {tys : Array TypeId} {name : String} {f : FuncId} {vs : List Value} {K : Value → World → Prop}
    (hw : wantB n ρ all o = true) (ho : o.op = .call { callee := .invoke fo name, args := args, argTypes := tys }) {r : Value} (hf : ev n ρ fo = r) (hargs : evs n ρ args.toList = vs)
    {u : Value} (hi : (invoke (.fn (.method name) #[]) (#[r] ++ vs.toArray)).run P w = .ok (.enter f (u :: vs).toArray) w)
    (hc : Ret P f (u :: vs) w K) (h : ∀ v w', K v w' → At P n R fr all l k (updo ρ o.dst v) dec w') : At P n R fr all (o :: l) k ρ dec w := by
  refine op_step hw ?_
  rw [Oper.semAt_eq fr.1 _ o (by intro c; rw [ho]; simp)]
  have e : (execOp (F fr.2 n ρ).eval o).run P w = .ok (.enter f (u :: vs).toArray) w := by
    rw [F_eval]
    have e1 : args.map (ev n ρ) = vs.toArray := by apply Array.ext'; rw [← hargs]; simp [← evs_map]
    simp only [execOp, ho, resolve, hf, e1, Sem.run_bind, Sem.run_pure, Result.andThen_ok]
    exact hi
  rw [e]
  refine ⟨fen_depth, ?_⟩
  show CallsIn Fence.wide 0 P f _ w _
  refine callsIn_wide.2 (Calls.mono hc ?_)
  rintro e w' ⟨v, rfl, hv⟩
  exact ⟨_, F_put _ _ _ _, (h v w' hv).list⟩
end
end Go.Ev
