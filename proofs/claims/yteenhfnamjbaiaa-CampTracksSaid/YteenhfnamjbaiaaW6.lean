/- Differences of scanners: how long; what a slice of booleans that one owns is. -/
import Derived.Test.YteenhfnamjbaiaaW5
namespace Go.Camp
theorem difR_len {a b : Sc} (ha : ScOk a) (hb : ScOk b) : ∀ (f i : Nat) (L : List Wy), AmW a.nx.length b.nx.length L → i ≤ L.length → ∀ d, difR a b f i L = some d → d.length ≤ a.nx.length * b.nx.length := by
 intro f
 induction f with
 | zero => intro i L _ _ d h; simp [difR] at h
 | succ f ih =>
  intro i L hL hi d h
  unfold difR at h
  split at h
  ·cases h
  ·rename_i w hw
   obtain ⟨hilt, _⟩ := List.getElem?_eq_some_iff.1 hw
   have hcl := hL.cl i w hw
   have hll := hL.len
   split at h
   ·cases h; simp; omega
   ·split at h
    ·cases h; simp; omega
    ·have am1 := hL.add (w := heirW a b w false) (nxC_lt ha w.1 false) (nxC_lt hb w.2.1 false) (by show (w.2.2 ++ [false]).length ≤ _; simp; omega)
     have hln := addW_len L (heirW a b w false)
     have am2 := am1.add (w := heirW a b w true) (nxC_lt ha w.1 true) (nxC_lt hb w.2.1 true) (by show (w.2.2 ++ [true]).length ≤ _; simp; omega)
     have hln2 := addW_len (addW L (heirW a b w false)) (heirW a b w true)
     exact ih (i + 1) _ am2 (by omega) d h
theorem dif_len {a b : Sc} (ha : ScOk a) (hb : ScOk b) {d : List Bool} (h : difP a b = some d) : d.length ≤ a.nx.length * b.nx.length := by
 have n1 := ha.n1
 have m1 := hb.n1
 refine difR_len ha hb _ 0 _ ⟨by simp, fun w hw => by simp at hw; subst hw; exact ⟨by show 0 < _; omega, by show 0 < _; omega⟩, fun j w hw => ?_⟩ (by simp) d h
 have := (List.getElem?_eq_some_iff.1 hw).1
 simp at this
 subst this
 simp at hw
 subst hw
 simp
end Go.Camp
namespace Go.Proofs.Yteenhfnamjbaiaa
open Go.Ev Go.Proofs
open Go.Camp (Sc ScOk Sc8 runS runS_len)
/-- a slice of booleans in a row of one's own -/
def OwB (w : World) (A : Option Addr) (c n : Nat) (l : List Bool) : Prop := w.ownsRow 0 4 1 (.slice A n c) n (bL l)
theorem OwB.no {w w' : World} {A : Option Addr} {c n : Nat} {l : List Bool} (h : OwB w A c n l) (q : Chg No w w') : OwB w' A c n l := own_no h q
theorem OwB.sl {w : World} {A : Option Addr} {c n : Nat} {l : List Bool} (h : OwB w A c n l) : Sl w w.heap.size 1 A n (bL l) := own_sl h
theorem OwB.cap {w : World} {A : Option Addr} {c n : Nat} {l : List Bool} (h : OwB w A c n l) : n ≤ c := by
 rcases h.2 with ⟨_, hn⟩ | ⟨g, cap, cur, hv, _, _, hnc, _⟩
 ·omega
 ·injection hv with _ _ h3
  omega
theorem OwB.of {w : World} {B : Nat} {A : Option Addr} {c n : Nat} {l : List Bool} (h : w.ownsRow B 4 1 (.slice A n c) n (bL l)) : OwB w A c n l := own_base h (Nat.zero_le _)
end Go.Proofs.Yteenhfnamjbaiaa
