/- Plain specification of campaigns (layer 9). No walk in it. -/
namespace Go.Camp
structure Site where
  cost : Int
  lo : Int
  hi : Int
  tru : Int
deriving DecidableEq
structure SiteOk (parts : Int) (s : Site) : Prop where
  c0 : 0 ≤ s.cost
  c1 : s.cost ≤ 1000000
  l0 : 0 ≤ s.lo
  lh : s.lo < s.hi
  h1 : s.hi ≤ parts
  t0 : 0 ≤ s.tru
  t1 : s.tru ≤ parts
structure Cp where
  parts : Int
  level : Int
  budget : Int
  sites : List Site
structure CpOk (c : Cp) : Prop where
  p0 : 2 ≤ c.parts
  p1 : c.parts ≤ 1000
  v0 : 2 ≤ c.level
  v1 : c.level ≤ 300000
  b0 : 0 ≤ c.budget
  b1 : c.budget ≤ 8000000
  n0 : 1 ≤ c.sites.length
  n1 : c.sites.length ≤ 8
  s : ∀ x ∈ c.sites, SiteOk c.parts x
def siteAt (c : Cp) (i : Int) : Site := (c.sites[i.toNat]?).getD ⟨0, 0, 0, 0⟩
/-- what some sites cost -/
def costP (c : Cp) (l : List Int) : Int := l.foldl (fun a i => a + (siteAt c i).cost) 0
/-- is every number one of a site? -/
def Sites (c : Cp) (l : List Int) : Prop := ∀ i ∈ l, 0 ≤ i ∧ i < c.sites.length
structure ChOk (c : Cp) (l : List Int) : Prop where
  s : Sites c l
  up : ∀ i : Nat, ∀ a ∈ l[i]?, ∀ b ∈ l[i + 1]?, a < b
  n0 : 1 ≤ l.length
  n1 : l.length ≤ 3
  b : costP c l ≤ c.budget
theorem siteAt_ok {c : Cp} (h : CpOk c) {i : Int} (h0 : 0 ≤ i) (h1 : i < c.sites.length) : c.sites[i.toNat]? = some (siteAt c i) ∧ SiteOk c.parts (siteAt c i) := by
  have hi : i.toNat < c.sites.length := by omega
  have e : c.sites[i.toNat]? = some c.sites[i.toNat] := List.getElem?_eq_getElem hi
  unfold siteAt
  rw [e]
  exact ⟨rfl, h.s _ (List.getElem_mem hi)⟩
theorem costP_snoc (c : Cp) (l : List Int) (i : Int) : costP c (l ++ [i]) = costP c l + (siteAt c i).cost := by simp [costP, List.foldl_append]
theorem costF_bd {c : Cp} (h : CpOk c) : ∀ (l : List Int) (a : Int), Sites c l → a ≤ l.foldl (fun a i => a + (siteAt c i).cost) a ∧ l.foldl (fun a i => a + (siteAt c i).cost) a ≤ a + 1000000 * l.length := by
  intro l
  induction l with
  | nil => intro a _; simp
  | cons i l ih =>
    intro a hs
    obtain ⟨h2, h3⟩ := hs i (by simp)
    have h4 := (siteAt_ok h h2 h3).2
    have h5 := ih (a + (siteAt c i).cost) fun j hj => hs j (by simp [hj])
    have := h4.c0; have := h4.c1
    simp only [List.foldl_cons, List.length_cons]
    omega
theorem costP_bd {c : Cp} (h : CpOk c) {l : List Int} (hs : Sites c l) : 0 ≤ costP c l ∧ costP c l ≤ 1000000 * l.length := by
  have := costF_bd h l 0 hs
  unfold costP
  omega
/-- slots that are not too many -/
structure SlOk (c : Cp) (s : Nat) : Prop where
  n : s ≤ 12
  w : c.parts ^ (3 * s) ≤ 1152921504606846976
end Go.Camp
