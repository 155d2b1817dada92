/-
  No cell of these rows narrows 'for every input' (looked for: loops, veiled, ifaces, maps, wideKeys, modest, calm, conditions, laid).
  DERIVED. THE GIVEN ROWS OF THIS SEAT. 4 by the template 'for every input the law returns true; each argument reads behind the call as it read before'; 0 by the template 'total and deterministic' (their statements: YtolhfimknimliaaTotals.lean).
  GIVEN WITH THE SEED: the statements are not yours to turn. If you find one false, say at which input.
  Laid BY PROGRAM, IN A SANDBOX (cutbox-rows.mjs): the forced cells as the released guide's own fill.sh prints them over the translation f06cce2a903f0707… (all of the seat's roots in one cut). By AI agents, Wed Nov 11 2026. No macro, syntax, notation, axiom, sorry.
-/
import Derived.Test.YtolhfimknimliaaChecked
import GoSem.Claim
import GoSem.ClaimJoined
import GoSem.ClaimMapViews
import Derived.JoinedTies
import Derived.KernelRfl
namespace Go.Proofs.Ytolhfimknimliaa
/- THE CELL 'sum', in the pinned program and in every row, IS THE sha256 OF THE DUMP (.gsa) THAT YtolhfimknimliaaProg.lean LOADS. Nothing in Lean hashes anything: it is a label: what it is worth is what the hold of that sum in a sandbox is worth. -/
noncomputable def Try.pinned : Pinned := { name := "ytolhfimknimliaa", sum := "f06cce2a903f0707dd993ec088c2dfb5d2bb52277b06ce8c786ff231bad57cf0", checked := Try.checked }
namespace Rows
def none {H : Type} : Left H := { results := [], args := [] }

/-- 'overburdentop.TopChamber': WHATEVER THE INPUT: true; the input reads as it did. -/
def topChamberSpec : ChangeSpec := { name := "topChamber", fn := fun _ => fun
  | [d1, d2, d3, d4, d5, d6, d7, d8] => { results := [.lit (.bool true)], args := [d1, d2, d3, d4, d5, d6, d7, d8] }
  | _ => none }
def topChamberRow : OpenClaim := { program := "ytolhfimknimliaa", sum := "f06cce2a903f0707dd993ec088c2dfb5d2bb52277b06ce8c786ff231bad57cf0", func := "overburden/overburdentop.TopChamber", spec := "topChamber", unfollowed := true, recurses := true, plainKeys := false, apart := false }
def TopChamberSaid : Prop := topChamberRow.holds Try.pinned (OpenSpec.ofChange topChamberSpec)

/-- ITS FALSE NEIGHBOUR: 'it returns false'. Refute it at one input. -/
def topChamberWrong : ChangeSpec := { name := "topChamber", fn := fun _ => fun
  | [d1, d2, d3, d4, d5, d6, d7, d8] => { results := [.lit (.bool false)], args := [d1, d2, d3, d4, d5, d6, d7, d8] }
  | _ => none }
def TopChamberWrongFalsely : Prop := topChamberRow.holds Try.pinned (OpenSpec.ofChange topChamberWrong)

/-- 'overburdentop.TopKinked': WHATEVER THE INPUT: true; the input reads as it did. -/
def topKinkedSpec : ChangeSpec := { name := "topKinked", fn := fun _ => fun
  | [d1, d2, d3, d4] => { results := [.lit (.bool true)], args := [d1, d2, d3, d4] }
  | _ => none }
def topKinkedRow : OpenClaim := { program := "ytolhfimknimliaa", sum := "f06cce2a903f0707dd993ec088c2dfb5d2bb52277b06ce8c786ff231bad57cf0", func := "overburden/overburdentop.TopKinked", spec := "topKinked", unfollowed := true, recurses := true, plainKeys := false, apart := false }
def TopKinkedSaid : Prop := topKinkedRow.holds Try.pinned (OpenSpec.ofChange topKinkedSpec)

/-- ITS FALSE NEIGHBOUR: 'it returns false'. Refute it at one input. -/
def topKinkedWrong : ChangeSpec := { name := "topKinked", fn := fun _ => fun
  | [d1, d2, d3, d4] => { results := [.lit (.bool false)], args := [d1, d2, d3, d4] }
  | _ => none }
def TopKinkedWrongFalsely : Prop := topKinkedRow.holds Try.pinned (OpenSpec.ofChange topKinkedWrong)

/-- 'overburdentop.TopHits': WHATEVER THE INPUT: true; the input reads as it did. -/
def topHitsSpec : ChangeSpec := { name := "topHits", fn := fun _ => fun
  | [d1, d2, d3] => { results := [.lit (.bool true)], args := [d1, d2, d3] }
  | _ => none }
def topHitsRow : OpenClaim := { program := "ytolhfimknimliaa", sum := "f06cce2a903f0707dd993ec088c2dfb5d2bb52277b06ce8c786ff231bad57cf0", func := "overburden/overburdentop.TopHits", spec := "topHits", unfollowed := true, recurses := true, plainKeys := false, apart := false }
def TopHitsSaid : Prop := topHitsRow.holds Try.pinned (OpenSpec.ofChange topHitsSpec)

/-- ITS FALSE NEIGHBOUR: 'it returns false'. Refute it at one input. -/
def topHitsWrong : ChangeSpec := { name := "topHits", fn := fun _ => fun
  | [d1, d2, d3] => { results := [.lit (.bool false)], args := [d1, d2, d3] }
  | _ => none }
def TopHitsWrongFalsely : Prop := topHitsRow.holds Try.pinned (OpenSpec.ofChange topHitsWrong)

/-- 'overburdentop.TopCampaign': WHATEVER THE INPUT: true; the input reads as it did. -/
def topCampaignSpec : ChangeSpec := { name := "topCampaign", fn := fun _ => fun
  | [d1, d2, d3, d4, d5, d6, d7, d8] => { results := [.lit (.bool true)], args := [d1, d2, d3, d4, d5, d6, d7, d8] }
  | _ => none }
def topCampaignRow : OpenClaim := { program := "ytolhfimknimliaa", sum := "f06cce2a903f0707dd993ec088c2dfb5d2bb52277b06ce8c786ff231bad57cf0", func := "overburden/overburdentop.TopCampaign", spec := "topCampaign", unfollowed := true, recurses := true, plainKeys := false, apart := false }
def TopCampaignSaid : Prop := topCampaignRow.holds Try.pinned (OpenSpec.ofChange topCampaignSpec)

/-- ITS FALSE NEIGHBOUR: 'it returns false'. Refute it at one input. -/
def topCampaignWrong : ChangeSpec := { name := "topCampaign", fn := fun _ => fun
  | [d1, d2, d3, d4, d5, d6, d7, d8] => { results := [.lit (.bool false)], args := [d1, d2, d3, d4, d5, d6, d7, d8] }
  | _ => none }
def TopCampaignWrongFalsely : Prop := topCampaignRow.holds Try.pinned (OpenSpec.ofChange topCampaignWrong)

/- THE SECOND FORM. 'bulk': how many values and letters a reading holds, each counted each time it is reached (what is shared counts as often as it is met; a slice's spare places count too). A statement '..UptoSaid' is the law's where the arguments, and the package variables that the reading takes, are together of bulk at most 1048576: NARROWER than '..Said'. Prove '..Said' where nothing that the law and all that it calls make is longer than what came in: it says more and counts as full. Else prove '..UptoSaid'. A law counts once. -/
mutual
def uptoBulk {H : Type} : DataW H → Nat
  | .lit (.string bytes) => bytes.length + 1
  | .lit _ => 1
  | .nil => 1
  | .ptr d => uptoBulk d + 1
  | .slice elems spare => uptoBulkAll elems + uptoBulkAll spare + 1
  | .agg parts => uptoBulkAll parts + 1
  | .iface _ d => uptoBulk d + 1
  | .map entries => uptoBulkEntries entries + 1
  | .held _ => 1
def uptoBulkAll {H : Type} : List (DataW H) → Nat
  | [] => 0
  | d :: r => uptoBulk d + uptoBulkAll r
def uptoBulkEntries {H : Type} : List (Lit × DataW H) → Nat
  | [] => 0
  | x :: r => uptoBulkEntry x + uptoBulkEntries r
def uptoBulkEntry {H : Type} : Lit × DataW H → Nat
  | (.string bytes, d) => bytes.length + uptoBulk d + 1
  | (_, d) => uptoBulk d + 1
 end
def uptoSmall : (H : Type) → List (DataW H) → Bool := fun _ ds => decide (uptoBulkAll ds ≤ 1048576)
def OpenSpec.upto (s : _root_.Go.ChangeSpec) : _root_.Go.OpenSpec := { _root_.Go.OpenSpec.ofChange s with cond := some uptoSmall }

/-- 'overburdentop.TopChamber', WHERE WHAT IT READS IS OF BULK AT MOST 1048576: true; the input reads as it did. -/
def topChamberUptoRow : OpenClaim := { program := "ytolhfimknimliaa", sum := "f06cce2a903f0707dd993ec088c2dfb5d2bb52277b06ce8c786ff231bad57cf0", func := "overburden/overburdentop.TopChamber", spec := "topChamber", unfollowed := true, recurses := true, plainKeys := false, apart := false, narrowed := true }
def TopChamberUptoSaid : Prop := topChamberUptoRow.holds Try.pinned (OpenSpec.upto topChamberSpec)

/-- 'overburdentop.TopKinked', WHERE WHAT IT READS IS OF BULK AT MOST 1048576: true; the input reads as it did. -/
def topKinkedUptoRow : OpenClaim := { program := "ytolhfimknimliaa", sum := "f06cce2a903f0707dd993ec088c2dfb5d2bb52277b06ce8c786ff231bad57cf0", func := "overburden/overburdentop.TopKinked", spec := "topKinked", unfollowed := true, recurses := true, plainKeys := false, apart := false, narrowed := true }
def TopKinkedUptoSaid : Prop := topKinkedUptoRow.holds Try.pinned (OpenSpec.upto topKinkedSpec)

/-- 'overburdentop.TopHits', WHERE WHAT IT READS IS OF BULK AT MOST 1048576: true; the input reads as it did. -/
def topHitsUptoRow : OpenClaim := { program := "ytolhfimknimliaa", sum := "f06cce2a903f0707dd993ec088c2dfb5d2bb52277b06ce8c786ff231bad57cf0", func := "overburden/overburdentop.TopHits", spec := "topHits", unfollowed := true, recurses := true, plainKeys := false, apart := false, narrowed := true }
def TopHitsUptoSaid : Prop := topHitsUptoRow.holds Try.pinned (OpenSpec.upto topHitsSpec)

/-- 'overburdentop.TopCampaign', WHERE WHAT IT READS IS OF BULK AT MOST 1048576: true; the input reads as it did. -/
def topCampaignUptoRow : OpenClaim := { program := "ytolhfimknimliaa", sum := "f06cce2a903f0707dd993ec088c2dfb5d2bb52277b06ce8c786ff231bad57cf0", func := "overburden/overburdentop.TopCampaign", spec := "topCampaign", unfollowed := true, recurses := true, plainKeys := false, apart := false, narrowed := true }
def TopCampaignUptoSaid : Prop := topCampaignUptoRow.holds Try.pinned (OpenSpec.upto topCampaignSpec)

end Rows
end Go.Proofs.Ytolhfimknimliaa
