/-
  No cell of these rows narrows 'for every input' (looked for: loops, veiled, ifaces, maps, wideKeys, modest, calm, conditions, laid).
  DERIVED. THE GIVEN ROWS OF THIS SEAT. 15 by the template 'for every input the law returns true; each argument reads behind the call as it read before'; 0 by the template 'total and deterministic' (their statements: YtkkjfjeniaiaiaaTotals.lean).
  GIVEN WITH THE SEED: the statements are not yours to turn. If you find one false, say at which input.
  Laid BY PROGRAM, IN A SANDBOX (cutbox-rows.mjs): the forced cells as the released guide's own fill.sh prints them over the translation ae502f0bff1557d6… (all of the seat's roots in one cut). By AI agents, Wed Nov 11 2026. No macro, syntax, notation, axiom, sorry.
-/
import Derived.Test.YtkkjfjeniaiaiaaChecked
import GoSem.Claim
import GoSem.ClaimJoined
import GoSem.ClaimMapViews
import Derived.JoinedTies
import Derived.KernelRfl
namespace Go.Proofs.Ytkkjfjeniaiaiaa
/- THE CELL 'sum', in the pinned program and in every row, IS THE sha256 OF THE DUMP (.gsa) THAT YtkkjfjeniaiaiaaProg.lean LOADS. Nothing in Lean hashes anything: it is a label: what it is worth is what the hold of that sum in a sandbox is worth. -/
noncomputable def Try.pinned : Pinned := { name := "ytkkjfjeniaiaiaa", sum := "ae502f0bff1557d6f91f6c13f22269c46d2bf272f4864c3b16de7d7be28765b0", checked := Try.checked }
namespace Rows
def none {H : Type} : Left H := { results := [], args := [] }

/-- 'overburdenlaw06.RockUnder': WHATEVER THE INPUT: true; the input reads as it did. -/
def rockUnderSpec : ChangeSpec := { name := "rockUnder", fn := fun _ => fun
  | [d1, d2, d3, d4] => { results := [.lit (.bool true)], args := [d1, d2, d3, d4] }
  | _ => none }
def rockUnderRow : OpenClaim := { program := "ytkkjfjeniaiaiaa", sum := "ae502f0bff1557d6f91f6c13f22269c46d2bf272f4864c3b16de7d7be28765b0", func := "overburden/overburdenlaw06.RockUnder", spec := "rockUnder", unfollowed := true, recurses := true, apart := false }
def RockUnderSaid : Prop := rockUnderRow.holds Try.pinned (OpenSpec.ofChange rockUnderSpec)

/-- ITS FALSE NEIGHBOUR: 'it returns false'. Refute it at one input. -/
def rockUnderWrong : ChangeSpec := { name := "rockUnder", fn := fun _ => fun
  | [d1, d2, d3, d4] => { results := [.lit (.bool false)], args := [d1, d2, d3, d4] }
  | _ => none }
def RockUnderWrongFalsely : Prop := rockUnderRow.holds Try.pinned (OpenSpec.ofChange rockUnderWrong)

/-- 'overburdenlaw06.RockGrounds': WHATEVER THE INPUT: true; the input reads as it did. -/
def rockGroundsSpec : ChangeSpec := { name := "rockGrounds", fn := fun _ => fun
  | [d1, d2, d3] => { results := [.lit (.bool true)], args := [d1, d2, d3] }
  | _ => none }
def rockGroundsRow : OpenClaim := { program := "ytkkjfjeniaiaiaa", sum := "ae502f0bff1557d6f91f6c13f22269c46d2bf272f4864c3b16de7d7be28765b0", func := "overburden/overburdenlaw06.RockGrounds", spec := "rockGrounds", unfollowed := true, recurses := true, apart := false }
def RockGroundsSaid : Prop := rockGroundsRow.holds Try.pinned (OpenSpec.ofChange rockGroundsSpec)

/-- ITS FALSE NEIGHBOUR: 'it returns false'. Refute it at one input. -/
def rockGroundsWrong : ChangeSpec := { name := "rockGrounds", fn := fun _ => fun
  | [d1, d2, d3] => { results := [.lit (.bool false)], args := [d1, d2, d3] }
  | _ => none }
def RockGroundsWrongFalsely : Prop := rockGroundsRow.holds Try.pinned (OpenSpec.ofChange rockGroundsWrong)

/-- 'overburdenlaw06.RockHorizon': WHATEVER THE INPUT: true; the input reads as it did. -/
def rockHorizonSpec : ChangeSpec := { name := "rockHorizon", fn := fun _ => fun
  | [d1, d2, d3] => { results := [.lit (.bool true)], args := [d1, d2, d3] }
  | _ => none }
def rockHorizonRow : OpenClaim := { program := "ytkkjfjeniaiaiaa", sum := "ae502f0bff1557d6f91f6c13f22269c46d2bf272f4864c3b16de7d7be28765b0", func := "overburden/overburdenlaw06.RockHorizon", spec := "rockHorizon", unfollowed := true, recurses := true, apart := false }
def RockHorizonSaid : Prop := rockHorizonRow.holds Try.pinned (OpenSpec.ofChange rockHorizonSpec)

/-- ITS FALSE NEIGHBOUR: 'it returns false'. Refute it at one input. -/
def rockHorizonWrong : ChangeSpec := { name := "rockHorizon", fn := fun _ => fun
  | [d1, d2, d3] => { results := [.lit (.bool false)], args := [d1, d2, d3] }
  | _ => none }
def RockHorizonWrongFalsely : Prop := rockHorizonRow.holds Try.pinned (OpenSpec.ofChange rockHorizonWrong)

/-- 'overburdenlaw06.RockClears': WHATEVER THE INPUT: true; the input reads as it did. -/
def rockClearsSpec : ChangeSpec := { name := "rockClears", fn := fun _ => fun
  | [d1, d2, d3, d4, d5] => { results := [.lit (.bool true)], args := [d1, d2, d3, d4, d5] }
  | _ => none }
def rockClearsRow : OpenClaim := { program := "ytkkjfjeniaiaiaa", sum := "ae502f0bff1557d6f91f6c13f22269c46d2bf272f4864c3b16de7d7be28765b0", func := "overburden/overburdenlaw06.RockClears", spec := "rockClears", unfollowed := true, recurses := true, apart := false }
def RockClearsSaid : Prop := rockClearsRow.holds Try.pinned (OpenSpec.ofChange rockClearsSpec)

/-- ITS FALSE NEIGHBOUR: 'it returns false'. Refute it at one input. -/
def rockClearsWrong : ChangeSpec := { name := "rockClears", fn := fun _ => fun
  | [d1, d2, d3, d4, d5] => { results := [.lit (.bool false)], args := [d1, d2, d3, d4, d5] }
  | _ => none }
def RockClearsWrongFalsely : Prop := rockClearsRow.holds Try.pinned (OpenSpec.ofChange rockClearsWrong)

/-- 'overburdenlaw06.RockTurned': WHATEVER THE INPUT: true; the input reads as it did. -/
def rockTurnedSpec : ChangeSpec := { name := "rockTurned", fn := fun _ => fun
  | [d1, d2] => { results := [.lit (.bool true)], args := [d1, d2] }
  | _ => none }
def rockTurnedRow : OpenClaim := { program := "ytkkjfjeniaiaiaa", sum := "ae502f0bff1557d6f91f6c13f22269c46d2bf272f4864c3b16de7d7be28765b0", func := "overburden/overburdenlaw06.RockTurned", spec := "rockTurned", unfollowed := true, recurses := true, apart := false }
def RockTurnedSaid : Prop := rockTurnedRow.holds Try.pinned (OpenSpec.ofChange rockTurnedSpec)

/-- ITS FALSE NEIGHBOUR: 'it returns false'. Refute it at one input. -/
def rockTurnedWrong : ChangeSpec := { name := "rockTurned", fn := fun _ => fun
  | [d1, d2] => { results := [.lit (.bool false)], args := [d1, d2] }
  | _ => none }
def RockTurnedWrongFalsely : Prop := rockTurnedRow.holds Try.pinned (OpenSpec.ofChange rockTurnedWrong)

/-- 'overburdenlaw06.RockScaled': WHATEVER THE INPUT: true; the input reads as it did. -/
def rockScaledSpec : ChangeSpec := { name := "rockScaled", fn := fun _ => fun
  | [d1, d2, d3, d4] => { results := [.lit (.bool true)], args := [d1, d2, d3, d4] }
  | _ => none }
def rockScaledRow : OpenClaim := { program := "ytkkjfjeniaiaiaa", sum := "ae502f0bff1557d6f91f6c13f22269c46d2bf272f4864c3b16de7d7be28765b0", func := "overburden/overburdenlaw06.RockScaled", spec := "rockScaled", unfollowed := true, recurses := true, apart := false }
def RockScaledSaid : Prop := rockScaledRow.holds Try.pinned (OpenSpec.ofChange rockScaledSpec)

/-- ITS FALSE NEIGHBOUR: 'it returns false'. Refute it at one input. -/
def rockScaledWrong : ChangeSpec := { name := "rockScaled", fn := fun _ => fun
  | [d1, d2, d3, d4] => { results := [.lit (.bool false)], args := [d1, d2, d3, d4] }
  | _ => none }
def RockScaledWrongFalsely : Prop := rockScaledRow.holds Try.pinned (OpenSpec.ofChange rockScaledWrong)

/-- 'overburdenlaw06.RockParts': WHATEVER THE INPUT: true; the input reads as it did. -/
def rockPartsSpec : ChangeSpec := { name := "rockParts", fn := fun _ => fun
  | [d1, d2, d3, d4, d5] => { results := [.lit (.bool true)], args := [d1, d2, d3, d4, d5] }
  | _ => none }
def rockPartsRow : OpenClaim := { program := "ytkkjfjeniaiaiaa", sum := "ae502f0bff1557d6f91f6c13f22269c46d2bf272f4864c3b16de7d7be28765b0", func := "overburden/overburdenlaw06.RockParts", spec := "rockParts", unfollowed := true, recurses := true, apart := false }
def RockPartsSaid : Prop := rockPartsRow.holds Try.pinned (OpenSpec.ofChange rockPartsSpec)

/-- ITS FALSE NEIGHBOUR: 'it returns false'. Refute it at one input. -/
def rockPartsWrong : ChangeSpec := { name := "rockParts", fn := fun _ => fun
  | [d1, d2, d3, d4, d5] => { results := [.lit (.bool false)], args := [d1, d2, d3, d4, d5] }
  | _ => none }
def RockPartsWrongFalsely : Prop := rockPartsRow.holds Try.pinned (OpenSpec.ofChange rockPartsWrong)

/-- 'overburdenlaw06.RockPoints': WHATEVER THE INPUT: true; the input reads as it did. -/
def rockPointsSpec : ChangeSpec := { name := "rockPoints", fn := fun _ => fun
  | [d1, d2, d3] => { results := [.lit (.bool true)], args := [d1, d2, d3] }
  | _ => none }
def rockPointsRow : OpenClaim := { program := "ytkkjfjeniaiaiaa", sum := "ae502f0bff1557d6f91f6c13f22269c46d2bf272f4864c3b16de7d7be28765b0", func := "overburden/overburdenlaw06.RockPoints", spec := "rockPoints", unfollowed := true, recurses := true, apart := false }
def RockPointsSaid : Prop := rockPointsRow.holds Try.pinned (OpenSpec.ofChange rockPointsSpec)

/-- ITS FALSE NEIGHBOUR: 'it returns false'. Refute it at one input. -/
def rockPointsWrong : ChangeSpec := { name := "rockPoints", fn := fun _ => fun
  | [d1, d2, d3] => { results := [.lit (.bool false)], args := [d1, d2, d3] }
  | _ => none }
def RockPointsWrongFalsely : Prop := rockPointsRow.holds Try.pinned (OpenSpec.ofChange rockPointsWrong)

/-- 'overburdenlaw06.RockBounds': WHATEVER THE INPUT: true; the input reads as it did. -/
def rockBoundsSpec : ChangeSpec := { name := "rockBounds", fn := fun _ => fun
  | [d1, d2, d3, d4, d5] => { results := [.lit (.bool true)], args := [d1, d2, d3, d4, d5] }
  | _ => none }
def rockBoundsRow : OpenClaim := { program := "ytkkjfjeniaiaiaa", sum := "ae502f0bff1557d6f91f6c13f22269c46d2bf272f4864c3b16de7d7be28765b0", func := "overburden/overburdenlaw06.RockBounds", spec := "rockBounds", unfollowed := true, recurses := true, apart := false }
def RockBoundsSaid : Prop := rockBoundsRow.holds Try.pinned (OpenSpec.ofChange rockBoundsSpec)

/-- ITS FALSE NEIGHBOUR: 'it returns false'. Refute it at one input. -/
def rockBoundsWrong : ChangeSpec := { name := "rockBounds", fn := fun _ => fun
  | [d1, d2, d3, d4, d5] => { results := [.lit (.bool false)], args := [d1, d2, d3, d4, d5] }
  | _ => none }
def RockBoundsWrongFalsely : Prop := rockBoundsRow.holds Try.pinned (OpenSpec.ofChange rockBoundsWrong)

/-- 'overburdenlaw06.RockTrue': WHATEVER THE INPUT: true; the input reads as it did. -/
def rockTrueSpec : ChangeSpec := { name := "rockTrue", fn := fun _ => fun
  | [d1, d2, d3, d4, d5, d6, d7] => { results := [.lit (.bool true)], args := [d1, d2, d3, d4, d5, d6, d7] }
  | _ => none }
def rockTrueRow : OpenClaim := { program := "ytkkjfjeniaiaiaa", sum := "ae502f0bff1557d6f91f6c13f22269c46d2bf272f4864c3b16de7d7be28765b0", func := "overburden/overburdenlaw06.RockTrue", spec := "rockTrue", unfollowed := true, recurses := true, apart := false }
def RockTrueSaid : Prop := rockTrueRow.holds Try.pinned (OpenSpec.ofChange rockTrueSpec)

/-- ITS FALSE NEIGHBOUR: 'it returns false'. Refute it at one input. -/
def rockTrueWrong : ChangeSpec := { name := "rockTrue", fn := fun _ => fun
  | [d1, d2, d3, d4, d5, d6, d7] => { results := [.lit (.bool false)], args := [d1, d2, d3, d4, d5, d6, d7] }
  | _ => none }
def RockTrueWrongFalsely : Prop := rockTrueRow.holds Try.pinned (OpenSpec.ofChange rockTrueWrong)

/-- 'overburdenlaw06.RockChords': WHATEVER THE INPUT: true; the input reads as it did. -/
def rockChordsSpec : ChangeSpec := { name := "rockChords", fn := fun _ => fun
  | [d1, d2] => { results := [.lit (.bool true)], args := [d1, d2] }
  | _ => none }
def rockChordsRow : OpenClaim := { program := "ytkkjfjeniaiaiaa", sum := "ae502f0bff1557d6f91f6c13f22269c46d2bf272f4864c3b16de7d7be28765b0", func := "overburden/overburdenlaw06.RockChords", spec := "rockChords", unfollowed := true, recurses := true, apart := false }
def RockChordsSaid : Prop := rockChordsRow.holds Try.pinned (OpenSpec.ofChange rockChordsSpec)

/-- ITS FALSE NEIGHBOUR: 'it returns false'. Refute it at one input. -/
def rockChordsWrong : ChangeSpec := { name := "rockChords", fn := fun _ => fun
  | [d1, d2] => { results := [.lit (.bool false)], args := [d1, d2] }
  | _ => none }
def RockChordsWrongFalsely : Prop := rockChordsRow.holds Try.pinned (OpenSpec.ofChange rockChordsWrong)

/-- 'overburdenlaw06.RockBack': WHATEVER THE INPUT: true; the input reads as it did. -/
def rockBackSpec : ChangeSpec := { name := "rockBack", fn := fun _ => fun
  | [d1, d2, d3, d4] => { results := [.lit (.bool true)], args := [d1, d2, d3, d4] }
  | _ => none }
def rockBackRow : OpenClaim := { program := "ytkkjfjeniaiaiaa", sum := "ae502f0bff1557d6f91f6c13f22269c46d2bf272f4864c3b16de7d7be28765b0", func := "overburden/overburdenlaw06.RockBack", spec := "rockBack", unfollowed := true, recurses := true, apart := false }
def RockBackSaid : Prop := rockBackRow.holds Try.pinned (OpenSpec.ofChange rockBackSpec)

/-- ITS FALSE NEIGHBOUR: 'it returns false'. Refute it at one input. -/
def rockBackWrong : ChangeSpec := { name := "rockBack", fn := fun _ => fun
  | [d1, d2, d3, d4] => { results := [.lit (.bool false)], args := [d1, d2, d3, d4] }
  | _ => none }
def RockBackWrongFalsely : Prop := rockBackRow.holds Try.pinned (OpenSpec.ofChange rockBackWrong)

/-- 'overburdenlaw06.RockEither': WHATEVER THE INPUT: true; the input reads as it did. -/
def rockEitherSpec : ChangeSpec := { name := "rockEither", fn := fun _ => fun
  | [d1, d2, d3, d4] => { results := [.lit (.bool true)], args := [d1, d2, d3, d4] }
  | _ => none }
def rockEitherRow : OpenClaim := { program := "ytkkjfjeniaiaiaa", sum := "ae502f0bff1557d6f91f6c13f22269c46d2bf272f4864c3b16de7d7be28765b0", func := "overburden/overburdenlaw06.RockEither", spec := "rockEither", unfollowed := true, recurses := true, apart := false }
def RockEitherSaid : Prop := rockEitherRow.holds Try.pinned (OpenSpec.ofChange rockEitherSpec)

/-- ITS FALSE NEIGHBOUR: 'it returns false'. Refute it at one input. -/
def rockEitherWrong : ChangeSpec := { name := "rockEither", fn := fun _ => fun
  | [d1, d2, d3, d4] => { results := [.lit (.bool false)], args := [d1, d2, d3, d4] }
  | _ => none }
def RockEitherWrongFalsely : Prop := rockEitherRow.holds Try.pinned (OpenSpec.ofChange rockEitherWrong)

/-- 'overburdenlaw06.RockMore': WHATEVER THE INPUT: true; the input reads as it did. -/
def rockMoreSpec : ChangeSpec := { name := "rockMore", fn := fun _ => fun
  | [d1, d2, d3, d4, d5] => { results := [.lit (.bool true)], args := [d1, d2, d3, d4, d5] }
  | _ => none }
def rockMoreRow : OpenClaim := { program := "ytkkjfjeniaiaiaa", sum := "ae502f0bff1557d6f91f6c13f22269c46d2bf272f4864c3b16de7d7be28765b0", func := "overburden/overburdenlaw06.RockMore", spec := "rockMore", unfollowed := true, recurses := true, apart := false }
def RockMoreSaid : Prop := rockMoreRow.holds Try.pinned (OpenSpec.ofChange rockMoreSpec)

/-- ITS FALSE NEIGHBOUR: 'it returns false'. Refute it at one input. -/
def rockMoreWrong : ChangeSpec := { name := "rockMore", fn := fun _ => fun
  | [d1, d2, d3, d4, d5] => { results := [.lit (.bool false)], args := [d1, d2, d3, d4, d5] }
  | _ => none }
def RockMoreWrongFalsely : Prop := rockMoreRow.holds Try.pinned (OpenSpec.ofChange rockMoreWrong)

/-- 'overburdenlaw06.RockBetween': WHATEVER THE INPUT: true; the input reads as it did. -/
def rockBetweenSpec : ChangeSpec := { name := "rockBetween", fn := fun _ => fun
  | [d1, d2, d3, d4, d5] => { results := [.lit (.bool true)], args := [d1, d2, d3, d4, d5] }
  | _ => none }
def rockBetweenRow : OpenClaim := { program := "ytkkjfjeniaiaiaa", sum := "ae502f0bff1557d6f91f6c13f22269c46d2bf272f4864c3b16de7d7be28765b0", func := "overburden/overburdenlaw06.RockBetween", spec := "rockBetween", unfollowed := true, recurses := true, apart := false }
def RockBetweenSaid : Prop := rockBetweenRow.holds Try.pinned (OpenSpec.ofChange rockBetweenSpec)

/-- ITS FALSE NEIGHBOUR: 'it returns false'. Refute it at one input. -/
def rockBetweenWrong : ChangeSpec := { name := "rockBetween", fn := fun _ => fun
  | [d1, d2, d3, d4, d5] => { results := [.lit (.bool false)], args := [d1, d2, d3, d4, d5] }
  | _ => none }
def RockBetweenWrongFalsely : Prop := rockBetweenRow.holds Try.pinned (OpenSpec.ofChange rockBetweenWrong)

/- THE SECOND FORM. 'bulk': how many values and letters a reading holds, each counted each time it is reached (what is shared counts as often as it is met; a slice's spare places count too). A statement '..UptoSaid' is the law's where the arguments, and the package variables that the reading takes, are together of bulk at most 1048576: NARROWER than '..Said'. Prove '..Said' where nothing that the law and all that it calls make is longer than what came in: it says more and counts as full. Else prove '..UptoSaid'. A law counts once. -/
mutual
def uptoBulk {H : Type} : DataW H → Nat
  | .lit (.string bytes) => bytes.length + 1
  | .lit _ => 1
  | .nil => 1
  | .ptr d => uptoBulk d + 1
  | .slice elems spare => uptoBulkAll elems + uptoBulkAll spare + 1
  | .agg parts => uptoBulkAll parts + 1
  | .iface _ d => uptoBulk d + 1
  | .map entries => uptoBulkEntries entries + 1
  | .held _ => 1
def uptoBulkAll {H : Type} : List (DataW H) → Nat
  | [] => 0
  | d :: r => uptoBulk d + uptoBulkAll r
def uptoBulkEntries {H : Type} : List (Lit × DataW H) → Nat
  | [] => 0
  | x :: r => uptoBulkEntry x + uptoBulkEntries r
def uptoBulkEntry {H : Type} : Lit × DataW H → Nat
  | (.string bytes, d) => bytes.length + uptoBulk d + 1
  | (_, d) => uptoBulk d + 1
 end
def uptoSmall : (H : Type) → List (DataW H) → Bool := fun _ ds => decide (uptoBulkAll ds ≤ 1048576)
def OpenSpec.upto (s : _root_.Go.ChangeSpec) : _root_.Go.OpenSpec := { _root_.Go.OpenSpec.ofChange s with cond := some uptoSmall }

/-- 'overburdenlaw06.RockUnder', WHERE WHAT IT READS IS OF BULK AT MOST 1048576: true; the input reads as it did. -/
def rockUnderUptoRow : OpenClaim := { program := "ytkkjfjeniaiaiaa", sum := "ae502f0bff1557d6f91f6c13f22269c46d2bf272f4864c3b16de7d7be28765b0", func := "overburden/overburdenlaw06.RockUnder", spec := "rockUnder", unfollowed := true, recurses := true, apart := false, narrowed := true }
def RockUnderUptoSaid : Prop := rockUnderUptoRow.holds Try.pinned (OpenSpec.upto rockUnderSpec)

/-- 'overburdenlaw06.RockGrounds', WHERE WHAT IT READS IS OF BULK AT MOST 1048576: true; the input reads as it did. -/
def rockGroundsUptoRow : OpenClaim := { program := "ytkkjfjeniaiaiaa", sum := "ae502f0bff1557d6f91f6c13f22269c46d2bf272f4864c3b16de7d7be28765b0", func := "overburden/overburdenlaw06.RockGrounds", spec := "rockGrounds", unfollowed := true, recurses := true, apart := false, narrowed := true }
def RockGroundsUptoSaid : Prop := rockGroundsUptoRow.holds Try.pinned (OpenSpec.upto rockGroundsSpec)

/-- 'overburdenlaw06.RockHorizon', WHERE WHAT IT READS IS OF BULK AT MOST 1048576: true; the input reads as it did. -/
def rockHorizonUptoRow : OpenClaim := { program := "ytkkjfjeniaiaiaa", sum := "ae502f0bff1557d6f91f6c13f22269c46d2bf272f4864c3b16de7d7be28765b0", func := "overburden/overburdenlaw06.RockHorizon", spec := "rockHorizon", unfollowed := true, recurses := true, apart := false, narrowed := true }
def RockHorizonUptoSaid : Prop := rockHorizonUptoRow.holds Try.pinned (OpenSpec.upto rockHorizonSpec)

/-- 'overburdenlaw06.RockClears', WHERE WHAT IT READS IS OF BULK AT MOST 1048576: true; the input reads as it did. -/
def rockClearsUptoRow : OpenClaim := { program := "ytkkjfjeniaiaiaa", sum := "ae502f0bff1557d6f91f6c13f22269c46d2bf272f4864c3b16de7d7be28765b0", func := "overburden/overburdenlaw06.RockClears", spec := "rockClears", unfollowed := true, recurses := true, apart := false, narrowed := true }
def RockClearsUptoSaid : Prop := rockClearsUptoRow.holds Try.pinned (OpenSpec.upto rockClearsSpec)

/-- 'overburdenlaw06.RockTurned', WHERE WHAT IT READS IS OF BULK AT MOST 1048576: true; the input reads as it did. -/
def rockTurnedUptoRow : OpenClaim := { program := "ytkkjfjeniaiaiaa", sum := "ae502f0bff1557d6f91f6c13f22269c46d2bf272f4864c3b16de7d7be28765b0", func := "overburden/overburdenlaw06.RockTurned", spec := "rockTurned", unfollowed := true, recurses := true, apart := false, narrowed := true }
def RockTurnedUptoSaid : Prop := rockTurnedUptoRow.holds Try.pinned (OpenSpec.upto rockTurnedSpec)

/-- 'overburdenlaw06.RockScaled', WHERE WHAT IT READS IS OF BULK AT MOST 1048576: true; the input reads as it did. -/
def rockScaledUptoRow : OpenClaim := { program := "ytkkjfjeniaiaiaa", sum := "ae502f0bff1557d6f91f6c13f22269c46d2bf272f4864c3b16de7d7be28765b0", func := "overburden/overburdenlaw06.RockScaled", spec := "rockScaled", unfollowed := true, recurses := true, apart := false, narrowed := true }
def RockScaledUptoSaid : Prop := rockScaledUptoRow.holds Try.pinned (OpenSpec.upto rockScaledSpec)

/-- 'overburdenlaw06.RockParts', WHERE WHAT IT READS IS OF BULK AT MOST 1048576: true; the input reads as it did. -/
def rockPartsUptoRow : OpenClaim := { program := "ytkkjfjeniaiaiaa", sum := "ae502f0bff1557d6f91f6c13f22269c46d2bf272f4864c3b16de7d7be28765b0", func := "overburden/overburdenlaw06.RockParts", spec := "rockParts", unfollowed := true, recurses := true, apart := false, narrowed := true }
def RockPartsUptoSaid : Prop := rockPartsUptoRow.holds Try.pinned (OpenSpec.upto rockPartsSpec)

/-- 'overburdenlaw06.RockPoints', WHERE WHAT IT READS IS OF BULK AT MOST 1048576: true; the input reads as it did. -/
def rockPointsUptoRow : OpenClaim := { program := "ytkkjfjeniaiaiaa", sum := "ae502f0bff1557d6f91f6c13f22269c46d2bf272f4864c3b16de7d7be28765b0", func := "overburden/overburdenlaw06.RockPoints", spec := "rockPoints", unfollowed := true, recurses := true, apart := false, narrowed := true }
def RockPointsUptoSaid : Prop := rockPointsUptoRow.holds Try.pinned (OpenSpec.upto rockPointsSpec)

/-- 'overburdenlaw06.RockBounds', WHERE WHAT IT READS IS OF BULK AT MOST 1048576: true; the input reads as it did. -/
def rockBoundsUptoRow : OpenClaim := { program := "ytkkjfjeniaiaiaa", sum := "ae502f0bff1557d6f91f6c13f22269c46d2bf272f4864c3b16de7d7be28765b0", func := "overburden/overburdenlaw06.RockBounds", spec := "rockBounds", unfollowed := true, recurses := true, apart := false, narrowed := true }
def RockBoundsUptoSaid : Prop := rockBoundsUptoRow.holds Try.pinned (OpenSpec.upto rockBoundsSpec)

/-- 'overburdenlaw06.RockTrue', WHERE WHAT IT READS IS OF BULK AT MOST 1048576: true; the input reads as it did. -/
def rockTrueUptoRow : OpenClaim := { program := "ytkkjfjeniaiaiaa", sum := "ae502f0bff1557d6f91f6c13f22269c46d2bf272f4864c3b16de7d7be28765b0", func := "overburden/overburdenlaw06.RockTrue", spec := "rockTrue", unfollowed := true, recurses := true, apart := false, narrowed := true }
def RockTrueUptoSaid : Prop := rockTrueUptoRow.holds Try.pinned (OpenSpec.upto rockTrueSpec)

/-- 'overburdenlaw06.RockChords', WHERE WHAT IT READS IS OF BULK AT MOST 1048576: true; the input reads as it did. -/
def rockChordsUptoRow : OpenClaim := { program := "ytkkjfjeniaiaiaa", sum := "ae502f0bff1557d6f91f6c13f22269c46d2bf272f4864c3b16de7d7be28765b0", func := "overburden/overburdenlaw06.RockChords", spec := "rockChords", unfollowed := true, recurses := true, apart := false, narrowed := true }
def RockChordsUptoSaid : Prop := rockChordsUptoRow.holds Try.pinned (OpenSpec.upto rockChordsSpec)

/-- 'overburdenlaw06.RockBack', WHERE WHAT IT READS IS OF BULK AT MOST 1048576: true; the input reads as it did. -/
def rockBackUptoRow : OpenClaim := { program := "ytkkjfjeniaiaiaa", sum := "ae502f0bff1557d6f91f6c13f22269c46d2bf272f4864c3b16de7d7be28765b0", func := "overburden/overburdenlaw06.RockBack", spec := "rockBack", unfollowed := true, recurses := true, apart := false, narrowed := true }
def RockBackUptoSaid : Prop := rockBackUptoRow.holds Try.pinned (OpenSpec.upto rockBackSpec)

/-- 'overburdenlaw06.RockEither', WHERE WHAT IT READS IS OF BULK AT MOST 1048576: true; the input reads as it did. -/
def rockEitherUptoRow : OpenClaim := { program := "ytkkjfjeniaiaiaa", sum := "ae502f0bff1557d6f91f6c13f22269c46d2bf272f4864c3b16de7d7be28765b0", func := "overburden/overburdenlaw06.RockEither", spec := "rockEither", unfollowed := true, recurses := true, apart := false, narrowed := true }
def RockEitherUptoSaid : Prop := rockEitherUptoRow.holds Try.pinned (OpenSpec.upto rockEitherSpec)

/-- 'overburdenlaw06.RockMore', WHERE WHAT IT READS IS OF BULK AT MOST 1048576: true; the input reads as it did. -/
def rockMoreUptoRow : OpenClaim := { program := "ytkkjfjeniaiaiaa", sum := "ae502f0bff1557d6f91f6c13f22269c46d2bf272f4864c3b16de7d7be28765b0", func := "overburden/overburdenlaw06.RockMore", spec := "rockMore", unfollowed := true, recurses := true, apart := false, narrowed := true }
def RockMoreUptoSaid : Prop := rockMoreUptoRow.holds Try.pinned (OpenSpec.upto rockMoreSpec)

/-- 'overburdenlaw06.RockBetween', WHERE WHAT IT READS IS OF BULK AT MOST 1048576: true; the input reads as it did. -/
def rockBetweenUptoRow : OpenClaim := { program := "ytkkjfjeniaiaiaa", sum := "ae502f0bff1557d6f91f6c13f22269c46d2bf272f4864c3b16de7d7be28765b0", func := "overburden/overburdenlaw06.RockBetween", spec := "rockBetween", unfollowed := true, recurses := true, apart := false, narrowed := true }
def RockBetweenUptoSaid : Prop := rockBetweenUptoRow.holds Try.pinned (OpenSpec.upto rockBetweenSpec)

end Rows
end Go.Proofs.Ytkkjfjeniaiaiaa
