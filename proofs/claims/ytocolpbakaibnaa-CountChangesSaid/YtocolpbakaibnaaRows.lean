/-
  No cell of these rows narrows 'for every input' (looked for: loops, veiled, ifaces, maps, wideKeys, modest, calm, conditions, laid).
  DERIVED. THE GIVEN ROWS OF THIS SEAT. 12 by the template 'for every input the law returns true; each argument reads behind the call as it read before'; 0 by the template 'total and deterministic' (their statements: YtocolpbakaibnaaTotals.lean).
  GIVEN WITH THE SEED: the statements are not yours to turn. If you find one false, say at which input.
  Laid BY PROGRAM, IN A SANDBOX (cutbox-rows.mjs): the forced cells as the released guide's own fill.sh prints them over the translation d8726df138f6e9fe… (all of the seat's roots in one cut). By AI agents, Wed Nov 11 2026. No macro, syntax, notation, axiom, sorry.
-/
import Derived.Test.YtocolpbakaibnaaChecked
import GoSem.Claim
import GoSem.ClaimJoined
import GoSem.ClaimMapViews
import Derived.JoinedTies
import Derived.KernelRfl
namespace Go.Proofs.Ytocolpbakaibnaa
/- THE CELL 'sum', in the pinned program and in every row, IS THE sha256 OF THE DUMP (.gsa) THAT YtocolpbakaibnaaProg.lean LOADS. Nothing in Lean hashes anything: it is a label: what it is worth is what the hold of that sum in a sandbox is worth. -/
noncomputable def Try.pinned : Pinned := { name := "ytocolpbakaibnaa", sum := "d8726df138f6e9fe923b4ec1f2dc8d26cd01a52de3f5b4a494a40f7721b76875", checked := Try.checked }
namespace Rows
def none {H : Type} : Left H := { results := [], args := [] }

/-- 'overburdenlaw07.CountBets': WHATEVER THE INPUT: true; the input reads as it did. -/
def countBetsSpec : ChangeSpec := { name := "countBets", fn := fun _ => fun
  | [d1, d2, d3, d4, d5] => { results := [.lit (.bool true)], args := [d1, d2, d3, d4, d5] }
  | _ => none }
def countBetsRow : OpenClaim := { program := "ytocolpbakaibnaa", sum := "d8726df138f6e9fe923b4ec1f2dc8d26cd01a52de3f5b4a494a40f7721b76875", func := "overburden/overburdenlaw07.CountBets", spec := "countBets", unfollowed := true, recurses := true, apart := false }
def CountBetsSaid : Prop := countBetsRow.holds Try.pinned (OpenSpec.ofChange countBetsSpec)

/-- ITS FALSE NEIGHBOUR: 'it returns false'. Refute it at one input. -/
def countBetsWrong : ChangeSpec := { name := "countBets", fn := fun _ => fun
  | [d1, d2, d3, d4, d5] => { results := [.lit (.bool false)], args := [d1, d2, d3, d4, d5] }
  | _ => none }
def CountBetsWrongFalsely : Prop := countBetsRow.holds Try.pinned (OpenSpec.ofChange countBetsWrong)

/-- 'overburdenlaw07.CountSure': WHATEVER THE INPUT: true; the input reads as it did. -/
def countSureSpec : ChangeSpec := { name := "countSure", fn := fun _ => fun
  | [d1, d2, d3, d4] => { results := [.lit (.bool true)], args := [d1, d2, d3, d4] }
  | _ => none }
def countSureRow : OpenClaim := { program := "ytocolpbakaibnaa", sum := "d8726df138f6e9fe923b4ec1f2dc8d26cd01a52de3f5b4a494a40f7721b76875", func := "overburden/overburdenlaw07.CountSure", spec := "countSure", unfollowed := true, recurses := true, apart := false }
def CountSureSaid : Prop := countSureRow.holds Try.pinned (OpenSpec.ofChange countSureSpec)

/-- ITS FALSE NEIGHBOUR: 'it returns false'. Refute it at one input. -/
def countSureWrong : ChangeSpec := { name := "countSure", fn := fun _ => fun
  | [d1, d2, d3, d4] => { results := [.lit (.bool false)], args := [d1, d2, d3, d4] }
  | _ => none }
def CountSureWrongFalsely : Prop := countSureRow.holds Try.pinned (OpenSpec.ofChange countSureWrong)

/-- 'overburdenlaw07.CountRight': WHATEVER THE INPUT: true; the input reads as it did. -/
def countRightSpec : ChangeSpec := { name := "countRight", fn := fun _ => fun
  | [d1, d2, d3, d4, d5, d6, d7] => { results := [.lit (.bool true)], args := [d1, d2, d3, d4, d5, d6, d7] }
  | _ => none }
def countRightRow : OpenClaim := { program := "ytocolpbakaibnaa", sum := "d8726df138f6e9fe923b4ec1f2dc8d26cd01a52de3f5b4a494a40f7721b76875", func := "overburden/overburdenlaw07.CountRight", spec := "countRight", unfollowed := true, recurses := true, apart := false }
def CountRightSaid : Prop := countRightRow.holds Try.pinned (OpenSpec.ofChange countRightSpec)

/-- ITS FALSE NEIGHBOUR: 'it returns false'. Refute it at one input. -/
def countRightWrong : ChangeSpec := { name := "countRight", fn := fun _ => fun
  | [d1, d2, d3, d4, d5, d6, d7] => { results := [.lit (.bool false)], args := [d1, d2, d3, d4, d5, d6, d7] }
  | _ => none }
def CountRightWrongFalsely : Prop := countRightRow.holds Try.pinned (OpenSpec.ofChange countRightWrong)

/-- 'overburdenlaw07.CountTails': WHATEVER THE INPUT: true; the input reads as it did. -/
def countTailsSpec : ChangeSpec := { name := "countTails", fn := fun _ => fun
  | [d1, d2, d3, d4] => { results := [.lit (.bool true)], args := [d1, d2, d3, d4] }
  | _ => none }
def countTailsRow : OpenClaim := { program := "ytocolpbakaibnaa", sum := "d8726df138f6e9fe923b4ec1f2dc8d26cd01a52de3f5b4a494a40f7721b76875", func := "overburden/overburdenlaw07.CountTails", spec := "countTails", unfollowed := true, recurses := true, apart := false }
def CountTailsSaid : Prop := countTailsRow.holds Try.pinned (OpenSpec.ofChange countTailsSpec)

/-- ITS FALSE NEIGHBOUR: 'it returns false'. Refute it at one input. -/
def countTailsWrong : ChangeSpec := { name := "countTails", fn := fun _ => fun
  | [d1, d2, d3, d4] => { results := [.lit (.bool false)], args := [d1, d2, d3, d4] }
  | _ => none }
def CountTailsWrongFalsely : Prop := countTailsRow.holds Try.pinned (OpenSpec.ofChange countTailsWrong)

/-- 'overburdenlaw07.CountWeighs': WHATEVER THE INPUT: true; the input reads as it did. -/
def countWeighsSpec : ChangeSpec := { name := "countWeighs", fn := fun _ => fun
  | [d1, d2, d3, d4, d5, d6] => { results := [.lit (.bool true)], args := [d1, d2, d3, d4, d5, d6] }
  | _ => none }
def countWeighsRow : OpenClaim := { program := "ytocolpbakaibnaa", sum := "d8726df138f6e9fe923b4ec1f2dc8d26cd01a52de3f5b4a494a40f7721b76875", func := "overburden/overburdenlaw07.CountWeighs", spec := "countWeighs", unfollowed := true, recurses := true, apart := false }
def CountWeighsSaid : Prop := countWeighsRow.holds Try.pinned (OpenSpec.ofChange countWeighsSpec)

/-- ITS FALSE NEIGHBOUR: 'it returns false'. Refute it at one input. -/
def countWeighsWrong : ChangeSpec := { name := "countWeighs", fn := fun _ => fun
  | [d1, d2, d3, d4, d5, d6] => { results := [.lit (.bool false)], args := [d1, d2, d3, d4, d5, d6] }
  | _ => none }
def CountWeighsWrongFalsely : Prop := countWeighsRow.holds Try.pinned (OpenSpec.ofChange countWeighsWrong)

/-- 'overburdenlaw07.CountTurns': WHATEVER THE INPUT: true; the input reads as it did. -/
def countTurnsSpec : ChangeSpec := { name := "countTurns", fn := fun _ => fun
  | [d1, d2, d3, d4] => { results := [.lit (.bool true)], args := [d1, d2, d3, d4] }
  | _ => none }
def countTurnsRow : OpenClaim := { program := "ytocolpbakaibnaa", sum := "d8726df138f6e9fe923b4ec1f2dc8d26cd01a52de3f5b4a494a40f7721b76875", func := "overburden/overburdenlaw07.CountTurns", spec := "countTurns", unfollowed := true, recurses := true, apart := false }
def CountTurnsSaid : Prop := countTurnsRow.holds Try.pinned (OpenSpec.ofChange countTurnsSpec)

/-- ITS FALSE NEIGHBOUR: 'it returns false'. Refute it at one input. -/
def countTurnsWrong : ChangeSpec := { name := "countTurns", fn := fun _ => fun
  | [d1, d2, d3, d4] => { results := [.lit (.bool false)], args := [d1, d2, d3, d4] }
  | _ => none }
def CountTurnsWrongFalsely : Prop := countTurnsRow.holds Try.pinned (OpenSpec.ofChange countTurnsWrong)

/-- 'overburdenlaw07.CountCapital': WHATEVER THE INPUT: true; the input reads as it did. -/
def countCapitalSpec : ChangeSpec := { name := "countCapital", fn := fun _ => fun
  | [d1, d2, d3, d4] => { results := [.lit (.bool true)], args := [d1, d2, d3, d4] }
  | _ => none }
def countCapitalRow : OpenClaim := { program := "ytocolpbakaibnaa", sum := "d8726df138f6e9fe923b4ec1f2dc8d26cd01a52de3f5b4a494a40f7721b76875", func := "overburden/overburdenlaw07.CountCapital", spec := "countCapital", unfollowed := true, recurses := true, apart := false }
def CountCapitalSaid : Prop := countCapitalRow.holds Try.pinned (OpenSpec.ofChange countCapitalSpec)

/-- ITS FALSE NEIGHBOUR: 'it returns false'. Refute it at one input. -/
def countCapitalWrong : ChangeSpec := { name := "countCapital", fn := fun _ => fun
  | [d1, d2, d3, d4] => { results := [.lit (.bool false)], args := [d1, d2, d3, d4] }
  | _ => none }
def CountCapitalWrongFalsely : Prop := countCapitalRow.holds Try.pinned (OpenSpec.ofChange countCapitalWrong)

/-- 'overburdenlaw07.CountKept': WHATEVER THE INPUT: true; the input reads as it did. -/
def countKeptSpec : ChangeSpec := { name := "countKept", fn := fun _ => fun
  | [d1, d2, d3, d4] => { results := [.lit (.bool true)], args := [d1, d2, d3, d4] }
  | _ => none }
def countKeptRow : OpenClaim := { program := "ytocolpbakaibnaa", sum := "d8726df138f6e9fe923b4ec1f2dc8d26cd01a52de3f5b4a494a40f7721b76875", func := "overburden/overburdenlaw07.CountKept", spec := "countKept", unfollowed := true, recurses := true, apart := false }
def CountKeptSaid : Prop := countKeptRow.holds Try.pinned (OpenSpec.ofChange countKeptSpec)

/-- ITS FALSE NEIGHBOUR: 'it returns false'. Refute it at one input. -/
def countKeptWrong : ChangeSpec := { name := "countKept", fn := fun _ => fun
  | [d1, d2, d3, d4] => { results := [.lit (.bool false)], args := [d1, d2, d3, d4] }
  | _ => none }
def CountKeptWrongFalsely : Prop := countKeptRow.holds Try.pinned (OpenSpec.ofChange countKeptWrong)

/-- 'overburdenlaw07.CountStops': WHATEVER THE INPUT: true; the input reads as it did. -/
def countStopsSpec : ChangeSpec := { name := "countStops", fn := fun _ => fun
  | [d1, d2, d3, d4] => { results := [.lit (.bool true)], args := [d1, d2, d3, d4] }
  | _ => none }
def countStopsRow : OpenClaim := { program := "ytocolpbakaibnaa", sum := "d8726df138f6e9fe923b4ec1f2dc8d26cd01a52de3f5b4a494a40f7721b76875", func := "overburden/overburdenlaw07.CountStops", spec := "countStops", unfollowed := true, recurses := true, apart := false }
def CountStopsSaid : Prop := countStopsRow.holds Try.pinned (OpenSpec.ofChange countStopsSpec)

/-- ITS FALSE NEIGHBOUR: 'it returns false'. Refute it at one input. -/
def countStopsWrong : ChangeSpec := { name := "countStops", fn := fun _ => fun
  | [d1, d2, d3, d4] => { results := [.lit (.bool false)], args := [d1, d2, d3, d4] }
  | _ => none }
def CountStopsWrongFalsely : Prop := countStopsRow.holds Try.pinned (OpenSpec.ofChange countStopsWrong)

/-- 'overburdenlaw07.CountChanges': WHATEVER THE INPUT: true; the input reads as it did. -/
def countChangesSpec : ChangeSpec := { name := "countChanges", fn := fun _ => fun
  | [d1, d2, d3] => { results := [.lit (.bool true)], args := [d1, d2, d3] }
  | _ => none }
def countChangesRow : OpenClaim := { program := "ytocolpbakaibnaa", sum := "d8726df138f6e9fe923b4ec1f2dc8d26cd01a52de3f5b4a494a40f7721b76875", func := "overburden/overburdenlaw07.CountChanges", spec := "countChanges", unfollowed := true, recurses := true, apart := false }
def CountChangesSaid : Prop := countChangesRow.holds Try.pinned (OpenSpec.ofChange countChangesSpec)

/-- ITS FALSE NEIGHBOUR: 'it returns false'. Refute it at one input. -/
def countChangesWrong : ChangeSpec := { name := "countChanges", fn := fun _ => fun
  | [d1, d2, d3] => { results := [.lit (.bool false)], args := [d1, d2, d3] }
  | _ => none }
def CountChangesWrongFalsely : Prop := countChangesRow.holds Try.pinned (OpenSpec.ofChange countChangesWrong)

/-- 'overburdenlaw07.CountSteady': WHATEVER THE INPUT: true; the input reads as it did. -/
def countSteadySpec : ChangeSpec := { name := "countSteady", fn := fun _ => fun
  | [d1, d2, d3, d4] => { results := [.lit (.bool true)], args := [d1, d2, d3, d4] }
  | _ => none }
def countSteadyRow : OpenClaim := { program := "ytocolpbakaibnaa", sum := "d8726df138f6e9fe923b4ec1f2dc8d26cd01a52de3f5b4a494a40f7721b76875", func := "overburden/overburdenlaw07.CountSteady", spec := "countSteady", unfollowed := true, recurses := true, apart := false }
def CountSteadySaid : Prop := countSteadyRow.holds Try.pinned (OpenSpec.ofChange countSteadySpec)

/-- ITS FALSE NEIGHBOUR: 'it returns false'. Refute it at one input. -/
def countSteadyWrong : ChangeSpec := { name := "countSteady", fn := fun _ => fun
  | [d1, d2, d3, d4] => { results := [.lit (.bool false)], args := [d1, d2, d3, d4] }
  | _ => none }
def CountSteadyWrongFalsely : Prop := countSteadyRow.holds Try.pinned (OpenSpec.ofChange countSteadyWrong)

/-- 'overburdenlaw07.CountCompares': WHATEVER THE INPUT: true; the input reads as it did. -/
def countComparesSpec : ChangeSpec := { name := "countCompares", fn := fun _ => fun
  | [d1, d2, d3, d4] => { results := [.lit (.bool true)], args := [d1, d2, d3, d4] }
  | _ => none }
def countComparesRow : OpenClaim := { program := "ytocolpbakaibnaa", sum := "d8726df138f6e9fe923b4ec1f2dc8d26cd01a52de3f5b4a494a40f7721b76875", func := "overburden/overburdenlaw07.CountCompares", spec := "countCompares", unfollowed := true, recurses := true, apart := false }
def CountComparesSaid : Prop := countComparesRow.holds Try.pinned (OpenSpec.ofChange countComparesSpec)

/-- ITS FALSE NEIGHBOUR: 'it returns false'. Refute it at one input. -/
def countComparesWrong : ChangeSpec := { name := "countCompares", fn := fun _ => fun
  | [d1, d2, d3, d4] => { results := [.lit (.bool false)], args := [d1, d2, d3, d4] }
  | _ => none }
def CountComparesWrongFalsely : Prop := countComparesRow.holds Try.pinned (OpenSpec.ofChange countComparesWrong)

/- THE SECOND FORM. 'bulk': how many values and letters a reading holds, each counted each time it is reached (what is shared counts as often as it is met; a slice's spare places count too). A statement '..UptoSaid' is the law's where the arguments, and the package variables that the reading takes, are together of bulk at most 1048576: NARROWER than '..Said'. Prove '..Said' where nothing that the law and all that it calls make is longer than what came in: it says more and counts as full. Else prove '..UptoSaid'. A law counts once. -/
mutual
def uptoBulk {H : Type} : DataW H → Nat
  | .lit (.string bytes) => bytes.length + 1
  | .lit _ => 1
  | .nil => 1
  | .ptr d => uptoBulk d + 1
  | .slice elems spare => uptoBulkAll elems + uptoBulkAll spare + 1
  | .agg parts => uptoBulkAll parts + 1
  | .iface _ d => uptoBulk d + 1
  | .map entries => uptoBulkEntries entries + 1
  | .held _ => 1
def uptoBulkAll {H : Type} : List (DataW H) → Nat
  | [] => 0
  | d :: r => uptoBulk d + uptoBulkAll r
def uptoBulkEntries {H : Type} : List (Lit × DataW H) → Nat
  | [] => 0
  | x :: r => uptoBulkEntry x + uptoBulkEntries r
def uptoBulkEntry {H : Type} : Lit × DataW H → Nat
  | (.string bytes, d) => bytes.length + uptoBulk d + 1
  | (_, d) => uptoBulk d + 1
 end
def uptoSmall : (H : Type) → List (DataW H) → Bool := fun _ ds => decide (uptoBulkAll ds ≤ 1048576)
def OpenSpec.upto (s : _root_.Go.ChangeSpec) : _root_.Go.OpenSpec := { _root_.Go.OpenSpec.ofChange s with cond := some uptoSmall }

/-- 'overburdenlaw07.CountBets', WHERE WHAT IT READS IS OF BULK AT MOST 1048576: true; the input reads as it did. -/
def countBetsUptoRow : OpenClaim := { program := "ytocolpbakaibnaa", sum := "d8726df138f6e9fe923b4ec1f2dc8d26cd01a52de3f5b4a494a40f7721b76875", func := "overburden/overburdenlaw07.CountBets", spec := "countBets", unfollowed := true, recurses := true, apart := false, narrowed := true }
def CountBetsUptoSaid : Prop := countBetsUptoRow.holds Try.pinned (OpenSpec.upto countBetsSpec)

/-- 'overburdenlaw07.CountSure', WHERE WHAT IT READS IS OF BULK AT MOST 1048576: true; the input reads as it did. -/
def countSureUptoRow : OpenClaim := { program := "ytocolpbakaibnaa", sum := "d8726df138f6e9fe923b4ec1f2dc8d26cd01a52de3f5b4a494a40f7721b76875", func := "overburden/overburdenlaw07.CountSure", spec := "countSure", unfollowed := true, recurses := true, apart := false, narrowed := true }
def CountSureUptoSaid : Prop := countSureUptoRow.holds Try.pinned (OpenSpec.upto countSureSpec)

/-- 'overburdenlaw07.CountRight', WHERE WHAT IT READS IS OF BULK AT MOST 1048576: true; the input reads as it did. -/
def countRightUptoRow : OpenClaim := { program := "ytocolpbakaibnaa", sum := "d8726df138f6e9fe923b4ec1f2dc8d26cd01a52de3f5b4a494a40f7721b76875", func := "overburden/overburdenlaw07.CountRight", spec := "countRight", unfollowed := true, recurses := true, apart := false, narrowed := true }
def CountRightUptoSaid : Prop := countRightUptoRow.holds Try.pinned (OpenSpec.upto countRightSpec)

/-- 'overburdenlaw07.CountTails', WHERE WHAT IT READS IS OF BULK AT MOST 1048576: true; the input reads as it did. -/
def countTailsUptoRow : OpenClaim := { program := "ytocolpbakaibnaa", sum := "d8726df138f6e9fe923b4ec1f2dc8d26cd01a52de3f5b4a494a40f7721b76875", func := "overburden/overburdenlaw07.CountTails", spec := "countTails", unfollowed := true, recurses := true, apart := false, narrowed := true }
def CountTailsUptoSaid : Prop := countTailsUptoRow.holds Try.pinned (OpenSpec.upto countTailsSpec)

/-- 'overburdenlaw07.CountWeighs', WHERE WHAT IT READS IS OF BULK AT MOST 1048576: true; the input reads as it did. -/
def countWeighsUptoRow : OpenClaim := { program := "ytocolpbakaibnaa", sum := "d8726df138f6e9fe923b4ec1f2dc8d26cd01a52de3f5b4a494a40f7721b76875", func := "overburden/overburdenlaw07.CountWeighs", spec := "countWeighs", unfollowed := true, recurses := true, apart := false, narrowed := true }
def CountWeighsUptoSaid : Prop := countWeighsUptoRow.holds Try.pinned (OpenSpec.upto countWeighsSpec)

/-- 'overburdenlaw07.CountTurns', WHERE WHAT IT READS IS OF BULK AT MOST 1048576: true; the input reads as it did. -/
def countTurnsUptoRow : OpenClaim := { program := "ytocolpbakaibnaa", sum := "d8726df138f6e9fe923b4ec1f2dc8d26cd01a52de3f5b4a494a40f7721b76875", func := "overburden/overburdenlaw07.CountTurns", spec := "countTurns", unfollowed := true, recurses := true, apart := false, narrowed := true }
def CountTurnsUptoSaid : Prop := countTurnsUptoRow.holds Try.pinned (OpenSpec.upto countTurnsSpec)

/-- 'overburdenlaw07.CountCapital', WHERE WHAT IT READS IS OF BULK AT MOST 1048576: true; the input reads as it did. -/
def countCapitalUptoRow : OpenClaim := { program := "ytocolpbakaibnaa", sum := "d8726df138f6e9fe923b4ec1f2dc8d26cd01a52de3f5b4a494a40f7721b76875", func := "overburden/overburdenlaw07.CountCapital", spec := "countCapital", unfollowed := true, recurses := true, apart := false, narrowed := true }
def CountCapitalUptoSaid : Prop := countCapitalUptoRow.holds Try.pinned (OpenSpec.upto countCapitalSpec)

/-- 'overburdenlaw07.CountKept', WHERE WHAT IT READS IS OF BULK AT MOST 1048576: true; the input reads as it did. -/
def countKeptUptoRow : OpenClaim := { program := "ytocolpbakaibnaa", sum := "d8726df138f6e9fe923b4ec1f2dc8d26cd01a52de3f5b4a494a40f7721b76875", func := "overburden/overburdenlaw07.CountKept", spec := "countKept", unfollowed := true, recurses := true, apart := false, narrowed := true }
def CountKeptUptoSaid : Prop := countKeptUptoRow.holds Try.pinned (OpenSpec.upto countKeptSpec)

/-- 'overburdenlaw07.CountStops', WHERE WHAT IT READS IS OF BULK AT MOST 1048576: true; the input reads as it did. -/
def countStopsUptoRow : OpenClaim := { program := "ytocolpbakaibnaa", sum := "d8726df138f6e9fe923b4ec1f2dc8d26cd01a52de3f5b4a494a40f7721b76875", func := "overburden/overburdenlaw07.CountStops", spec := "countStops", unfollowed := true, recurses := true, apart := false, narrowed := true }
def CountStopsUptoSaid : Prop := countStopsUptoRow.holds Try.pinned (OpenSpec.upto countStopsSpec)

/-- 'overburdenlaw07.CountChanges', WHERE WHAT IT READS IS OF BULK AT MOST 1048576: true; the input reads as it did. -/
def countChangesUptoRow : OpenClaim := { program := "ytocolpbakaibnaa", sum := "d8726df138f6e9fe923b4ec1f2dc8d26cd01a52de3f5b4a494a40f7721b76875", func := "overburden/overburdenlaw07.CountChanges", spec := "countChanges", unfollowed := true, recurses := true, apart := false, narrowed := true }
def CountChangesUptoSaid : Prop := countChangesUptoRow.holds Try.pinned (OpenSpec.upto countChangesSpec)

/-- 'overburdenlaw07.CountSteady', WHERE WHAT IT READS IS OF BULK AT MOST 1048576: true; the input reads as it did. -/
def countSteadyUptoRow : OpenClaim := { program := "ytocolpbakaibnaa", sum := "d8726df138f6e9fe923b4ec1f2dc8d26cd01a52de3f5b4a494a40f7721b76875", func := "overburden/overburdenlaw07.CountSteady", spec := "countSteady", unfollowed := true, recurses := true, apart := false, narrowed := true }
def CountSteadyUptoSaid : Prop := countSteadyUptoRow.holds Try.pinned (OpenSpec.upto countSteadySpec)

/-- 'overburdenlaw07.CountCompares', WHERE WHAT IT READS IS OF BULK AT MOST 1048576: true; the input reads as it did. -/
def countComparesUptoRow : OpenClaim := { program := "ytocolpbakaibnaa", sum := "d8726df138f6e9fe923b4ec1f2dc8d26cd01a52de3f5b4a494a40f7721b76875", func := "overburden/overburdenlaw07.CountCompares", spec := "countCompares", unfollowed := true, recurses := true, apart := false, narrowed := true }
def CountComparesUptoSaid : Prop := countComparesUptoRow.holds Try.pinned (OpenSpec.upto countComparesSpec)

end Rows
end Go.Proofs.Ytocolpbakaibnaa
