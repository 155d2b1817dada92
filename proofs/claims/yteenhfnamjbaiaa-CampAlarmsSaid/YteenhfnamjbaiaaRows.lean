/-
  No cell of these rows narrows 'for every input' (looked for: loops, veiled, ifaces, maps, wideKeys, modest, calm, conditions, laid).
  DERIVED. THE GIVEN ROWS OF THIS SEAT. 14 by the template 'for every input the law returns true; each argument reads behind the call as it read before'; 0 by the template 'total and deterministic' (their statements: YteenhfnamjbaiaaTotals.lean).
  GIVEN WITH THE SEED: the statements are not yours to turn. If you find one false, say at which input.
  Laid BY PROGRAM, IN A SANDBOX (cutbox-rows.mjs): the forced cells as the released guide's own fill.sh prints them over the translation 55a27d04ff3be327… (all of the seat's roots in one cut). By AI agents, Wed Nov 11 2026. No macro, syntax, notation, axiom, sorry.
-/
import Derived.Test.YteenhfnamjbaiaaChecked
import GoSem.Claim
import GoSem.ClaimJoined
import GoSem.ClaimMapViews
import Derived.JoinedTies
import Derived.KernelRfl
namespace Go.Proofs.Yteenhfnamjbaiaa
/- THE CELL 'sum', in the pinned program and in every row, IS THE sha256 OF THE DUMP (.gsa) THAT YteenhfnamjbaiaaProg.lean LOADS. Nothing in Lean hashes anything: it is a label: what it is worth is what the hold of that sum in a sandbox is worth. -/
noncomputable def Try.pinned : Pinned := { name := "yteenhfnamjbaiaa", sum := "55a27d04ff3be327a83e78327d53c89e34fe03ff39ef2d984beccfb4e5f25736", checked := Try.checked }
namespace Rows
def none {H : Type} : Left H := { results := [], args := [] }

/-- 'overburdenlaw09.CampRivals': WHATEVER THE INPUT: true; the input reads as it did. -/
def campRivalsSpec : ChangeSpec := { name := "campRivals", fn := fun _ => fun
  | [d1, d2, d3, d4] => { results := [.lit (.bool true)], args := [d1, d2, d3, d4] }
  | _ => none }
def campRivalsRow : OpenClaim := { program := "yteenhfnamjbaiaa", sum := "55a27d04ff3be327a83e78327d53c89e34fe03ff39ef2d984beccfb4e5f25736", func := "overburden/overburdenlaw09.CampRivals", spec := "campRivals", unfollowed := true, recurses := true, plainKeys := false, apart := false }
def CampRivalsSaid : Prop := campRivalsRow.holds Try.pinned (OpenSpec.ofChange campRivalsSpec)

/-- ITS FALSE NEIGHBOUR: 'it returns false'. Refute it at one input. -/
def campRivalsWrong : ChangeSpec := { name := "campRivals", fn := fun _ => fun
  | [d1, d2, d3, d4] => { results := [.lit (.bool false)], args := [d1, d2, d3, d4] }
  | _ => none }
def CampRivalsWrongFalsely : Prop := campRivalsRow.holds Try.pinned (OpenSpec.ofChange campRivalsWrong)

/-- 'overburdenlaw09.CampSchedules': WHATEVER THE INPUT: true; the input reads as it did. -/
def campSchedulesSpec : ChangeSpec := { name := "campSchedules", fn := fun _ => fun
  | [d] => { results := [.lit (.bool true)], args := [d] }
  | _ => none }
def campSchedulesRow : OpenClaim := { program := "yteenhfnamjbaiaa", sum := "55a27d04ff3be327a83e78327d53c89e34fe03ff39ef2d984beccfb4e5f25736", func := "overburden/overburdenlaw09.CampSchedules", spec := "campSchedules", unfollowed := true, recurses := true, plainKeys := false, apart := false }
def CampSchedulesSaid : Prop := campSchedulesRow.holds Try.pinned (OpenSpec.ofChange campSchedulesSpec)

/-- ITS FALSE NEIGHBOUR: 'it returns false'. Refute it at one input. -/
def campSchedulesWrong : ChangeSpec := { name := "campSchedules", fn := fun _ => fun
  | [d] => { results := [.lit (.bool false)], args := [d] }
  | _ => none }
def CampSchedulesWrongFalsely : Prop := campSchedulesRow.holds Try.pinned (OpenSpec.ofChange campSchedulesWrong)

/-- 'overburdenlaw09.CampRounds': WHATEVER THE INPUT: true; the input reads as it did. -/
def campRoundsSpec : ChangeSpec := { name := "campRounds", fn := fun _ => fun
  | [d] => { results := [.lit (.bool true)], args := [d] }
  | _ => none }
def campRoundsRow : OpenClaim := { program := "yteenhfnamjbaiaa", sum := "55a27d04ff3be327a83e78327d53c89e34fe03ff39ef2d984beccfb4e5f25736", func := "overburden/overburdenlaw09.CampRounds", spec := "campRounds", unfollowed := true, recurses := true, plainKeys := false, apart := false }
def CampRoundsSaid : Prop := campRoundsRow.holds Try.pinned (OpenSpec.ofChange campRoundsSpec)

/-- ITS FALSE NEIGHBOUR: 'it returns false'. Refute it at one input. -/
def campRoundsWrong : ChangeSpec := { name := "campRounds", fn := fun _ => fun
  | [d] => { results := [.lit (.bool false)], args := [d] }
  | _ => none }
def CampRoundsWrongFalsely : Prop := campRoundsRow.holds Try.pinned (OpenSpec.ofChange campRoundsWrong)

/-- 'overburdenlaw09.CampAlarms': WHATEVER THE INPUT: true; the input reads as it did. -/
def campAlarmsSpec : ChangeSpec := { name := "campAlarms", fn := fun _ => fun
  | [d1, d2, d3, d4] => { results := [.lit (.bool true)], args := [d1, d2, d3, d4] }
  | _ => none }
def campAlarmsRow : OpenClaim := { program := "yteenhfnamjbaiaa", sum := "55a27d04ff3be327a83e78327d53c89e34fe03ff39ef2d984beccfb4e5f25736", func := "overburden/overburdenlaw09.CampAlarms", spec := "campAlarms", unfollowed := true, recurses := true, plainKeys := false, apart := false }
def CampAlarmsSaid : Prop := campAlarmsRow.holds Try.pinned (OpenSpec.ofChange campAlarmsSpec)

/-- ITS FALSE NEIGHBOUR: 'it returns false'. Refute it at one input. -/
def campAlarmsWrong : ChangeSpec := { name := "campAlarms", fn := fun _ => fun
  | [d1, d2, d3, d4] => { results := [.lit (.bool false)], args := [d1, d2, d3, d4] }
  | _ => none }
def CampAlarmsWrongFalsely : Prop := campAlarmsRow.holds Try.pinned (OpenSpec.ofChange campAlarmsWrong)

/-- 'overburdenlaw09.CampFullest': WHATEVER THE INPUT: true; the input reads as it did. -/
def campFullestSpec : ChangeSpec := { name := "campFullest", fn := fun _ => fun
  | [d1, d2] => { results := [.lit (.bool true)], args := [d1, d2] }
  | _ => none }
def campFullestRow : OpenClaim := { program := "yteenhfnamjbaiaa", sum := "55a27d04ff3be327a83e78327d53c89e34fe03ff39ef2d984beccfb4e5f25736", func := "overburden/overburdenlaw09.CampFullest", spec := "campFullest", unfollowed := true, recurses := true, plainKeys := false, apart := false }
def CampFullestSaid : Prop := campFullestRow.holds Try.pinned (OpenSpec.ofChange campFullestSpec)

/-- ITS FALSE NEIGHBOUR: 'it returns false'. Refute it at one input. -/
def campFullestWrong : ChangeSpec := { name := "campFullest", fn := fun _ => fun
  | [d1, d2] => { results := [.lit (.bool false)], args := [d1, d2] }
  | _ => none }
def CampFullestWrongFalsely : Prop := campFullestRow.holds Try.pinned (OpenSpec.ofChange campFullestWrong)

/-- 'overburdenlaw09.CampTells': WHATEVER THE INPUT: true; the input reads as it did. -/
def campTellsSpec : ChangeSpec := { name := "campTells", fn := fun _ => fun
  | [d1, d2, d3, d4] => { results := [.lit (.bool true)], args := [d1, d2, d3, d4] }
  | _ => none }
def campTellsRow : OpenClaim := { program := "yteenhfnamjbaiaa", sum := "55a27d04ff3be327a83e78327d53c89e34fe03ff39ef2d984beccfb4e5f25736", func := "overburden/overburdenlaw09.CampTells", spec := "campTells", unfollowed := true, recurses := true, plainKeys := false, apart := false }
def CampTellsSaid : Prop := campTellsRow.holds Try.pinned (OpenSpec.ofChange campTellsSpec)

/-- ITS FALSE NEIGHBOUR: 'it returns false'. Refute it at one input. -/
def campTellsWrong : ChangeSpec := { name := "campTells", fn := fun _ => fun
  | [d1, d2, d3, d4] => { results := [.lit (.bool false)], args := [d1, d2, d3, d4] }
  | _ => none }
def CampTellsWrongFalsely : Prop := campTellsRow.holds Try.pinned (OpenSpec.ofChange campTellsWrong)

/-- 'overburdenlaw09.CampScans': WHATEVER THE INPUT: true; the input reads as it did. -/
def campScansSpec : ChangeSpec := { name := "campScans", fn := fun _ => fun
  | [d1, d2] => { results := [.lit (.bool true)], args := [d1, d2] }
  | _ => none }
def campScansRow : OpenClaim := { program := "yteenhfnamjbaiaa", sum := "55a27d04ff3be327a83e78327d53c89e34fe03ff39ef2d984beccfb4e5f25736", func := "overburden/overburdenlaw09.CampScans", spec := "campScans", unfollowed := true, recurses := true, plainKeys := false, apart := false }
def CampScansSaid : Prop := campScansRow.holds Try.pinned (OpenSpec.ofChange campScansSpec)

/-- ITS FALSE NEIGHBOUR: 'it returns false'. Refute it at one input. -/
def campScansWrong : ChangeSpec := { name := "campScans", fn := fun _ => fun
  | [d1, d2] => { results := [.lit (.bool false)], args := [d1, d2] }
  | _ => none }
def CampScansWrongFalsely : Prop := campScansRow.holds Try.pinned (OpenSpec.ofChange campScansWrong)

/-- 'overburdenlaw09.CampEqual': WHATEVER THE INPUT: true; the input reads as it did. -/
def campEqualSpec : ChangeSpec := { name := "campEqual", fn := fun _ => fun
  | [d1, d2, d3] => { results := [.lit (.bool true)], args := [d1, d2, d3] }
  | _ => none }
def campEqualRow : OpenClaim := { program := "yteenhfnamjbaiaa", sum := "55a27d04ff3be327a83e78327d53c89e34fe03ff39ef2d984beccfb4e5f25736", func := "overburden/overburdenlaw09.CampEqual", spec := "campEqual", unfollowed := true, recurses := true, plainKeys := false, apart := false }
def CampEqualSaid : Prop := campEqualRow.holds Try.pinned (OpenSpec.ofChange campEqualSpec)

/-- ITS FALSE NEIGHBOUR: 'it returns false'. Refute it at one input. -/
def campEqualWrong : ChangeSpec := { name := "campEqual", fn := fun _ => fun
  | [d1, d2, d3] => { results := [.lit (.bool false)], args := [d1, d2, d3] }
  | _ => none }
def CampEqualWrongFalsely : Prop := campEqualRow.holds Try.pinned (OpenSpec.ofChange campEqualWrong)

/-- 'overburdenlaw09.CampDiffers': WHATEVER THE INPUT: true; the input reads as it did. -/
def campDiffersSpec : ChangeSpec := { name := "campDiffers", fn := fun _ => fun
  | [d1, d2] => { results := [.lit (.bool true)], args := [d1, d2] }
  | _ => none }
def campDiffersRow : OpenClaim := { program := "yteenhfnamjbaiaa", sum := "55a27d04ff3be327a83e78327d53c89e34fe03ff39ef2d984beccfb4e5f25736", func := "overburden/overburdenlaw09.CampDiffers", spec := "campDiffers", unfollowed := true, recurses := true, plainKeys := false, apart := false }
def CampDiffersSaid : Prop := campDiffersRow.holds Try.pinned (OpenSpec.ofChange campDiffersSpec)

/-- ITS FALSE NEIGHBOUR: 'it returns false'. Refute it at one input. -/
def campDiffersWrong : ChangeSpec := { name := "campDiffers", fn := fun _ => fun
  | [d1, d2] => { results := [.lit (.bool false)], args := [d1, d2] }
  | _ => none }
def CampDiffersWrongFalsely : Prop := campDiffersRow.holds Try.pinned (OpenSpec.ofChange campDiffersWrong)

/-- 'overburdenlaw09.CampHolds': WHATEVER THE INPUT: true; the input reads as it did. -/
def campHoldsSpec : ChangeSpec := { name := "campHolds", fn := fun _ => fun
  | [d1, d2, d3, d4, d5, d6] => { results := [.lit (.bool true)], args := [d1, d2, d3, d4, d5, d6] }
  | _ => none }
def campHoldsRow : OpenClaim := { program := "yteenhfnamjbaiaa", sum := "55a27d04ff3be327a83e78327d53c89e34fe03ff39ef2d984beccfb4e5f25736", func := "overburden/overburdenlaw09.CampHolds", spec := "campHolds", unfollowed := true, recurses := true, plainKeys := false, apart := false }
def CampHoldsSaid : Prop := campHoldsRow.holds Try.pinned (OpenSpec.ofChange campHoldsSpec)

/-- ITS FALSE NEIGHBOUR: 'it returns false'. Refute it at one input. -/
def campHoldsWrong : ChangeSpec := { name := "campHolds", fn := fun _ => fun
  | [d1, d2, d3, d4, d5, d6] => { results := [.lit (.bool false)], args := [d1, d2, d3, d4, d5, d6] }
  | _ => none }
def CampHoldsWrongFalsely : Prop := campHoldsRow.holds Try.pinned (OpenSpec.ofChange campHoldsWrong)

/-- 'overburdenlaw09.CampTracks': WHATEVER THE INPUT: true; the input reads as it did. -/
def campTracksSpec : ChangeSpec := { name := "campTracks", fn := fun _ => fun
  | [d1, d2, d3, d4, d5] => { results := [.lit (.bool true)], args := [d1, d2, d3, d4, d5] }
  | _ => none }
def campTracksRow : OpenClaim := { program := "yteenhfnamjbaiaa", sum := "55a27d04ff3be327a83e78327d53c89e34fe03ff39ef2d984beccfb4e5f25736", func := "overburden/overburdenlaw09.CampTracks", spec := "campTracks", unfollowed := true, recurses := true, plainKeys := false, apart := false }
def CampTracksSaid : Prop := campTracksRow.holds Try.pinned (OpenSpec.ofChange campTracksSpec)

/-- ITS FALSE NEIGHBOUR: 'it returns false'. Refute it at one input. -/
def campTracksWrong : ChangeSpec := { name := "campTracks", fn := fun _ => fun
  | [d1, d2, d3, d4, d5] => { results := [.lit (.bool false)], args := [d1, d2, d3, d4, d5] }
  | _ => none }
def CampTracksWrongFalsely : Prop := campTracksRow.holds Try.pinned (OpenSpec.ofChange campTracksWrong)

/-- 'overburdenlaw09.CampCourses': WHATEVER THE INPUT: true; the input reads as it did. -/
def campCoursesSpec : ChangeSpec := { name := "campCourses", fn := fun _ => fun
  | [d1, d2, d3, d4] => { results := [.lit (.bool true)], args := [d1, d2, d3, d4] }
  | _ => none }
def campCoursesRow : OpenClaim := { program := "yteenhfnamjbaiaa", sum := "55a27d04ff3be327a83e78327d53c89e34fe03ff39ef2d984beccfb4e5f25736", func := "overburden/overburdenlaw09.CampCourses", spec := "campCourses", unfollowed := true, recurses := true, plainKeys := false, apart := false }
def CampCoursesSaid : Prop := campCoursesRow.holds Try.pinned (OpenSpec.ofChange campCoursesSpec)

/-- ITS FALSE NEIGHBOUR: 'it returns false'. Refute it at one input. -/
def campCoursesWrong : ChangeSpec := { name := "campCourses", fn := fun _ => fun
  | [d1, d2, d3, d4] => { results := [.lit (.bool false)], args := [d1, d2, d3, d4] }
  | _ => none }
def CampCoursesWrongFalsely : Prop := campCoursesRow.holds Try.pinned (OpenSpec.ofChange campCoursesWrong)

/-- 'overburdenlaw09.CampShortest': WHATEVER THE INPUT: true; the input reads as it did. -/
def campShortestSpec : ChangeSpec := { name := "campShortest", fn := fun _ => fun
  | [d1, d2, d3, d4] => { results := [.lit (.bool true)], args := [d1, d2, d3, d4] }
  | _ => none }
def campShortestRow : OpenClaim := { program := "yteenhfnamjbaiaa", sum := "55a27d04ff3be327a83e78327d53c89e34fe03ff39ef2d984beccfb4e5f25736", func := "overburden/overburdenlaw09.CampShortest", spec := "campShortest", unfollowed := true, recurses := true, plainKeys := false, apart := false }
def CampShortestSaid : Prop := campShortestRow.holds Try.pinned (OpenSpec.ofChange campShortestSpec)

/-- ITS FALSE NEIGHBOUR: 'it returns false'. Refute it at one input. -/
def campShortestWrong : ChangeSpec := { name := "campShortest", fn := fun _ => fun
  | [d1, d2, d3, d4] => { results := [.lit (.bool false)], args := [d1, d2, d3, d4] }
  | _ => none }
def CampShortestWrongFalsely : Prop := campShortestRow.holds Try.pinned (OpenSpec.ofChange campShortestWrong)

/-- 'overburdenlaw09.CampTours': WHATEVER THE INPUT: true; the input reads as it did. -/
def campToursSpec : ChangeSpec := { name := "campTours", fn := fun _ => fun
  | [d1, d2, d3] => { results := [.lit (.bool true)], args := [d1, d2, d3] }
  | _ => none }
def campToursRow : OpenClaim := { program := "yteenhfnamjbaiaa", sum := "55a27d04ff3be327a83e78327d53c89e34fe03ff39ef2d984beccfb4e5f25736", func := "overburden/overburdenlaw09.CampTours", spec := "campTours", unfollowed := true, recurses := true, plainKeys := false, apart := false }
def CampToursSaid : Prop := campToursRow.holds Try.pinned (OpenSpec.ofChange campToursSpec)

/-- ITS FALSE NEIGHBOUR: 'it returns false'. Refute it at one input. -/
def campToursWrong : ChangeSpec := { name := "campTours", fn := fun _ => fun
  | [d1, d2, d3] => { results := [.lit (.bool false)], args := [d1, d2, d3] }
  | _ => none }
def CampToursWrongFalsely : Prop := campToursRow.holds Try.pinned (OpenSpec.ofChange campToursWrong)

/- THE SECOND FORM. 'bulk': how many values and letters a reading holds, each counted each time it is reached (what is shared counts as often as it is met; a slice's spare places count too). A statement '..UptoSaid' is the law's where the arguments, and the package variables that the reading takes, are together of bulk at most 1048576: NARROWER than '..Said'. Prove '..Said' where nothing that the law and all that it calls make is longer than what came in: it says more and counts as full. Else prove '..UptoSaid'. A law counts once. -/
mutual
def uptoBulk {H : Type} : DataW H → Nat
  | .lit (.string bytes) => bytes.length + 1
  | .lit _ => 1
  | .nil => 1
  | .ptr d => uptoBulk d + 1
  | .slice elems spare => uptoBulkAll elems + uptoBulkAll spare + 1
  | .agg parts => uptoBulkAll parts + 1
  | .iface _ d => uptoBulk d + 1
  | .map entries => uptoBulkEntries entries + 1
  | .held _ => 1
def uptoBulkAll {H : Type} : List (DataW H) → Nat
  | [] => 0
  | d :: r => uptoBulk d + uptoBulkAll r
def uptoBulkEntries {H : Type} : List (Lit × DataW H) → Nat
  | [] => 0
  | x :: r => uptoBulkEntry x + uptoBulkEntries r
def uptoBulkEntry {H : Type} : Lit × DataW H → Nat
  | (.string bytes, d) => bytes.length + uptoBulk d + 1
  | (_, d) => uptoBulk d + 1
 end
def uptoSmall : (H : Type) → List (DataW H) → Bool := fun _ ds => decide (uptoBulkAll ds ≤ 1048576)
def OpenSpec.upto (s : _root_.Go.ChangeSpec) : _root_.Go.OpenSpec := { _root_.Go.OpenSpec.ofChange s with cond := some uptoSmall }

/-- 'overburdenlaw09.CampRivals', WHERE WHAT IT READS IS OF BULK AT MOST 1048576: true; the input reads as it did. -/
def campRivalsUptoRow : OpenClaim := { program := "yteenhfnamjbaiaa", sum := "55a27d04ff3be327a83e78327d53c89e34fe03ff39ef2d984beccfb4e5f25736", func := "overburden/overburdenlaw09.CampRivals", spec := "campRivals", unfollowed := true, recurses := true, plainKeys := false, apart := false, narrowed := true }
def CampRivalsUptoSaid : Prop := campRivalsUptoRow.holds Try.pinned (OpenSpec.upto campRivalsSpec)

/-- 'overburdenlaw09.CampSchedules', WHERE WHAT IT READS IS OF BULK AT MOST 1048576: true; the input reads as it did. -/
def campSchedulesUptoRow : OpenClaim := { program := "yteenhfnamjbaiaa", sum := "55a27d04ff3be327a83e78327d53c89e34fe03ff39ef2d984beccfb4e5f25736", func := "overburden/overburdenlaw09.CampSchedules", spec := "campSchedules", unfollowed := true, recurses := true, plainKeys := false, apart := false, narrowed := true }
def CampSchedulesUptoSaid : Prop := campSchedulesUptoRow.holds Try.pinned (OpenSpec.upto campSchedulesSpec)

/-- 'overburdenlaw09.CampRounds', WHERE WHAT IT READS IS OF BULK AT MOST 1048576: true; the input reads as it did. -/
def campRoundsUptoRow : OpenClaim := { program := "yteenhfnamjbaiaa", sum := "55a27d04ff3be327a83e78327d53c89e34fe03ff39ef2d984beccfb4e5f25736", func := "overburden/overburdenlaw09.CampRounds", spec := "campRounds", unfollowed := true, recurses := true, plainKeys := false, apart := false, narrowed := true }
def CampRoundsUptoSaid : Prop := campRoundsUptoRow.holds Try.pinned (OpenSpec.upto campRoundsSpec)

/-- 'overburdenlaw09.CampAlarms', WHERE WHAT IT READS IS OF BULK AT MOST 1048576: true; the input reads as it did. -/
def campAlarmsUptoRow : OpenClaim := { program := "yteenhfnamjbaiaa", sum := "55a27d04ff3be327a83e78327d53c89e34fe03ff39ef2d984beccfb4e5f25736", func := "overburden/overburdenlaw09.CampAlarms", spec := "campAlarms", unfollowed := true, recurses := true, plainKeys := false, apart := false, narrowed := true }
def CampAlarmsUptoSaid : Prop := campAlarmsUptoRow.holds Try.pinned (OpenSpec.upto campAlarmsSpec)

/-- 'overburdenlaw09.CampFullest', WHERE WHAT IT READS IS OF BULK AT MOST 1048576: true; the input reads as it did. -/
def campFullestUptoRow : OpenClaim := { program := "yteenhfnamjbaiaa", sum := "55a27d04ff3be327a83e78327d53c89e34fe03ff39ef2d984beccfb4e5f25736", func := "overburden/overburdenlaw09.CampFullest", spec := "campFullest", unfollowed := true, recurses := true, plainKeys := false, apart := false, narrowed := true }
def CampFullestUptoSaid : Prop := campFullestUptoRow.holds Try.pinned (OpenSpec.upto campFullestSpec)

/-- 'overburdenlaw09.CampTells', WHERE WHAT IT READS IS OF BULK AT MOST 1048576: true; the input reads as it did. -/
def campTellsUptoRow : OpenClaim := { program := "yteenhfnamjbaiaa", sum := "55a27d04ff3be327a83e78327d53c89e34fe03ff39ef2d984beccfb4e5f25736", func := "overburden/overburdenlaw09.CampTells", spec := "campTells", unfollowed := true, recurses := true, plainKeys := false, apart := false, narrowed := true }
def CampTellsUptoSaid : Prop := campTellsUptoRow.holds Try.pinned (OpenSpec.upto campTellsSpec)

/-- 'overburdenlaw09.CampScans', WHERE WHAT IT READS IS OF BULK AT MOST 1048576: true; the input reads as it did. -/
def campScansUptoRow : OpenClaim := { program := "yteenhfnamjbaiaa", sum := "55a27d04ff3be327a83e78327d53c89e34fe03ff39ef2d984beccfb4e5f25736", func := "overburden/overburdenlaw09.CampScans", spec := "campScans", unfollowed := true, recurses := true, plainKeys := false, apart := false, narrowed := true }
def CampScansUptoSaid : Prop := campScansUptoRow.holds Try.pinned (OpenSpec.upto campScansSpec)

/-- 'overburdenlaw09.CampEqual', WHERE WHAT IT READS IS OF BULK AT MOST 1048576: true; the input reads as it did. -/
def campEqualUptoRow : OpenClaim := { program := "yteenhfnamjbaiaa", sum := "55a27d04ff3be327a83e78327d53c89e34fe03ff39ef2d984beccfb4e5f25736", func := "overburden/overburdenlaw09.CampEqual", spec := "campEqual", unfollowed := true, recurses := true, plainKeys := false, apart := false, narrowed := true }
def CampEqualUptoSaid : Prop := campEqualUptoRow.holds Try.pinned (OpenSpec.upto campEqualSpec)

/-- 'overburdenlaw09.CampDiffers', WHERE WHAT IT READS IS OF BULK AT MOST 1048576: true; the input reads as it did. -/
def campDiffersUptoRow : OpenClaim := { program := "yteenhfnamjbaiaa", sum := "55a27d04ff3be327a83e78327d53c89e34fe03ff39ef2d984beccfb4e5f25736", func := "overburden/overburdenlaw09.CampDiffers", spec := "campDiffers", unfollowed := true, recurses := true, plainKeys := false, apart := false, narrowed := true }
def CampDiffersUptoSaid : Prop := campDiffersUptoRow.holds Try.pinned (OpenSpec.upto campDiffersSpec)

/-- 'overburdenlaw09.CampHolds', WHERE WHAT IT READS IS OF BULK AT MOST 1048576: true; the input reads as it did. -/
def campHoldsUptoRow : OpenClaim := { program := "yteenhfnamjbaiaa", sum := "55a27d04ff3be327a83e78327d53c89e34fe03ff39ef2d984beccfb4e5f25736", func := "overburden/overburdenlaw09.CampHolds", spec := "campHolds", unfollowed := true, recurses := true, plainKeys := false, apart := false, narrowed := true }
def CampHoldsUptoSaid : Prop := campHoldsUptoRow.holds Try.pinned (OpenSpec.upto campHoldsSpec)

/-- 'overburdenlaw09.CampTracks', WHERE WHAT IT READS IS OF BULK AT MOST 1048576: true; the input reads as it did. -/
def campTracksUptoRow : OpenClaim := { program := "yteenhfnamjbaiaa", sum := "55a27d04ff3be327a83e78327d53c89e34fe03ff39ef2d984beccfb4e5f25736", func := "overburden/overburdenlaw09.CampTracks", spec := "campTracks", unfollowed := true, recurses := true, plainKeys := false, apart := false, narrowed := true }
def CampTracksUptoSaid : Prop := campTracksUptoRow.holds Try.pinned (OpenSpec.upto campTracksSpec)

/-- 'overburdenlaw09.CampCourses', WHERE WHAT IT READS IS OF BULK AT MOST 1048576: true; the input reads as it did. -/
def campCoursesUptoRow : OpenClaim := { program := "yteenhfnamjbaiaa", sum := "55a27d04ff3be327a83e78327d53c89e34fe03ff39ef2d984beccfb4e5f25736", func := "overburden/overburdenlaw09.CampCourses", spec := "campCourses", unfollowed := true, recurses := true, plainKeys := false, apart := false, narrowed := true }
def CampCoursesUptoSaid : Prop := campCoursesUptoRow.holds Try.pinned (OpenSpec.upto campCoursesSpec)

/-- 'overburdenlaw09.CampShortest', WHERE WHAT IT READS IS OF BULK AT MOST 1048576: true; the input reads as it did. -/
def campShortestUptoRow : OpenClaim := { program := "yteenhfnamjbaiaa", sum := "55a27d04ff3be327a83e78327d53c89e34fe03ff39ef2d984beccfb4e5f25736", func := "overburden/overburdenlaw09.CampShortest", spec := "campShortest", unfollowed := true, recurses := true, plainKeys := false, apart := false, narrowed := true }
def CampShortestUptoSaid : Prop := campShortestUptoRow.holds Try.pinned (OpenSpec.upto campShortestSpec)

/-- 'overburdenlaw09.CampTours', WHERE WHAT IT READS IS OF BULK AT MOST 1048576: true; the input reads as it did. -/
def campToursUptoRow : OpenClaim := { program := "yteenhfnamjbaiaa", sum := "55a27d04ff3be327a83e78327d53c89e34fe03ff39ef2d984beccfb4e5f25736", func := "overburden/overburdenlaw09.CampTours", spec := "campTours", unfollowed := true, recurses := true, plainKeys := false, apart := false, narrowed := true }
def CampToursUptoSaid : Prop := campToursUptoRow.holds Try.pinned (OpenSpec.upto campToursSpec)

end Rows
end Go.Proofs.Yteenhfnamjbaiaa
