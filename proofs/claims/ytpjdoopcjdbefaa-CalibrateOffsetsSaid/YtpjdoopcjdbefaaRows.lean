/-
  No cell of these rows narrows 'for every input' (looked for: loops, veiled, ifaces, maps, wideKeys, modest, calm, conditions, laid).
  DERIVED. THE GIVEN ROWS OF THIS SEAT. 8 by the template 'for every input the law returns true; each argument reads behind the call as it read before'; 0 by the template 'total and deterministic' (their statements: YtpjdoopcjdbefaaTotals.lean).
  GIVEN WITH THE SEED: the statements are not yours to turn. If you find one false, say at which input.
  Laid BY PROGRAM, IN A SANDBOX (cutbox-rows.mjs): the forced cells as the released guide's own fill.sh prints them over the translation 3da0afb4c8fb7082… (all of the seat's roots in one cut). By AI agents, Wed Nov 11 2026. No macro, syntax, notation, axiom, sorry.
-/
import Derived.Test.YtpjdoopcjdbefaaChecked
import GoSem.Claim
import GoSem.ClaimJoined
import GoSem.ClaimMapViews
import Derived.JoinedTies
import Derived.KernelRfl
namespace Go.Proofs.Ytpjdoopcjdbefaa
/- THE CELL 'sum', in the pinned program and in every row, IS THE sha256 OF THE DUMP (.gsa) THAT YtpjdoopcjdbefaaProg.lean LOADS. Nothing in Lean hashes anything: it is a label: what it is worth is what the hold of that sum in a sandbox is worth. -/
noncomputable def Try.pinned : Pinned := { name := "ytpjdoopcjdbefaa", sum := "3da0afb4c8fb7082246a291304cf159f26f63b7597c2c4bd10a29055e90121a7", checked := Try.checked }
namespace Rows
def none {H : Type} : Left H := { results := [], args := [] }

/-- 'recyclinglaw29.CalibrateConflicts': WHATEVER THE INPUT: true; the input reads as it did. -/
def calibrateConflictsSpec : ChangeSpec := { name := "calibrateConflicts", fn := fun _ => fun
  | [d1, d2] => { results := [.lit (.bool true)], args := [d1, d2] }
  | _ => none }
def calibrateConflictsRow : OpenClaim := { program := "ytpjdoopcjdbefaa", sum := "3da0afb4c8fb7082246a291304cf159f26f63b7597c2c4bd10a29055e90121a7", func := "recycling/recyclinglaw29.CalibrateConflicts", spec := "calibrateConflicts", unfollowed := true, recurses := true, apart := false }
def CalibrateConflictsSaid : Prop := calibrateConflictsRow.holds Try.pinned (OpenSpec.ofChange calibrateConflictsSpec)

/-- ITS FALSE NEIGHBOUR: 'it returns false'. Refute it at one input. -/
def calibrateConflictsWrong : ChangeSpec := { name := "calibrateConflicts", fn := fun _ => fun
  | [d1, d2] => { results := [.lit (.bool false)], args := [d1, d2] }
  | _ => none }
def CalibrateConflictsWrongFalsely : Prop := calibrateConflictsRow.holds Try.pinned (OpenSpec.ofChange calibrateConflictsWrong)

/-- 'recyclinglaw29.CalibrateFinds': WHATEVER THE INPUT: true; the input reads as it did. -/
def calibrateFindsSpec : ChangeSpec := { name := "calibrateFinds", fn := fun _ => fun
  | [d1, d2] => { results := [.lit (.bool true)], args := [d1, d2] }
  | _ => none }
def calibrateFindsRow : OpenClaim := { program := "ytpjdoopcjdbefaa", sum := "3da0afb4c8fb7082246a291304cf159f26f63b7597c2c4bd10a29055e90121a7", func := "recycling/recyclinglaw29.CalibrateFinds", spec := "calibrateFinds", unfollowed := true, recurses := true, apart := false }
def CalibrateFindsSaid : Prop := calibrateFindsRow.holds Try.pinned (OpenSpec.ofChange calibrateFindsSpec)

/-- ITS FALSE NEIGHBOUR: 'it returns false'. Refute it at one input. -/
def calibrateFindsWrong : ChangeSpec := { name := "calibrateFinds", fn := fun _ => fun
  | [d1, d2] => { results := [.lit (.bool false)], args := [d1, d2] }
  | _ => none }
def CalibrateFindsWrongFalsely : Prop := calibrateFindsRow.holds Try.pinned (OpenSpec.ofChange calibrateFindsWrong)

/-- 'recyclinglaw29.CalibrateOffsets': WHATEVER THE INPUT: true; the input reads as it did. -/
def calibrateOffsetsSpec : ChangeSpec := { name := "calibrateOffsets", fn := fun _ => fun
  | [d1, d2] => { results := [.lit (.bool true)], args := [d1, d2] }
  | _ => none }
def calibrateOffsetsRow : OpenClaim := { program := "ytpjdoopcjdbefaa", sum := "3da0afb4c8fb7082246a291304cf159f26f63b7597c2c4bd10a29055e90121a7", func := "recycling/recyclinglaw29.CalibrateOffsets", spec := "calibrateOffsets", unfollowed := true, recurses := true, apart := false }
def CalibrateOffsetsSaid : Prop := calibrateOffsetsRow.holds Try.pinned (OpenSpec.ofChange calibrateOffsetsSpec)

/-- ITS FALSE NEIGHBOUR: 'it returns false'. Refute it at one input. -/
def calibrateOffsetsWrong : ChangeSpec := { name := "calibrateOffsets", fn := fun _ => fun
  | [d1, d2] => { results := [.lit (.bool false)], args := [d1, d2] }
  | _ => none }
def CalibrateOffsetsWrongFalsely : Prop := calibrateOffsetsRow.holds Try.pinned (OpenSpec.ofChange calibrateOffsetsWrong)

/-- 'recyclinglaw29.CalibrateSuspects': WHATEVER THE INPUT: true; the input reads as it did. -/
def calibrateSuspectsSpec : ChangeSpec := { name := "calibrateSuspects", fn := fun _ => fun
  | [d1, d2, d3] => { results := [.lit (.bool true)], args := [d1, d2, d3] }
  | _ => none }
def calibrateSuspectsRow : OpenClaim := { program := "ytpjdoopcjdbefaa", sum := "3da0afb4c8fb7082246a291304cf159f26f63b7597c2c4bd10a29055e90121a7", func := "recycling/recyclinglaw29.CalibrateSuspects", spec := "calibrateSuspects", unfollowed := true, recurses := true, apart := false }
def CalibrateSuspectsSaid : Prop := calibrateSuspectsRow.holds Try.pinned (OpenSpec.ofChange calibrateSuspectsSpec)

/-- ITS FALSE NEIGHBOUR: 'it returns false'. Refute it at one input. -/
def calibrateSuspectsWrong : ChangeSpec := { name := "calibrateSuspects", fn := fun _ => fun
  | [d1, d2, d3] => { results := [.lit (.bool false)], args := [d1, d2, d3] }
  | _ => none }
def CalibrateSuspectsWrongFalsely : Prop := calibrateSuspectsRow.holds Try.pinned (OpenSpec.ofChange calibrateSuspectsWrong)

/-- 'recyclinglaw29.CalibrateTrue': WHATEVER THE INPUT: true; the input reads as it did. -/
def calibrateTrueSpec : ChangeSpec := { name := "calibrateTrue", fn := fun _ => fun
  | [d1, d2, d3] => { results := [.lit (.bool true)], args := [d1, d2, d3] }
  | _ => none }
def calibrateTrueRow : OpenClaim := { program := "ytpjdoopcjdbefaa", sum := "3da0afb4c8fb7082246a291304cf159f26f63b7597c2c4bd10a29055e90121a7", func := "recycling/recyclinglaw29.CalibrateTrue", spec := "calibrateTrue", unfollowed := true, recurses := true, apart := false }
def CalibrateTrueSaid : Prop := calibrateTrueRow.holds Try.pinned (OpenSpec.ofChange calibrateTrueSpec)

/-- ITS FALSE NEIGHBOUR: 'it returns false'. Refute it at one input. -/
def calibrateTrueWrong : ChangeSpec := { name := "calibrateTrue", fn := fun _ => fun
  | [d1, d2, d3] => { results := [.lit (.bool false)], args := [d1, d2, d3] }
  | _ => none }
def CalibrateTrueWrongFalsely : Prop := calibrateTrueRow.holds Try.pinned (OpenSpec.ofChange calibrateTrueWrong)

/-- 'recyclinglaw29.CalibrateShift': WHATEVER THE INPUT: true; the input reads as it did. -/
def calibrateShiftSpec : ChangeSpec := { name := "calibrateShift", fn := fun _ => fun
  | [d1, d2, d3] => { results := [.lit (.bool true)], args := [d1, d2, d3] }
  | _ => none }
def calibrateShiftRow : OpenClaim := { program := "ytpjdoopcjdbefaa", sum := "3da0afb4c8fb7082246a291304cf159f26f63b7597c2c4bd10a29055e90121a7", func := "recycling/recyclinglaw29.CalibrateShift", spec := "calibrateShift", unfollowed := true, recurses := true, apart := false }
def CalibrateShiftSaid : Prop := calibrateShiftRow.holds Try.pinned (OpenSpec.ofChange calibrateShiftSpec)

/-- ITS FALSE NEIGHBOUR: 'it returns false'. Refute it at one input. -/
def calibrateShiftWrong : ChangeSpec := { name := "calibrateShift", fn := fun _ => fun
  | [d1, d2, d3] => { results := [.lit (.bool false)], args := [d1, d2, d3] }
  | _ => none }
def CalibrateShiftWrongFalsely : Prop := calibrateShiftRow.holds Try.pinned (OpenSpec.ofChange calibrateShiftWrong)

/-- 'recyclinglaw29.CalibrateTimes': WHATEVER THE INPUT: true; the input reads as it did. -/
def calibrateTimesSpec : ChangeSpec := { name := "calibrateTimes", fn := fun _ => fun
  | [d1, d2, d3] => { results := [.lit (.bool true)], args := [d1, d2, d3] }
  | _ => none }
def calibrateTimesRow : OpenClaim := { program := "ytpjdoopcjdbefaa", sum := "3da0afb4c8fb7082246a291304cf159f26f63b7597c2c4bd10a29055e90121a7", func := "recycling/recyclinglaw29.CalibrateTimes", spec := "calibrateTimes", unfollowed := true, recurses := true, apart := false }
def CalibrateTimesSaid : Prop := calibrateTimesRow.holds Try.pinned (OpenSpec.ofChange calibrateTimesSpec)

/-- ITS FALSE NEIGHBOUR: 'it returns false'. Refute it at one input. -/
def calibrateTimesWrong : ChangeSpec := { name := "calibrateTimes", fn := fun _ => fun
  | [d1, d2, d3] => { results := [.lit (.bool false)], args := [d1, d2, d3] }
  | _ => none }
def CalibrateTimesWrongFalsely : Prop := calibrateTimesRow.holds Try.pinned (OpenSpec.ofChange calibrateTimesWrong)

/-- 'recyclinglaw29.CalibrateUntil': WHATEVER THE INPUT: true; the input reads as it did. -/
def calibrateUntilSpec : ChangeSpec := { name := "calibrateUntil", fn := fun _ => fun
  | [d1, d2, d3] => { results := [.lit (.bool true)], args := [d1, d2, d3] }
  | _ => none }
def calibrateUntilRow : OpenClaim := { program := "ytpjdoopcjdbefaa", sum := "3da0afb4c8fb7082246a291304cf159f26f63b7597c2c4bd10a29055e90121a7", func := "recycling/recyclinglaw29.CalibrateUntil", spec := "calibrateUntil", unfollowed := true, recurses := true, apart := false }
def CalibrateUntilSaid : Prop := calibrateUntilRow.holds Try.pinned (OpenSpec.ofChange calibrateUntilSpec)

/-- ITS FALSE NEIGHBOUR: 'it returns false'. Refute it at one input. -/
def calibrateUntilWrong : ChangeSpec := { name := "calibrateUntil", fn := fun _ => fun
  | [d1, d2, d3] => { results := [.lit (.bool false)], args := [d1, d2, d3] }
  | _ => none }
def CalibrateUntilWrongFalsely : Prop := calibrateUntilRow.holds Try.pinned (OpenSpec.ofChange calibrateUntilWrong)

/- THE SECOND FORM. 'bulk': how many values and letters a reading holds, each counted each time it is reached (what is shared counts as often as it is met; a slice's spare places count too). A statement '..UptoSaid' is the law's where the arguments, and the package variables that the reading takes, are together of bulk at most 1048576: NARROWER than '..Said'. Prove '..Said' where nothing that the law and all that it calls make is longer than what came in: it says more and counts as full. Else prove '..UptoSaid'. A law counts once. -/
mutual
def uptoBulk {H : Type} : DataW H → Nat
  | .lit (.string bytes) => bytes.length + 1
  | .lit _ => 1
  | .nil => 1
  | .ptr d => uptoBulk d + 1
  | .slice elems spare => uptoBulkAll elems + uptoBulkAll spare + 1
  | .agg parts => uptoBulkAll parts + 1
  | .iface _ d => uptoBulk d + 1
  | .map entries => uptoBulkEntries entries + 1
  | .held _ => 1
def uptoBulkAll {H : Type} : List (DataW H) → Nat
  | [] => 0
  | d :: r => uptoBulk d + uptoBulkAll r
def uptoBulkEntries {H : Type} : List (Lit × DataW H) → Nat
  | [] => 0
  | x :: r => uptoBulkEntry x + uptoBulkEntries r
def uptoBulkEntry {H : Type} : Lit × DataW H → Nat
  | (.string bytes, d) => bytes.length + uptoBulk d + 1
  | (_, d) => uptoBulk d + 1
 end
def uptoSmall : (H : Type) → List (DataW H) → Bool := fun _ ds => decide (uptoBulkAll ds ≤ 1048576)
def OpenSpec.upto (s : _root_.Go.ChangeSpec) : _root_.Go.OpenSpec := { _root_.Go.OpenSpec.ofChange s with cond := some uptoSmall }

/-- 'recyclinglaw29.CalibrateConflicts', WHERE WHAT IT READS IS OF BULK AT MOST 1048576: true; the input reads as it did. -/
def calibrateConflictsUptoRow : OpenClaim := { program := "ytpjdoopcjdbefaa", sum := "3da0afb4c8fb7082246a291304cf159f26f63b7597c2c4bd10a29055e90121a7", func := "recycling/recyclinglaw29.CalibrateConflicts", spec := "calibrateConflicts", unfollowed := true, recurses := true, apart := false, narrowed := true }
def CalibrateConflictsUptoSaid : Prop := calibrateConflictsUptoRow.holds Try.pinned (OpenSpec.upto calibrateConflictsSpec)

/-- 'recyclinglaw29.CalibrateFinds', WHERE WHAT IT READS IS OF BULK AT MOST 1048576: true; the input reads as it did. -/
def calibrateFindsUptoRow : OpenClaim := { program := "ytpjdoopcjdbefaa", sum := "3da0afb4c8fb7082246a291304cf159f26f63b7597c2c4bd10a29055e90121a7", func := "recycling/recyclinglaw29.CalibrateFinds", spec := "calibrateFinds", unfollowed := true, recurses := true, apart := false, narrowed := true }
def CalibrateFindsUptoSaid : Prop := calibrateFindsUptoRow.holds Try.pinned (OpenSpec.upto calibrateFindsSpec)

/-- 'recyclinglaw29.CalibrateOffsets', WHERE WHAT IT READS IS OF BULK AT MOST 1048576: true; the input reads as it did. -/
def calibrateOffsetsUptoRow : OpenClaim := { program := "ytpjdoopcjdbefaa", sum := "3da0afb4c8fb7082246a291304cf159f26f63b7597c2c4bd10a29055e90121a7", func := "recycling/recyclinglaw29.CalibrateOffsets", spec := "calibrateOffsets", unfollowed := true, recurses := true, apart := false, narrowed := true }
def CalibrateOffsetsUptoSaid : Prop := calibrateOffsetsUptoRow.holds Try.pinned (OpenSpec.upto calibrateOffsetsSpec)

/-- 'recyclinglaw29.CalibrateSuspects', WHERE WHAT IT READS IS OF BULK AT MOST 1048576: true; the input reads as it did. -/
def calibrateSuspectsUptoRow : OpenClaim := { program := "ytpjdoopcjdbefaa", sum := "3da0afb4c8fb7082246a291304cf159f26f63b7597c2c4bd10a29055e90121a7", func := "recycling/recyclinglaw29.CalibrateSuspects", spec := "calibrateSuspects", unfollowed := true, recurses := true, apart := false, narrowed := true }
def CalibrateSuspectsUptoSaid : Prop := calibrateSuspectsUptoRow.holds Try.pinned (OpenSpec.upto calibrateSuspectsSpec)

/-- 'recyclinglaw29.CalibrateTrue', WHERE WHAT IT READS IS OF BULK AT MOST 1048576: true; the input reads as it did. -/
def calibrateTrueUptoRow : OpenClaim := { program := "ytpjdoopcjdbefaa", sum := "3da0afb4c8fb7082246a291304cf159f26f63b7597c2c4bd10a29055e90121a7", func := "recycling/recyclinglaw29.CalibrateTrue", spec := "calibrateTrue", unfollowed := true, recurses := true, apart := false, narrowed := true }
def CalibrateTrueUptoSaid : Prop := calibrateTrueUptoRow.holds Try.pinned (OpenSpec.upto calibrateTrueSpec)

/-- 'recyclinglaw29.CalibrateShift', WHERE WHAT IT READS IS OF BULK AT MOST 1048576: true; the input reads as it did. -/
def calibrateShiftUptoRow : OpenClaim := { program := "ytpjdoopcjdbefaa", sum := "3da0afb4c8fb7082246a291304cf159f26f63b7597c2c4bd10a29055e90121a7", func := "recycling/recyclinglaw29.CalibrateShift", spec := "calibrateShift", unfollowed := true, recurses := true, apart := false, narrowed := true }
def CalibrateShiftUptoSaid : Prop := calibrateShiftUptoRow.holds Try.pinned (OpenSpec.upto calibrateShiftSpec)

/-- 'recyclinglaw29.CalibrateTimes', WHERE WHAT IT READS IS OF BULK AT MOST 1048576: true; the input reads as it did. -/
def calibrateTimesUptoRow : OpenClaim := { program := "ytpjdoopcjdbefaa", sum := "3da0afb4c8fb7082246a291304cf159f26f63b7597c2c4bd10a29055e90121a7", func := "recycling/recyclinglaw29.CalibrateTimes", spec := "calibrateTimes", unfollowed := true, recurses := true, apart := false, narrowed := true }
def CalibrateTimesUptoSaid : Prop := calibrateTimesUptoRow.holds Try.pinned (OpenSpec.upto calibrateTimesSpec)

/-- 'recyclinglaw29.CalibrateUntil', WHERE WHAT IT READS IS OF BULK AT MOST 1048576: true; the input reads as it did. -/
def calibrateUntilUptoRow : OpenClaim := { program := "ytpjdoopcjdbefaa", sum := "3da0afb4c8fb7082246a291304cf159f26f63b7597c2c4bd10a29055e90121a7", func := "recycling/recyclinglaw29.CalibrateUntil", spec := "calibrateUntil", unfollowed := true, recurses := true, apart := false, narrowed := true }
def CalibrateUntilUptoSaid : Prop := calibrateUntilUptoRow.holds Try.pinned (OpenSpec.upto calibrateUntilSpec)

end Rows
end Go.Proofs.Ytpjdoopcjdbefaa
