/-
  No cell of these rows narrows 'for every input' (looked for: loops, veiled, ifaces, maps, wideKeys, modest, calm, conditions, laid).
  DERIVED. THE GIVEN ROWS OF THIS SEAT. 7 by the template 'for every input the law returns true; each argument reads behind the call as it read before'; 0 by the template 'total and deterministic' (their statements: YtaidcdcikjbjjaaTotals.lean).
  GIVEN WITH THE SEED: the statements are not yours to turn. If you find one false, say at which input.
  Laid BY PROGRAM, IN A SANDBOX (cutbox-rows.mjs): the forced cells as the released guide's own fill.sh prints them over the translation 9b574fd78ba31119… (all of the seat's roots in one cut). By AI agents, Wed Nov 11 2026. No macro, syntax, notation, axiom, sorry.
-/
import Derived.Test.YtaidcdcikjbjjaaChecked
import GoSem.Claim
import GoSem.ClaimJoined
import GoSem.ClaimMapViews
import Derived.JoinedTies
import Derived.KernelRfl
namespace Go.Proofs.Ytaidcdcikjbjjaa
/- THE CELL 'sum', in the pinned program and in every row, IS THE sha256 OF THE DUMP (.gsa) THAT YtaidcdcikjbjjaaProg.lean LOADS. Nothing in Lean hashes anything: it is a label: what it is worth is what the hold of that sum in a sandbox is worth. -/
noncomputable def Try.pinned : Pinned := { name := "ytaidcdcikjbjjaa", sum := "9b574fd78ba311192f840631d87352ba53c254f7251aaed47c76f41693ecb339", checked := Try.checked }
namespace Rows
def none {H : Type} : Left H := { results := [], args := [] }

/-- 'recyclinglaw53.TariffChecks': WHATEVER THE INPUT: true; the input reads as it did. -/
def tariffChecksSpec : ChangeSpec := { name := "tariffChecks", fn := fun _ => fun
  | [d] => { results := [.lit (.bool true)], args := [d] }
  | _ => none }
def tariffChecksRow : OpenClaim := { program := "ytaidcdcikjbjjaa", sum := "9b574fd78ba311192f840631d87352ba53c254f7251aaed47c76f41693ecb339", func := "recycling/recyclinglaw53.TariffChecks", spec := "tariffChecks", unfollowed := true, recurses := true, apart := false }
def TariffChecksSaid : Prop := tariffChecksRow.holds Try.pinned (OpenSpec.ofChange tariffChecksSpec)

/-- ITS FALSE NEIGHBOUR: 'it returns false'. Refute it at one input. -/
def tariffChecksWrong : ChangeSpec := { name := "tariffChecks", fn := fun _ => fun
  | [d] => { results := [.lit (.bool false)], args := [d] }
  | _ => none }
def TariffChecksWrongFalsely : Prop := tariffChecksRow.holds Try.pinned (OpenSpec.ofChange tariffChecksWrong)

/-- 'recyclinglaw53.TariffAts': WHATEVER THE INPUT: true; the input reads as it did. -/
def tariffAtsSpec : ChangeSpec := { name := "tariffAts", fn := fun _ => fun
  | [d1, d2] => { results := [.lit (.bool true)], args := [d1, d2] }
  | _ => none }
def tariffAtsRow : OpenClaim := { program := "ytaidcdcikjbjjaa", sum := "9b574fd78ba311192f840631d87352ba53c254f7251aaed47c76f41693ecb339", func := "recycling/recyclinglaw53.TariffAts", spec := "tariffAts", unfollowed := true, recurses := true, apart := false }
def TariffAtsSaid : Prop := tariffAtsRow.holds Try.pinned (OpenSpec.ofChange tariffAtsSpec)

/-- ITS FALSE NEIGHBOUR: 'it returns false'. Refute it at one input. -/
def tariffAtsWrong : ChangeSpec := { name := "tariffAts", fn := fun _ => fun
  | [d1, d2] => { results := [.lit (.bool false)], args := [d1, d2] }
  | _ => none }
def TariffAtsWrongFalsely : Prop := tariffAtsRow.holds Try.pinned (OpenSpec.ofChange tariffAtsWrong)

/-- 'recyclinglaw53.TariffWeights': WHATEVER THE INPUT: true; the input reads as it did. -/
def tariffWeightsSpec : ChangeSpec := { name := "tariffWeights", fn := fun _ => fun
  | [d1, d2] => { results := [.lit (.bool true)], args := [d1, d2] }
  | _ => none }
def tariffWeightsRow : OpenClaim := { program := "ytaidcdcikjbjjaa", sum := "9b574fd78ba311192f840631d87352ba53c254f7251aaed47c76f41693ecb339", func := "recycling/recyclinglaw53.TariffWeights", spec := "tariffWeights", unfollowed := true, recurses := true, apart := false }
def TariffWeightsSaid : Prop := tariffWeightsRow.holds Try.pinned (OpenSpec.ofChange tariffWeightsSpec)

/-- ITS FALSE NEIGHBOUR: 'it returns false'. Refute it at one input. -/
def tariffWeightsWrong : ChangeSpec := { name := "tariffWeights", fn := fun _ => fun
  | [d1, d2] => { results := [.lit (.bool false)], args := [d1, d2] }
  | _ => none }
def TariffWeightsWrongFalsely : Prop := tariffWeightsRow.holds Try.pinned (OpenSpec.ofChange tariffWeightsWrong)

/-- 'recyclinglaw53.TariffItems': WHATEVER THE INPUT: true; the input reads as it did. -/
def tariffItemsSpec : ChangeSpec := { name := "tariffItems", fn := fun _ => fun
  | [d1, d2] => { results := [.lit (.bool true)], args := [d1, d2] }
  | _ => none }
def tariffItemsRow : OpenClaim := { program := "ytaidcdcikjbjjaa", sum := "9b574fd78ba311192f840631d87352ba53c254f7251aaed47c76f41693ecb339", func := "recycling/recyclinglaw53.TariffItems", spec := "tariffItems", unfollowed := true, recurses := true, apart := false }
def TariffItemsSaid : Prop := tariffItemsRow.holds Try.pinned (OpenSpec.ofChange tariffItemsSpec)

/-- ITS FALSE NEIGHBOUR: 'it returns false'. Refute it at one input. -/
def tariffItemsWrong : ChangeSpec := { name := "tariffItems", fn := fun _ => fun
  | [d1, d2] => { results := [.lit (.bool false)], args := [d1, d2] }
  | _ => none }
def TariffItemsWrongFalsely : Prop := tariffItemsRow.holds Try.pinned (OpenSpec.ofChange tariffItemsWrong)

/-- 'recyclinglaw53.TariffBases': WHATEVER THE INPUT: true; the input reads as it did. -/
def tariffBasesSpec : ChangeSpec := { name := "tariffBases", fn := fun _ => fun
  | [d1, d2] => { results := [.lit (.bool true)], args := [d1, d2] }
  | _ => none }
def tariffBasesRow : OpenClaim := { program := "ytaidcdcikjbjjaa", sum := "9b574fd78ba311192f840631d87352ba53c254f7251aaed47c76f41693ecb339", func := "recycling/recyclinglaw53.TariffBases", spec := "tariffBases", unfollowed := true, recurses := true, apart := false }
def TariffBasesSaid : Prop := tariffBasesRow.holds Try.pinned (OpenSpec.ofChange tariffBasesSpec)

/-- ITS FALSE NEIGHBOUR: 'it returns false'. Refute it at one input. -/
def tariffBasesWrong : ChangeSpec := { name := "tariffBases", fn := fun _ => fun
  | [d1, d2] => { results := [.lit (.bool false)], args := [d1, d2] }
  | _ => none }
def TariffBasesWrongFalsely : Prop := tariffBasesRow.holds Try.pinned (OpenSpec.ofChange tariffBasesWrong)

/-- 'recyclinglaw53.TariffDays': WHATEVER THE INPUT: true; the input reads as it did. -/
def tariffDaysSpec : ChangeSpec := { name := "tariffDays", fn := fun _ => fun
  | [d1, d2] => { results := [.lit (.bool true)], args := [d1, d2] }
  | _ => none }
def tariffDaysRow : OpenClaim := { program := "ytaidcdcikjbjjaa", sum := "9b574fd78ba311192f840631d87352ba53c254f7251aaed47c76f41693ecb339", func := "recycling/recyclinglaw53.TariffDays", spec := "tariffDays", unfollowed := true, recurses := true, apart := false }
def TariffDaysSaid : Prop := tariffDaysRow.holds Try.pinned (OpenSpec.ofChange tariffDaysSpec)

/-- ITS FALSE NEIGHBOUR: 'it returns false'. Refute it at one input. -/
def tariffDaysWrong : ChangeSpec := { name := "tariffDays", fn := fun _ => fun
  | [d1, d2] => { results := [.lit (.bool false)], args := [d1, d2] }
  | _ => none }
def TariffDaysWrongFalsely : Prop := tariffDaysRow.holds Try.pinned (OpenSpec.ofChange tariffDaysWrong)

/-- 'recyclinglaw53.TariffSplits': WHATEVER THE INPUT: true; the input reads as it did. -/
def tariffSplitsSpec : ChangeSpec := { name := "tariffSplits", fn := fun _ => fun
  | [d1, d2, d3, d4, d5] => { results := [.lit (.bool true)], args := [d1, d2, d3, d4, d5] }
  | _ => none }
def tariffSplitsRow : OpenClaim := { program := "ytaidcdcikjbjjaa", sum := "9b574fd78ba311192f840631d87352ba53c254f7251aaed47c76f41693ecb339", func := "recycling/recyclinglaw53.TariffSplits", spec := "tariffSplits", unfollowed := true, recurses := true, apart := false }
def TariffSplitsSaid : Prop := tariffSplitsRow.holds Try.pinned (OpenSpec.ofChange tariffSplitsSpec)

/-- ITS FALSE NEIGHBOUR: 'it returns false'. Refute it at one input. -/
def tariffSplitsWrong : ChangeSpec := { name := "tariffSplits", fn := fun _ => fun
  | [d1, d2, d3, d4, d5] => { results := [.lit (.bool false)], args := [d1, d2, d3, d4, d5] }
  | _ => none }
def TariffSplitsWrongFalsely : Prop := tariffSplitsRow.holds Try.pinned (OpenSpec.ofChange tariffSplitsWrong)

/- THE SECOND FORM. 'bulk': how many values and letters a reading holds, each counted each time it is reached (what is shared counts as often as it is met; a slice's spare places count too). A statement '..UptoSaid' is the law's where the arguments, and the package variables that the reading takes, are together of bulk at most 1048576: NARROWER than '..Said'. Prove '..Said' where nothing that the law and all that it calls make is longer than what came in: it says more and counts as full. Else prove '..UptoSaid'. A law counts once. -/
mutual
def uptoBulk {H : Type} : DataW H → Nat
  | .lit (.string bytes) => bytes.length + 1
  | .lit _ => 1
  | .nil => 1
  | .ptr d => uptoBulk d + 1
  | .slice elems spare => uptoBulkAll elems + uptoBulkAll spare + 1
  | .agg parts => uptoBulkAll parts + 1
  | .iface _ d => uptoBulk d + 1
  | .map entries => uptoBulkEntries entries + 1
  | .held _ => 1
def uptoBulkAll {H : Type} : List (DataW H) → Nat
  | [] => 0
  | d :: r => uptoBulk d + uptoBulkAll r
def uptoBulkEntries {H : Type} : List (Lit × DataW H) → Nat
  | [] => 0
  | x :: r => uptoBulkEntry x + uptoBulkEntries r
def uptoBulkEntry {H : Type} : Lit × DataW H → Nat
  | (.string bytes, d) => bytes.length + uptoBulk d + 1
  | (_, d) => uptoBulk d + 1
 end
def uptoSmall : (H : Type) → List (DataW H) → Bool := fun _ ds => decide (uptoBulkAll ds ≤ 1048576)
def OpenSpec.upto (s : _root_.Go.ChangeSpec) : _root_.Go.OpenSpec := { _root_.Go.OpenSpec.ofChange s with cond := some uptoSmall }

/-- 'recyclinglaw53.TariffChecks', WHERE WHAT IT READS IS OF BULK AT MOST 1048576: true; the input reads as it did. -/
def tariffChecksUptoRow : OpenClaim := { program := "ytaidcdcikjbjjaa", sum := "9b574fd78ba311192f840631d87352ba53c254f7251aaed47c76f41693ecb339", func := "recycling/recyclinglaw53.TariffChecks", spec := "tariffChecks", unfollowed := true, recurses := true, apart := false, narrowed := true }
def TariffChecksUptoSaid : Prop := tariffChecksUptoRow.holds Try.pinned (OpenSpec.upto tariffChecksSpec)

/-- 'recyclinglaw53.TariffAts', WHERE WHAT IT READS IS OF BULK AT MOST 1048576: true; the input reads as it did. -/
def tariffAtsUptoRow : OpenClaim := { program := "ytaidcdcikjbjjaa", sum := "9b574fd78ba311192f840631d87352ba53c254f7251aaed47c76f41693ecb339", func := "recycling/recyclinglaw53.TariffAts", spec := "tariffAts", unfollowed := true, recurses := true, apart := false, narrowed := true }
def TariffAtsUptoSaid : Prop := tariffAtsUptoRow.holds Try.pinned (OpenSpec.upto tariffAtsSpec)

/-- 'recyclinglaw53.TariffWeights', WHERE WHAT IT READS IS OF BULK AT MOST 1048576: true; the input reads as it did. -/
def tariffWeightsUptoRow : OpenClaim := { program := "ytaidcdcikjbjjaa", sum := "9b574fd78ba311192f840631d87352ba53c254f7251aaed47c76f41693ecb339", func := "recycling/recyclinglaw53.TariffWeights", spec := "tariffWeights", unfollowed := true, recurses := true, apart := false, narrowed := true }
def TariffWeightsUptoSaid : Prop := tariffWeightsUptoRow.holds Try.pinned (OpenSpec.upto tariffWeightsSpec)

/-- 'recyclinglaw53.TariffItems', WHERE WHAT IT READS IS OF BULK AT MOST 1048576: true; the input reads as it did. -/
def tariffItemsUptoRow : OpenClaim := { program := "ytaidcdcikjbjjaa", sum := "9b574fd78ba311192f840631d87352ba53c254f7251aaed47c76f41693ecb339", func := "recycling/recyclinglaw53.TariffItems", spec := "tariffItems", unfollowed := true, recurses := true, apart := false, narrowed := true }
def TariffItemsUptoSaid : Prop := tariffItemsUptoRow.holds Try.pinned (OpenSpec.upto tariffItemsSpec)

/-- 'recyclinglaw53.TariffBases', WHERE WHAT IT READS IS OF BULK AT MOST 1048576: true; the input reads as it did. -/
def tariffBasesUptoRow : OpenClaim := { program := "ytaidcdcikjbjjaa", sum := "9b574fd78ba311192f840631d87352ba53c254f7251aaed47c76f41693ecb339", func := "recycling/recyclinglaw53.TariffBases", spec := "tariffBases", unfollowed := true, recurses := true, apart := false, narrowed := true }
def TariffBasesUptoSaid : Prop := tariffBasesUptoRow.holds Try.pinned (OpenSpec.upto tariffBasesSpec)

/-- 'recyclinglaw53.TariffDays', WHERE WHAT IT READS IS OF BULK AT MOST 1048576: true; the input reads as it did. -/
def tariffDaysUptoRow : OpenClaim := { program := "ytaidcdcikjbjjaa", sum := "9b574fd78ba311192f840631d87352ba53c254f7251aaed47c76f41693ecb339", func := "recycling/recyclinglaw53.TariffDays", spec := "tariffDays", unfollowed := true, recurses := true, apart := false, narrowed := true }
def TariffDaysUptoSaid : Prop := tariffDaysUptoRow.holds Try.pinned (OpenSpec.upto tariffDaysSpec)

/-- 'recyclinglaw53.TariffSplits', WHERE WHAT IT READS IS OF BULK AT MOST 1048576: true; the input reads as it did. -/
def tariffSplitsUptoRow : OpenClaim := { program := "ytaidcdcikjbjjaa", sum := "9b574fd78ba311192f840631d87352ba53c254f7251aaed47c76f41693ecb339", func := "recycling/recyclinglaw53.TariffSplits", spec := "tariffSplits", unfollowed := true, recurses := true, apart := false, narrowed := true }
def TariffSplitsUptoSaid : Prop := tariffSplitsUptoRow.holds Try.pinned (OpenSpec.upto tariffSplitsSpec)

end Rows
end Go.Proofs.Ytaidcdcikjbjjaa
