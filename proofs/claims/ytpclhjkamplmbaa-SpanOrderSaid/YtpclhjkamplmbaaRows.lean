/-
  No cell of these rows narrows 'for every input' (looked for: loops, veiled, ifaces, maps, wideKeys, modest, calm, conditions, laid).
  DERIVED. THE GIVEN ROWS OF THIS SEAT. 10 by the template 'for every input the law returns true; each argument reads behind the call as it read before'; 0 by the template 'total and deterministic' (their statements: YtpclhjkamplmbaaTotals.lean).
  GIVEN WITH THE SEED: the statements are not yours to turn. If you find one false, say at which input.
  Laid BY PROGRAM, IN A SANDBOX (cutbox-rows.mjs): the forced cells as the released guide's own fill.sh prints them over the translation 2c447490fcb15e12… (all of the seat's roots in one cut). By AI agents, Wed Nov 11 2026. No macro, syntax, notation, axiom, sorry.
-/
import Derived.Test.YtpclhjkamplmbaaChecked
import GoSem.Claim
import GoSem.ClaimJoined
import GoSem.ClaimMapViews
import Derived.JoinedTies
import Derived.KernelRfl
namespace Go.Proofs.Ytpclhjkamplmbaa
/- THE CELL 'sum', in the pinned program and in every row, IS THE sha256 OF THE DUMP (.gsa) THAT YtpclhjkamplmbaaProg.lean LOADS. Nothing in Lean hashes anything: it is a label: what it is worth is what the hold of that sum in a sandbox is worth. -/
noncomputable def Try.pinned : Pinned := { name := "ytpclhjkamplmbaa", sum := "2c447490fcb15e1295a7baf8ad4a2f7abfe2a134e0589bd866b6fd6753488fd5", checked := Try.checked }
namespace Rows
def none {H : Type} : Left H := { results := [], args := [] }

/-- 'recyclinglaw02.SpanValid': WHATEVER THE INPUT: true; the input reads as it did. -/
def spanValidSpec : ChangeSpec := { name := "spanValid", fn := fun _ => fun
  | [d1, d2] => { results := [.lit (.bool true)], args := [d1, d2] }
  | _ => none }
def spanValidRow : OpenClaim := { program := "ytpclhjkamplmbaa", sum := "2c447490fcb15e1295a7baf8ad4a2f7abfe2a134e0589bd866b6fd6753488fd5", func := "recycling/recyclinglaw02.SpanValid", spec := "spanValid", unfollowed := true, recurses := true, apart := false }
def SpanValidSaid : Prop := spanValidRow.holds Try.pinned (OpenSpec.ofChange spanValidSpec)

/-- ITS FALSE NEIGHBOUR: 'it returns false'. Refute it at one input. -/
def spanValidWrong : ChangeSpec := { name := "spanValid", fn := fun _ => fun
  | [d1, d2] => { results := [.lit (.bool false)], args := [d1, d2] }
  | _ => none }
def SpanValidWrongFalsely : Prop := spanValidRow.holds Try.pinned (OpenSpec.ofChange spanValidWrong)

/-- 'recyclinglaw02.SpanAdds': WHATEVER THE INPUT: true; the input reads as it did. -/
def spanAddsSpec : ChangeSpec := { name := "spanAdds", fn := fun _ => fun
  | [d1, d2] => { results := [.lit (.bool true)], args := [d1, d2] }
  | _ => none }
def spanAddsRow : OpenClaim := { program := "ytpclhjkamplmbaa", sum := "2c447490fcb15e1295a7baf8ad4a2f7abfe2a134e0589bd866b6fd6753488fd5", func := "recycling/recyclinglaw02.SpanAdds", spec := "spanAdds", unfollowed := true, recurses := true, apart := false }
def SpanAddsSaid : Prop := spanAddsRow.holds Try.pinned (OpenSpec.ofChange spanAddsSpec)

/-- ITS FALSE NEIGHBOUR: 'it returns false'. Refute it at one input. -/
def spanAddsWrong : ChangeSpec := { name := "spanAdds", fn := fun _ => fun
  | [d1, d2] => { results := [.lit (.bool false)], args := [d1, d2] }
  | _ => none }
def SpanAddsWrongFalsely : Prop := spanAddsRow.holds Try.pinned (OpenSpec.ofChange spanAddsWrong)

/-- 'recyclinglaw02.SpanSums': WHATEVER THE INPUT: true; the input reads as it did. -/
def spanSumsSpec : ChangeSpec := { name := "spanSums", fn := fun _ => fun
  | [d] => { results := [.lit (.bool true)], args := [d] }
  | _ => none }
def spanSumsRow : OpenClaim := { program := "ytpclhjkamplmbaa", sum := "2c447490fcb15e1295a7baf8ad4a2f7abfe2a134e0589bd866b6fd6753488fd5", func := "recycling/recyclinglaw02.SpanSums", spec := "spanSums", unfollowed := true, recurses := true, apart := false }
def SpanSumsSaid : Prop := spanSumsRow.holds Try.pinned (OpenSpec.ofChange spanSumsSpec)

/-- ITS FALSE NEIGHBOUR: 'it returns false'. Refute it at one input. -/
def spanSumsWrong : ChangeSpec := { name := "spanSums", fn := fun _ => fun
  | [d] => { results := [.lit (.bool false)], args := [d] }
  | _ => none }
def SpanSumsWrongFalsely : Prop := spanSumsRow.holds Try.pinned (OpenSpec.ofChange spanSumsWrong)

/-- 'recyclinglaw02.SpanMany': WHATEVER THE INPUT: true; the input reads as it did. -/
def spanManySpec : ChangeSpec := { name := "spanMany", fn := fun _ => fun
  | [d1, d2] => { results := [.lit (.bool true)], args := [d1, d2] }
  | _ => none }
def spanManyRow : OpenClaim := { program := "ytpclhjkamplmbaa", sum := "2c447490fcb15e1295a7baf8ad4a2f7abfe2a134e0589bd866b6fd6753488fd5", func := "recycling/recyclinglaw02.SpanMany", spec := "spanMany", unfollowed := true, recurses := true, apart := false }
def SpanManySaid : Prop := spanManyRow.holds Try.pinned (OpenSpec.ofChange spanManySpec)

/-- ITS FALSE NEIGHBOUR: 'it returns false'. Refute it at one input. -/
def spanManyWrong : ChangeSpec := { name := "spanMany", fn := fun _ => fun
  | [d1, d2] => { results := [.lit (.bool false)], args := [d1, d2] }
  | _ => none }
def SpanManyWrongFalsely : Prop := spanManyRow.holds Try.pinned (OpenSpec.ofChange spanManyWrong)

/-- 'recyclinglaw02.SpanMeets': WHATEVER THE INPUT: true; the input reads as it did. -/
def spanMeetsSpec : ChangeSpec := { name := "spanMeets", fn := fun _ => fun
  | [d1, d2] => { results := [.lit (.bool true)], args := [d1, d2] }
  | _ => none }
def spanMeetsRow : OpenClaim := { program := "ytpclhjkamplmbaa", sum := "2c447490fcb15e1295a7baf8ad4a2f7abfe2a134e0589bd866b6fd6753488fd5", func := "recycling/recyclinglaw02.SpanMeets", spec := "spanMeets", unfollowed := true, recurses := true, apart := false }
def SpanMeetsSaid : Prop := spanMeetsRow.holds Try.pinned (OpenSpec.ofChange spanMeetsSpec)

/-- ITS FALSE NEIGHBOUR: 'it returns false'. Refute it at one input. -/
def spanMeetsWrong : ChangeSpec := { name := "spanMeets", fn := fun _ => fun
  | [d1, d2] => { results := [.lit (.bool false)], args := [d1, d2] }
  | _ => none }
def SpanMeetsWrongFalsely : Prop := spanMeetsRow.holds Try.pinned (OpenSpec.ofChange spanMeetsWrong)

/-- 'recyclinglaw02.SpanWidens': WHATEVER THE INPUT: true; the input reads as it did. -/
def spanWidensSpec : ChangeSpec := { name := "spanWidens", fn := fun _ => fun
  | [d1, d2, d3] => { results := [.lit (.bool true)], args := [d1, d2, d3] }
  | _ => none }
def spanWidensRow : OpenClaim := { program := "ytpclhjkamplmbaa", sum := "2c447490fcb15e1295a7baf8ad4a2f7abfe2a134e0589bd866b6fd6753488fd5", func := "recycling/recyclinglaw02.SpanWidens", spec := "spanWidens", unfollowed := true, recurses := true, apart := false }
def SpanWidensSaid : Prop := spanWidensRow.holds Try.pinned (OpenSpec.ofChange spanWidensSpec)

/-- ITS FALSE NEIGHBOUR: 'it returns false'. Refute it at one input. -/
def spanWidensWrong : ChangeSpec := { name := "spanWidens", fn := fun _ => fun
  | [d1, d2, d3] => { results := [.lit (.bool false)], args := [d1, d2, d3] }
  | _ => none }
def SpanWidensWrongFalsely : Prop := spanWidensRow.holds Try.pinned (OpenSpec.ofChange spanWidensWrong)

/-- 'recyclinglaw02.SpanSound': WHATEVER THE INPUT: true; the input reads as it did. -/
def spanSoundSpec : ChangeSpec := { name := "spanSound", fn := fun _ => fun
  | [d1, d2, d3] => { results := [.lit (.bool true)], args := [d1, d2, d3] }
  | _ => none }
def spanSoundRow : OpenClaim := { program := "ytpclhjkamplmbaa", sum := "2c447490fcb15e1295a7baf8ad4a2f7abfe2a134e0589bd866b6fd6753488fd5", func := "recycling/recyclinglaw02.SpanSound", spec := "spanSound", unfollowed := true, recurses := true, apart := false }
def SpanSoundSaid : Prop := spanSoundRow.holds Try.pinned (OpenSpec.ofChange spanSoundSpec)

/-- ITS FALSE NEIGHBOUR: 'it returns false'. Refute it at one input. -/
def spanSoundWrong : ChangeSpec := { name := "spanSound", fn := fun _ => fun
  | [d1, d2, d3] => { results := [.lit (.bool false)], args := [d1, d2, d3] }
  | _ => none }
def SpanSoundWrongFalsely : Prop := spanSoundRow.holds Try.pinned (OpenSpec.ofChange spanSoundWrong)

/-- 'recyclinglaw02.SpanExact': WHATEVER THE INPUT: true; the input reads as it did. -/
def spanExactSpec : ChangeSpec := { name := "spanExact", fn := fun _ => fun
  | [d1, d2, d3] => { results := [.lit (.bool true)], args := [d1, d2, d3] }
  | _ => none }
def spanExactRow : OpenClaim := { program := "ytpclhjkamplmbaa", sum := "2c447490fcb15e1295a7baf8ad4a2f7abfe2a134e0589bd866b6fd6753488fd5", func := "recycling/recyclinglaw02.SpanExact", spec := "spanExact", unfollowed := true, recurses := true, apart := false }
def SpanExactSaid : Prop := spanExactRow.holds Try.pinned (OpenSpec.ofChange spanExactSpec)

/-- ITS FALSE NEIGHBOUR: 'it returns false'. Refute it at one input. -/
def spanExactWrong : ChangeSpec := { name := "spanExact", fn := fun _ => fun
  | [d1, d2, d3] => { results := [.lit (.bool false)], args := [d1, d2, d3] }
  | _ => none }
def SpanExactWrongFalsely : Prop := spanExactRow.holds Try.pinned (OpenSpec.ofChange spanExactWrong)

/-- 'recyclinglaw02.SpanCommon': WHATEVER THE INPUT: true; the input reads as it did. -/
def spanCommonSpec : ChangeSpec := { name := "spanCommon", fn := fun _ => fun
  | [d1, d2, d3] => { results := [.lit (.bool true)], args := [d1, d2, d3] }
  | _ => none }
def spanCommonRow : OpenClaim := { program := "ytpclhjkamplmbaa", sum := "2c447490fcb15e1295a7baf8ad4a2f7abfe2a134e0589bd866b6fd6753488fd5", func := "recycling/recyclinglaw02.SpanCommon", spec := "spanCommon", unfollowed := true, recurses := true, apart := false }
def SpanCommonSaid : Prop := spanCommonRow.holds Try.pinned (OpenSpec.ofChange spanCommonSpec)

/-- ITS FALSE NEIGHBOUR: 'it returns false'. Refute it at one input. -/
def spanCommonWrong : ChangeSpec := { name := "spanCommon", fn := fun _ => fun
  | [d1, d2, d3] => { results := [.lit (.bool false)], args := [d1, d2, d3] }
  | _ => none }
def SpanCommonWrongFalsely : Prop := spanCommonRow.holds Try.pinned (OpenSpec.ofChange spanCommonWrong)

/-- 'recyclinglaw02.SpanOrder': WHATEVER THE INPUT: true; the input reads as it did. -/
def spanOrderSpec : ChangeSpec := { name := "spanOrder", fn := fun _ => fun
  | [d1, d2] => { results := [.lit (.bool true)], args := [d1, d2] }
  | _ => none }
def spanOrderRow : OpenClaim := { program := "ytpclhjkamplmbaa", sum := "2c447490fcb15e1295a7baf8ad4a2f7abfe2a134e0589bd866b6fd6753488fd5", func := "recycling/recyclinglaw02.SpanOrder", spec := "spanOrder", unfollowed := true, recurses := true, apart := false }
def SpanOrderSaid : Prop := spanOrderRow.holds Try.pinned (OpenSpec.ofChange spanOrderSpec)

/-- ITS FALSE NEIGHBOUR: 'it returns false'. Refute it at one input. -/
def spanOrderWrong : ChangeSpec := { name := "spanOrder", fn := fun _ => fun
  | [d1, d2] => { results := [.lit (.bool false)], args := [d1, d2] }
  | _ => none }
def SpanOrderWrongFalsely : Prop := spanOrderRow.holds Try.pinned (OpenSpec.ofChange spanOrderWrong)

/- THE SECOND FORM. 'bulk': how many values and letters a reading holds, each counted each time it is reached (what is shared counts as often as it is met; a slice's spare places count too). A statement '..UptoSaid' is the law's where the arguments, and the package variables that the reading takes, are together of bulk at most 1048576: NARROWER than '..Said'. Prove '..Said' where nothing that the law and all that it calls make is longer than what came in: it says more and counts as full. Else prove '..UptoSaid'. A law counts once. -/
mutual
def uptoBulk {H : Type} : DataW H → Nat
  | .lit (.string bytes) => bytes.length + 1
  | .lit _ => 1
  | .nil => 1
  | .ptr d => uptoBulk d + 1
  | .slice elems spare => uptoBulkAll elems + uptoBulkAll spare + 1
  | .agg parts => uptoBulkAll parts + 1
  | .iface _ d => uptoBulk d + 1
  | .map entries => uptoBulkEntries entries + 1
  | .held _ => 1
def uptoBulkAll {H : Type} : List (DataW H) → Nat
  | [] => 0
  | d :: r => uptoBulk d + uptoBulkAll r
def uptoBulkEntries {H : Type} : List (Lit × DataW H) → Nat
  | [] => 0
  | x :: r => uptoBulkEntry x + uptoBulkEntries r
def uptoBulkEntry {H : Type} : Lit × DataW H → Nat
  | (.string bytes, d) => bytes.length + uptoBulk d + 1
  | (_, d) => uptoBulk d + 1
 end
def uptoSmall : (H : Type) → List (DataW H) → Bool := fun _ ds => decide (uptoBulkAll ds ≤ 1048576)
def OpenSpec.upto (s : _root_.Go.ChangeSpec) : _root_.Go.OpenSpec := { _root_.Go.OpenSpec.ofChange s with cond := some uptoSmall }

/-- 'recyclinglaw02.SpanValid', WHERE WHAT IT READS IS OF BULK AT MOST 1048576: true; the input reads as it did. -/
def spanValidUptoRow : OpenClaim := { program := "ytpclhjkamplmbaa", sum := "2c447490fcb15e1295a7baf8ad4a2f7abfe2a134e0589bd866b6fd6753488fd5", func := "recycling/recyclinglaw02.SpanValid", spec := "spanValid", unfollowed := true, recurses := true, apart := false, narrowed := true }
def SpanValidUptoSaid : Prop := spanValidUptoRow.holds Try.pinned (OpenSpec.upto spanValidSpec)

/-- 'recyclinglaw02.SpanAdds', WHERE WHAT IT READS IS OF BULK AT MOST 1048576: true; the input reads as it did. -/
def spanAddsUptoRow : OpenClaim := { program := "ytpclhjkamplmbaa", sum := "2c447490fcb15e1295a7baf8ad4a2f7abfe2a134e0589bd866b6fd6753488fd5", func := "recycling/recyclinglaw02.SpanAdds", spec := "spanAdds", unfollowed := true, recurses := true, apart := false, narrowed := true }
def SpanAddsUptoSaid : Prop := spanAddsUptoRow.holds Try.pinned (OpenSpec.upto spanAddsSpec)

/-- 'recyclinglaw02.SpanSums', WHERE WHAT IT READS IS OF BULK AT MOST 1048576: true; the input reads as it did. -/
def spanSumsUptoRow : OpenClaim := { program := "ytpclhjkamplmbaa", sum := "2c447490fcb15e1295a7baf8ad4a2f7abfe2a134e0589bd866b6fd6753488fd5", func := "recycling/recyclinglaw02.SpanSums", spec := "spanSums", unfollowed := true, recurses := true, apart := false, narrowed := true }
def SpanSumsUptoSaid : Prop := spanSumsUptoRow.holds Try.pinned (OpenSpec.upto spanSumsSpec)

/-- 'recyclinglaw02.SpanMany', WHERE WHAT IT READS IS OF BULK AT MOST 1048576: true; the input reads as it did. -/
def spanManyUptoRow : OpenClaim := { program := "ytpclhjkamplmbaa", sum := "2c447490fcb15e1295a7baf8ad4a2f7abfe2a134e0589bd866b6fd6753488fd5", func := "recycling/recyclinglaw02.SpanMany", spec := "spanMany", unfollowed := true, recurses := true, apart := false, narrowed := true }
def SpanManyUptoSaid : Prop := spanManyUptoRow.holds Try.pinned (OpenSpec.upto spanManySpec)

/-- 'recyclinglaw02.SpanMeets', WHERE WHAT IT READS IS OF BULK AT MOST 1048576: true; the input reads as it did. -/
def spanMeetsUptoRow : OpenClaim := { program := "ytpclhjkamplmbaa", sum := "2c447490fcb15e1295a7baf8ad4a2f7abfe2a134e0589bd866b6fd6753488fd5", func := "recycling/recyclinglaw02.SpanMeets", spec := "spanMeets", unfollowed := true, recurses := true, apart := false, narrowed := true }
def SpanMeetsUptoSaid : Prop := spanMeetsUptoRow.holds Try.pinned (OpenSpec.upto spanMeetsSpec)

/-- 'recyclinglaw02.SpanWidens', WHERE WHAT IT READS IS OF BULK AT MOST 1048576: true; the input reads as it did. -/
def spanWidensUptoRow : OpenClaim := { program := "ytpclhjkamplmbaa", sum := "2c447490fcb15e1295a7baf8ad4a2f7abfe2a134e0589bd866b6fd6753488fd5", func := "recycling/recyclinglaw02.SpanWidens", spec := "spanWidens", unfollowed := true, recurses := true, apart := false, narrowed := true }
def SpanWidensUptoSaid : Prop := spanWidensUptoRow.holds Try.pinned (OpenSpec.upto spanWidensSpec)

/-- 'recyclinglaw02.SpanSound', WHERE WHAT IT READS IS OF BULK AT MOST 1048576: true; the input reads as it did. -/
def spanSoundUptoRow : OpenClaim := { program := "ytpclhjkamplmbaa", sum := "2c447490fcb15e1295a7baf8ad4a2f7abfe2a134e0589bd866b6fd6753488fd5", func := "recycling/recyclinglaw02.SpanSound", spec := "spanSound", unfollowed := true, recurses := true, apart := false, narrowed := true }
def SpanSoundUptoSaid : Prop := spanSoundUptoRow.holds Try.pinned (OpenSpec.upto spanSoundSpec)

/-- 'recyclinglaw02.SpanExact', WHERE WHAT IT READS IS OF BULK AT MOST 1048576: true; the input reads as it did. -/
def spanExactUptoRow : OpenClaim := { program := "ytpclhjkamplmbaa", sum := "2c447490fcb15e1295a7baf8ad4a2f7abfe2a134e0589bd866b6fd6753488fd5", func := "recycling/recyclinglaw02.SpanExact", spec := "spanExact", unfollowed := true, recurses := true, apart := false, narrowed := true }
def SpanExactUptoSaid : Prop := spanExactUptoRow.holds Try.pinned (OpenSpec.upto spanExactSpec)

/-- 'recyclinglaw02.SpanCommon', WHERE WHAT IT READS IS OF BULK AT MOST 1048576: true; the input reads as it did. -/
def spanCommonUptoRow : OpenClaim := { program := "ytpclhjkamplmbaa", sum := "2c447490fcb15e1295a7baf8ad4a2f7abfe2a134e0589bd866b6fd6753488fd5", func := "recycling/recyclinglaw02.SpanCommon", spec := "spanCommon", unfollowed := true, recurses := true, apart := false, narrowed := true }
def SpanCommonUptoSaid : Prop := spanCommonUptoRow.holds Try.pinned (OpenSpec.upto spanCommonSpec)

/-- 'recyclinglaw02.SpanOrder', WHERE WHAT IT READS IS OF BULK AT MOST 1048576: true; the input reads as it did. -/
def spanOrderUptoRow : OpenClaim := { program := "ytpclhjkamplmbaa", sum := "2c447490fcb15e1295a7baf8ad4a2f7abfe2a134e0589bd866b6fd6753488fd5", func := "recycling/recyclinglaw02.SpanOrder", spec := "spanOrder", unfollowed := true, recurses := true, apart := false, narrowed := true }
def SpanOrderUptoSaid : Prop := spanOrderUptoRow.holds Try.pinned (OpenSpec.upto spanOrderSpec)

end Rows
end Go.Proofs.Ytpclhjkamplmbaa
