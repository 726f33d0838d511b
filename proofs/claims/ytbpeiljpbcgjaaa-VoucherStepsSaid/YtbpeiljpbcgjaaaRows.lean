/-
  No cell of these rows narrows 'for every input' (looked for: loops, veiled, ifaces, maps, wideKeys, modest, calm, conditions, laid).
  DERIVED. THE GIVEN ROWS OF THIS SEAT. 8 by the template 'for every input the law returns true; each argument reads behind the call as it read before'; 0 by the template 'total and deterministic' (their statements: YtbpeiljpbcgjaaaTotals.lean).
  GIVEN WITH THE SEED: the statements are not yours to turn. If you find one false, say at which input.
  Laid BY PROGRAM, IN A SANDBOX (cutbox-rows.mjs): the forced cells as the released guide's own fill.sh prints them over the translation 8cb6e1e3bb1441af… (all of the seat's roots in one cut). By AI agents, Wed Nov 11 2026. No macro, syntax, notation, axiom, sorry.
-/
import Derived.Test.YtbpeiljpbcgjaaaChecked
import GoSem.Claim
import GoSem.ClaimJoined
import GoSem.ClaimMapViews
import Derived.JoinedTies
import Derived.KernelRfl
namespace Go.Proofs.Ytbpeiljpbcgjaaa
/- THE CELL 'sum', in the pinned program and in every row, IS THE sha256 OF THE DUMP (.gsa) THAT YtbpeiljpbcgjaaaProg.lean LOADS. Nothing in Lean hashes anything: it is a label: what it is worth is what the hold of that sum in a sandbox is worth. -/
noncomputable def Try.pinned : Pinned := { name := "ytbpeiljpbcgjaaa", sum := "8cb6e1e3bb1441afc5b91d0255d745a7eff47d5e9514adf4814991f65cf58286", checked := Try.checked }
namespace Rows
def none {H : Type} : Left H := { results := [], args := [] }

/-- 'recyclinglaw45.VoucherNews': WHATEVER THE INPUT: true; the input reads as it did. -/
def voucherNewsSpec : ChangeSpec := { name := "voucherNews", fn := fun _ => fun
  | [d] => { results := [.lit (.bool true)], args := [d] }
  | _ => none }
def voucherNewsRow : OpenClaim := { program := "ytbpeiljpbcgjaaa", sum := "8cb6e1e3bb1441afc5b91d0255d745a7eff47d5e9514adf4814991f65cf58286", func := "recycling/recyclinglaw45.VoucherNews", spec := "voucherNews", unfollowed := true, recurses := true, apart := false }
def VoucherNewsSaid : Prop := voucherNewsRow.holds Try.pinned (OpenSpec.ofChange voucherNewsSpec)

/-- ITS FALSE NEIGHBOUR: 'it returns false'. Refute it at one input. -/
def voucherNewsWrong : ChangeSpec := { name := "voucherNews", fn := fun _ => fun
  | [d] => { results := [.lit (.bool false)], args := [d] }
  | _ => none }
def VoucherNewsWrongFalsely : Prop := voucherNewsRow.holds Try.pinned (OpenSpec.ofChange voucherNewsWrong)

/-- 'recyclinglaw45.VoucherSteps': WHATEVER THE INPUT: true; the input reads as it did. -/
def voucherStepsSpec : ChangeSpec := { name := "voucherSteps", fn := fun _ => fun
  | [d1, d2] => { results := [.lit (.bool true)], args := [d1, d2] }
  | _ => none }
def voucherStepsRow : OpenClaim := { program := "ytbpeiljpbcgjaaa", sum := "8cb6e1e3bb1441afc5b91d0255d745a7eff47d5e9514adf4814991f65cf58286", func := "recycling/recyclinglaw45.VoucherSteps", spec := "voucherSteps", unfollowed := true, recurses := true, apart := false }
def VoucherStepsSaid : Prop := voucherStepsRow.holds Try.pinned (OpenSpec.ofChange voucherStepsSpec)

/-- ITS FALSE NEIGHBOUR: 'it returns false'. Refute it at one input. -/
def voucherStepsWrong : ChangeSpec := { name := "voucherSteps", fn := fun _ => fun
  | [d1, d2] => { results := [.lit (.bool false)], args := [d1, d2] }
  | _ => none }
def VoucherStepsWrongFalsely : Prop := voucherStepsRow.holds Try.pinned (OpenSpec.ofChange voucherStepsWrong)

/-- 'recyclinglaw45.VoucherOnce': WHATEVER THE INPUT: true; the input reads as it did. -/
def voucherOnceSpec : ChangeSpec := { name := "voucherOnce", fn := fun _ => fun
  | [d1, d2, d3] => { results := [.lit (.bool true)], args := [d1, d2, d3] }
  | _ => none }
def voucherOnceRow : OpenClaim := { program := "ytbpeiljpbcgjaaa", sum := "8cb6e1e3bb1441afc5b91d0255d745a7eff47d5e9514adf4814991f65cf58286", func := "recycling/recyclinglaw45.VoucherOnce", spec := "voucherOnce", unfollowed := true, recurses := true, apart := false }
def VoucherOnceSaid : Prop := voucherOnceRow.holds Try.pinned (OpenSpec.ofChange voucherOnceSpec)

/-- ITS FALSE NEIGHBOUR: 'it returns false'. Refute it at one input. -/
def voucherOnceWrong : ChangeSpec := { name := "voucherOnce", fn := fun _ => fun
  | [d1, d2, d3] => { results := [.lit (.bool false)], args := [d1, d2, d3] }
  | _ => none }
def VoucherOnceWrongFalsely : Prop := voucherOnceRow.holds Try.pinned (OpenSpec.ofChange voucherOnceWrong)

/-- 'recyclinglaw45.VoucherTwice': WHATEVER THE INPUT: true; the input reads as it did. -/
def voucherTwiceSpec : ChangeSpec := { name := "voucherTwice", fn := fun _ => fun
  | [d1, d2, d3] => { results := [.lit (.bool true)], args := [d1, d2, d3] }
  | _ => none }
def voucherTwiceRow : OpenClaim := { program := "ytbpeiljpbcgjaaa", sum := "8cb6e1e3bb1441afc5b91d0255d745a7eff47d5e9514adf4814991f65cf58286", func := "recycling/recyclinglaw45.VoucherTwice", spec := "voucherTwice", unfollowed := true, recurses := true, apart := false }
def VoucherTwiceSaid : Prop := voucherTwiceRow.holds Try.pinned (OpenSpec.ofChange voucherTwiceSpec)

/-- ITS FALSE NEIGHBOUR: 'it returns false'. Refute it at one input. -/
def voucherTwiceWrong : ChangeSpec := { name := "voucherTwice", fn := fun _ => fun
  | [d1, d2, d3] => { results := [.lit (.bool false)], args := [d1, d2, d3] }
  | _ => none }
def VoucherTwiceWrongFalsely : Prop := voucherTwiceRow.holds Try.pinned (OpenSpec.ofChange voucherTwiceWrong)

/-- 'recyclinglaw45.VoucherExpires': WHATEVER THE INPUT: true; the input reads as it did. -/
def voucherExpiresSpec : ChangeSpec := { name := "voucherExpires", fn := fun _ => fun
  | [d1, d2, d3, d4] => { results := [.lit (.bool true)], args := [d1, d2, d3, d4] }
  | _ => none }
def voucherExpiresRow : OpenClaim := { program := "ytbpeiljpbcgjaaa", sum := "8cb6e1e3bb1441afc5b91d0255d745a7eff47d5e9514adf4814991f65cf58286", func := "recycling/recyclinglaw45.VoucherExpires", spec := "voucherExpires", unfollowed := true, recurses := true, apart := false }
def VoucherExpiresSaid : Prop := voucherExpiresRow.holds Try.pinned (OpenSpec.ofChange voucherExpiresSpec)

/-- ITS FALSE NEIGHBOUR: 'it returns false'. Refute it at one input. -/
def voucherExpiresWrong : ChangeSpec := { name := "voucherExpires", fn := fun _ => fun
  | [d1, d2, d3, d4] => { results := [.lit (.bool false)], args := [d1, d2, d3, d4] }
  | _ => none }
def VoucherExpiresWrongFalsely : Prop := voucherExpiresRow.holds Try.pinned (OpenSpec.ofChange voucherExpiresWrong)

/-- 'recyclinglaw45.VoucherFull': WHATEVER THE INPUT: true; the input reads as it did. -/
def voucherFullSpec : ChangeSpec := { name := "voucherFull", fn := fun _ => fun
  | [d1, d2, d3] => { results := [.lit (.bool true)], args := [d1, d2, d3] }
  | _ => none }
def voucherFullRow : OpenClaim := { program := "ytbpeiljpbcgjaaa", sum := "8cb6e1e3bb1441afc5b91d0255d745a7eff47d5e9514adf4814991f65cf58286", func := "recycling/recyclinglaw45.VoucherFull", spec := "voucherFull", unfollowed := true, recurses := true, apart := false }
def VoucherFullSaid : Prop := voucherFullRow.holds Try.pinned (OpenSpec.ofChange voucherFullSpec)

/-- ITS FALSE NEIGHBOUR: 'it returns false'. Refute it at one input. -/
def voucherFullWrong : ChangeSpec := { name := "voucherFull", fn := fun _ => fun
  | [d1, d2, d3] => { results := [.lit (.bool false)], args := [d1, d2, d3] }
  | _ => none }
def VoucherFullWrongFalsely : Prop := voucherFullRow.holds Try.pinned (OpenSpec.ofChange voucherFullWrong)

/-- 'recyclinglaw45.VoucherPasses': WHATEVER THE INPUT: true; the input reads as it did. -/
def voucherPassesSpec : ChangeSpec := { name := "voucherPasses", fn := fun _ => fun
  | [d1, d2, d3] => { results := [.lit (.bool true)], args := [d1, d2, d3] }
  | _ => none }
def voucherPassesRow : OpenClaim := { program := "ytbpeiljpbcgjaaa", sum := "8cb6e1e3bb1441afc5b91d0255d745a7eff47d5e9514adf4814991f65cf58286", func := "recycling/recyclinglaw45.VoucherPasses", spec := "voucherPasses", unfollowed := true, recurses := true, apart := false }
def VoucherPassesSaid : Prop := voucherPassesRow.holds Try.pinned (OpenSpec.ofChange voucherPassesSpec)

/-- ITS FALSE NEIGHBOUR: 'it returns false'. Refute it at one input. -/
def voucherPassesWrong : ChangeSpec := { name := "voucherPasses", fn := fun _ => fun
  | [d1, d2, d3] => { results := [.lit (.bool false)], args := [d1, d2, d3] }
  | _ => none }
def VoucherPassesWrongFalsely : Prop := voucherPassesRow.holds Try.pinned (OpenSpec.ofChange voucherPassesWrong)

/-- 'recyclinglaw45.VoucherNil': WHATEVER THE INPUT: true; the input reads as it did. -/
def voucherNilSpec : ChangeSpec := { name := "voucherNil", fn := fun _ => fun
  | [d] => { results := [.lit (.bool true)], args := [d] }
  | _ => none }
def voucherNilRow : OpenClaim := { program := "ytbpeiljpbcgjaaa", sum := "8cb6e1e3bb1441afc5b91d0255d745a7eff47d5e9514adf4814991f65cf58286", func := "recycling/recyclinglaw45.VoucherNil", spec := "voucherNil", unfollowed := true, recurses := true, apart := false }
def VoucherNilSaid : Prop := voucherNilRow.holds Try.pinned (OpenSpec.ofChange voucherNilSpec)

/-- ITS FALSE NEIGHBOUR: 'it returns false'. Refute it at one input. -/
def voucherNilWrong : ChangeSpec := { name := "voucherNil", fn := fun _ => fun
  | [d] => { results := [.lit (.bool false)], args := [d] }
  | _ => none }
def VoucherNilWrongFalsely : Prop := voucherNilRow.holds Try.pinned (OpenSpec.ofChange voucherNilWrong)

/- THE SECOND FORM. 'bulk': how many values and letters a reading holds, each counted each time it is reached (what is shared counts as often as it is met; a slice's spare places count too). A statement '..UptoSaid' is the law's where the arguments, and the package variables that the reading takes, are together of bulk at most 1048576: NARROWER than '..Said'. Prove '..Said' where nothing that the law and all that it calls make is longer than what came in: it says more and counts as full. Else prove '..UptoSaid'. A law counts once. -/
mutual
def uptoBulk {H : Type} : DataW H → Nat
  | .lit (.string bytes) => bytes.length + 1
  | .lit _ => 1
  | .nil => 1
  | .ptr d => uptoBulk d + 1
  | .slice elems spare => uptoBulkAll elems + uptoBulkAll spare + 1
  | .agg parts => uptoBulkAll parts + 1
  | .iface _ d => uptoBulk d + 1
  | .map entries => uptoBulkEntries entries + 1
  | .held _ => 1
def uptoBulkAll {H : Type} : List (DataW H) → Nat
  | [] => 0
  | d :: r => uptoBulk d + uptoBulkAll r
def uptoBulkEntries {H : Type} : List (Lit × DataW H) → Nat
  | [] => 0
  | x :: r => uptoBulkEntry x + uptoBulkEntries r
def uptoBulkEntry {H : Type} : Lit × DataW H → Nat
  | (.string bytes, d) => bytes.length + uptoBulk d + 1
  | (_, d) => uptoBulk d + 1
 end
def uptoSmall : (H : Type) → List (DataW H) → Bool := fun _ ds => decide (uptoBulkAll ds ≤ 1048576)
def OpenSpec.upto (s : _root_.Go.ChangeSpec) : _root_.Go.OpenSpec := { _root_.Go.OpenSpec.ofChange s with cond := some uptoSmall }

/-- 'recyclinglaw45.VoucherNews', WHERE WHAT IT READS IS OF BULK AT MOST 1048576: true; the input reads as it did. -/
def voucherNewsUptoRow : OpenClaim := { program := "ytbpeiljpbcgjaaa", sum := "8cb6e1e3bb1441afc5b91d0255d745a7eff47d5e9514adf4814991f65cf58286", func := "recycling/recyclinglaw45.VoucherNews", spec := "voucherNews", unfollowed := true, recurses := true, apart := false, narrowed := true }
def VoucherNewsUptoSaid : Prop := voucherNewsUptoRow.holds Try.pinned (OpenSpec.upto voucherNewsSpec)

/-- 'recyclinglaw45.VoucherSteps', WHERE WHAT IT READS IS OF BULK AT MOST 1048576: true; the input reads as it did. -/
def voucherStepsUptoRow : OpenClaim := { program := "ytbpeiljpbcgjaaa", sum := "8cb6e1e3bb1441afc5b91d0255d745a7eff47d5e9514adf4814991f65cf58286", func := "recycling/recyclinglaw45.VoucherSteps", spec := "voucherSteps", unfollowed := true, recurses := true, apart := false, narrowed := true }
def VoucherStepsUptoSaid : Prop := voucherStepsUptoRow.holds Try.pinned (OpenSpec.upto voucherStepsSpec)

/-- 'recyclinglaw45.VoucherOnce', WHERE WHAT IT READS IS OF BULK AT MOST 1048576: true; the input reads as it did. -/
def voucherOnceUptoRow : OpenClaim := { program := "ytbpeiljpbcgjaaa", sum := "8cb6e1e3bb1441afc5b91d0255d745a7eff47d5e9514adf4814991f65cf58286", func := "recycling/recyclinglaw45.VoucherOnce", spec := "voucherOnce", unfollowed := true, recurses := true, apart := false, narrowed := true }
def VoucherOnceUptoSaid : Prop := voucherOnceUptoRow.holds Try.pinned (OpenSpec.upto voucherOnceSpec)

/-- 'recyclinglaw45.VoucherTwice', WHERE WHAT IT READS IS OF BULK AT MOST 1048576: true; the input reads as it did. -/
def voucherTwiceUptoRow : OpenClaim := { program := "ytbpeiljpbcgjaaa", sum := "8cb6e1e3bb1441afc5b91d0255d745a7eff47d5e9514adf4814991f65cf58286", func := "recycling/recyclinglaw45.VoucherTwice", spec := "voucherTwice", unfollowed := true, recurses := true, apart := false, narrowed := true }
def VoucherTwiceUptoSaid : Prop := voucherTwiceUptoRow.holds Try.pinned (OpenSpec.upto voucherTwiceSpec)

/-- 'recyclinglaw45.VoucherExpires', WHERE WHAT IT READS IS OF BULK AT MOST 1048576: true; the input reads as it did. -/
def voucherExpiresUptoRow : OpenClaim := { program := "ytbpeiljpbcgjaaa", sum := "8cb6e1e3bb1441afc5b91d0255d745a7eff47d5e9514adf4814991f65cf58286", func := "recycling/recyclinglaw45.VoucherExpires", spec := "voucherExpires", unfollowed := true, recurses := true, apart := false, narrowed := true }
def VoucherExpiresUptoSaid : Prop := voucherExpiresUptoRow.holds Try.pinned (OpenSpec.upto voucherExpiresSpec)

/-- 'recyclinglaw45.VoucherFull', WHERE WHAT IT READS IS OF BULK AT MOST 1048576: true; the input reads as it did. -/
def voucherFullUptoRow : OpenClaim := { program := "ytbpeiljpbcgjaaa", sum := "8cb6e1e3bb1441afc5b91d0255d745a7eff47d5e9514adf4814991f65cf58286", func := "recycling/recyclinglaw45.VoucherFull", spec := "voucherFull", unfollowed := true, recurses := true, apart := false, narrowed := true }
def VoucherFullUptoSaid : Prop := voucherFullUptoRow.holds Try.pinned (OpenSpec.upto voucherFullSpec)

/-- 'recyclinglaw45.VoucherPasses', WHERE WHAT IT READS IS OF BULK AT MOST 1048576: true; the input reads as it did. -/
def voucherPassesUptoRow : OpenClaim := { program := "ytbpeiljpbcgjaaa", sum := "8cb6e1e3bb1441afc5b91d0255d745a7eff47d5e9514adf4814991f65cf58286", func := "recycling/recyclinglaw45.VoucherPasses", spec := "voucherPasses", unfollowed := true, recurses := true, apart := false, narrowed := true }
def VoucherPassesUptoSaid : Prop := voucherPassesUptoRow.holds Try.pinned (OpenSpec.upto voucherPassesSpec)

/-- 'recyclinglaw45.VoucherNil', WHERE WHAT IT READS IS OF BULK AT MOST 1048576: true; the input reads as it did. -/
def voucherNilUptoRow : OpenClaim := { program := "ytbpeiljpbcgjaaa", sum := "8cb6e1e3bb1441afc5b91d0255d745a7eff47d5e9514adf4814991f65cf58286", func := "recycling/recyclinglaw45.VoucherNil", spec := "voucherNil", unfollowed := true, recurses := true, apart := false, narrowed := true }
def VoucherNilUptoSaid : Prop := voucherNilUptoRow.holds Try.pinned (OpenSpec.upto voucherNilSpec)

end Rows
end Go.Proofs.Ytbpeiljpbcgjaaa
