/-
  No cell of these rows narrows 'for every input' (looked for: loops, veiled, ifaces, maps, wideKeys, modest, calm, conditions, laid).
  DERIVED. THE GIVEN ROWS OF THIS SEAT. 3 by the template 'for every input the law returns true; each argument reads behind the call as it read before'; 0 by the template 'total and deterministic' (their statements: YtapfihlfnaebhaaTotals.lean).
  GIVEN WITH THE SEED: the statements are not yours to turn. If you find one false, say at which input.
  Laid BY PROGRAM, IN A SANDBOX (cutbox-rows.mjs): the forced cells as the released guide's own fill.sh prints them over the translation 72cee3723b5d7cc0… (all of the seat's roots in one cut). By AI agents, Wed Nov 11 2026. No macro, syntax, notation, axiom, sorry.
-/
import Derived.Test.YtapfihlfnaebhaaChecked
import GoSem.Claim
import GoSem.ClaimJoined
import GoSem.ClaimMapViews
import Derived.JoinedTies
import Derived.KernelRfl
namespace Go.Proofs.Ytapfihlfnaebhaa
/- THE CELL 'sum', in the pinned program and in every row, IS THE sha256 OF THE DUMP (.gsa) THAT YtapfihlfnaebhaaProg.lean LOADS. Nothing in Lean hashes anything: it is a label: what it is worth is what the hold of that sum in a sandbox is worth. -/
noncomputable def Try.pinned : Pinned := { name := "ytapfihlfnaebhaa", sum := "72cee3723b5d7cc05f405d85bd18e034a008bc094082800d842136dcaa5d575a", checked := Try.checked }
namespace Rows
def none {H : Type} : Left H := { results := [], args := [] }

/-- 'recyclingtop.TopScaleBalance': WHATEVER THE INPUT: true; the input reads as it did. -/
def topScaleBalanceSpec : ChangeSpec := { name := "topScaleBalance", fn := fun _ => fun
  | [d1, d2, d3, d4] => { results := [.lit (.bool true)], args := [d1, d2, d3, d4] }
  | _ => none }
def topScaleBalanceRow : OpenClaim := { program := "ytapfihlfnaebhaa", sum := "72cee3723b5d7cc05f405d85bd18e034a008bc094082800d842136dcaa5d575a", func := "recycling/recyclingtop.TopScaleBalance", spec := "topScaleBalance", unfollowed := true, recurses := true, apart := false }
def TopScaleBalanceSaid : Prop := topScaleBalanceRow.holds Try.pinned (OpenSpec.ofChange topScaleBalanceSpec)

/-- ITS FALSE NEIGHBOUR: 'it returns false'. Refute it at one input. -/
def topScaleBalanceWrong : ChangeSpec := { name := "topScaleBalance", fn := fun _ => fun
  | [d1, d2, d3, d4] => { results := [.lit (.bool false)], args := [d1, d2, d3, d4] }
  | _ => none }
def TopScaleBalanceWrongFalsely : Prop := topScaleBalanceRow.holds Try.pinned (OpenSpec.ofChange topScaleBalanceWrong)

/-- 'recyclingtop.TopLotsBalance': WHATEVER THE INPUT: true; the input reads as it did. -/
def topLotsBalanceSpec : ChangeSpec := { name := "topLotsBalance", fn := fun _ => fun
  | [d] => { results := [.lit (.bool true)], args := [d] }
  | _ => none }
def topLotsBalanceRow : OpenClaim := { program := "ytapfihlfnaebhaa", sum := "72cee3723b5d7cc05f405d85bd18e034a008bc094082800d842136dcaa5d575a", func := "recycling/recyclingtop.TopLotsBalance", spec := "topLotsBalance", apart := false }
def TopLotsBalanceSaid : Prop := topLotsBalanceRow.holds Try.pinned (OpenSpec.ofChange topLotsBalanceSpec)

/-- ITS FALSE NEIGHBOUR: 'it returns false'. Refute it at one input. -/
def topLotsBalanceWrong : ChangeSpec := { name := "topLotsBalance", fn := fun _ => fun
  | [d] => { results := [.lit (.bool false)], args := [d] }
  | _ => none }
def TopLotsBalanceWrongFalsely : Prop := topLotsBalanceRow.holds Try.pinned (OpenSpec.ofChange topLotsBalanceWrong)

/-- 'recyclingtop.TopMeasured': WHATEVER THE INPUT: true; the input reads as it did. -/
def topMeasuredSpec : ChangeSpec := { name := "topMeasured", fn := fun _ => fun
  | [d1, d2, d3] => { results := [.lit (.bool true)], args := [d1, d2, d3] }
  | _ => none }
def topMeasuredRow : OpenClaim := { program := "ytapfihlfnaebhaa", sum := "72cee3723b5d7cc05f405d85bd18e034a008bc094082800d842136dcaa5d575a", func := "recycling/recyclingtop.TopMeasured", spec := "topMeasured", unfollowed := true, recurses := true, apart := false }
def TopMeasuredSaid : Prop := topMeasuredRow.holds Try.pinned (OpenSpec.ofChange topMeasuredSpec)

/-- ITS FALSE NEIGHBOUR: 'it returns false'. Refute it at one input. -/
def topMeasuredWrong : ChangeSpec := { name := "topMeasured", fn := fun _ => fun
  | [d1, d2, d3] => { results := [.lit (.bool false)], args := [d1, d2, d3] }
  | _ => none }
def TopMeasuredWrongFalsely : Prop := topMeasuredRow.holds Try.pinned (OpenSpec.ofChange topMeasuredWrong)

/- THE SECOND FORM. 'bulk': how many values and letters a reading holds, each counted each time it is reached (what is shared counts as often as it is met; a slice's spare places count too). A statement '..UptoSaid' is the law's where the arguments, and the package variables that the reading takes, are together of bulk at most 1048576: NARROWER than '..Said'. Prove '..Said' where nothing that the law and all that it calls make is longer than what came in: it says more and counts as full. Else prove '..UptoSaid'. A law counts once. -/
mutual
def uptoBulk {H : Type} : DataW H → Nat
  | .lit (.string bytes) => bytes.length + 1
  | .lit _ => 1
  | .nil => 1
  | .ptr d => uptoBulk d + 1
  | .slice elems spare => uptoBulkAll elems + uptoBulkAll spare + 1
  | .agg parts => uptoBulkAll parts + 1
  | .iface _ d => uptoBulk d + 1
  | .map entries => uptoBulkEntries entries + 1
  | .held _ => 1
def uptoBulkAll {H : Type} : List (DataW H) → Nat
  | [] => 0
  | d :: r => uptoBulk d + uptoBulkAll r
def uptoBulkEntries {H : Type} : List (Lit × DataW H) → Nat
  | [] => 0
  | x :: r => uptoBulkEntry x + uptoBulkEntries r
def uptoBulkEntry {H : Type} : Lit × DataW H → Nat
  | (.string bytes, d) => bytes.length + uptoBulk d + 1
  | (_, d) => uptoBulk d + 1
 end
def uptoSmall : (H : Type) → List (DataW H) → Bool := fun _ ds => decide (uptoBulkAll ds ≤ 1048576)
def OpenSpec.upto (s : _root_.Go.ChangeSpec) : _root_.Go.OpenSpec := { _root_.Go.OpenSpec.ofChange s with cond := some uptoSmall }

/-- 'recyclingtop.TopScaleBalance', WHERE WHAT IT READS IS OF BULK AT MOST 1048576: true; the input reads as it did. -/
def topScaleBalanceUptoRow : OpenClaim := { program := "ytapfihlfnaebhaa", sum := "72cee3723b5d7cc05f405d85bd18e034a008bc094082800d842136dcaa5d575a", func := "recycling/recyclingtop.TopScaleBalance", spec := "topScaleBalance", unfollowed := true, recurses := true, apart := false, narrowed := true }
def TopScaleBalanceUptoSaid : Prop := topScaleBalanceUptoRow.holds Try.pinned (OpenSpec.upto topScaleBalanceSpec)

/-- 'recyclingtop.TopLotsBalance', WHERE WHAT IT READS IS OF BULK AT MOST 1048576: true; the input reads as it did. -/
def topLotsBalanceUptoRow : OpenClaim := { program := "ytapfihlfnaebhaa", sum := "72cee3723b5d7cc05f405d85bd18e034a008bc094082800d842136dcaa5d575a", func := "recycling/recyclingtop.TopLotsBalance", spec := "topLotsBalance", apart := false, narrowed := true }
def TopLotsBalanceUptoSaid : Prop := topLotsBalanceUptoRow.holds Try.pinned (OpenSpec.upto topLotsBalanceSpec)

/-- 'recyclingtop.TopMeasured', WHERE WHAT IT READS IS OF BULK AT MOST 1048576: true; the input reads as it did. -/
def topMeasuredUptoRow : OpenClaim := { program := "ytapfihlfnaebhaa", sum := "72cee3723b5d7cc05f405d85bd18e034a008bc094082800d842136dcaa5d575a", func := "recycling/recyclingtop.TopMeasured", spec := "topMeasured", unfollowed := true, recurses := true, apart := false, narrowed := true }
def TopMeasuredUptoSaid : Prop := topMeasuredUptoRow.holds Try.pinned (OpenSpec.upto topMeasuredSpec)

end Rows
end Go.Proofs.Ytapfihlfnaebhaa
