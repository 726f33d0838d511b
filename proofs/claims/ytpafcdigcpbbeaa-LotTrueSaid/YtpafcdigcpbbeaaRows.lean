/-
  No cell of these rows narrows 'for every input' (looked for: loops, veiled, ifaces, maps, wideKeys, modest, calm, conditions, laid).
  DERIVED. THE GIVEN ROWS OF THIS SEAT. 7 by the template 'for every input the law returns true; each argument reads behind the call as it read before'; 0 by the template 'total and deterministic' (their statements: YtpafcdigcpbbeaaTotals.lean).
  GIVEN WITH THE SEED: the statements are not yours to turn. If you find one false, say at which input.
  Laid BY PROGRAM, IN A SANDBOX (cutbox-rows.mjs): the forced cells as the released guide's own fill.sh prints them over the translation c1ed74763298b331… (all of the seat's roots in one cut). By AI agents, Wed Nov 11 2026. No macro, syntax, notation, axiom, sorry.
-/
import Derived.Test.YtpafcdigcpbbeaaChecked
import GoSem.Claim
import GoSem.ClaimJoined
import GoSem.ClaimMapViews
import Derived.JoinedTies
import Derived.KernelRfl
namespace Go.Proofs.Ytpafcdigcpbbeaa
/- THE CELL 'sum', in the pinned program and in every row, IS THE sha256 OF THE DUMP (.gsa) THAT YtpafcdigcpbbeaaProg.lean LOADS. Nothing in Lean hashes anything: it is a label: what it is worth is what the hold of that sum in a sandbox is worth. -/
noncomputable def Try.pinned : Pinned := { name := "ytpafcdigcpbbeaa", sum := "c1ed74763298b331d69513531624b1305f5df8f5780a25847671cf18b1a18341", checked := Try.checked }
namespace Rows
def none {H : Type} : Left H := { results := [], args := [] }

/-- 'recyclinglaw49.LotChecks': WHATEVER THE INPUT: true; the input reads as it did. -/
def lotChecksSpec : ChangeSpec := { name := "lotChecks", fn := fun _ => fun
  | [d] => { results := [.lit (.bool true)], args := [d] }
  | _ => none }
def lotChecksRow : OpenClaim := { program := "ytpafcdigcpbbeaa", sum := "c1ed74763298b331d69513531624b1305f5df8f5780a25847671cf18b1a18341", func := "recycling/recyclinglaw49.LotChecks", spec := "lotChecks", unfollowed := true, recurses := true, apart := false }
def LotChecksSaid : Prop := lotChecksRow.holds Try.pinned (OpenSpec.ofChange lotChecksSpec)

/-- ITS FALSE NEIGHBOUR: 'it returns false'. Refute it at one input. -/
def lotChecksWrong : ChangeSpec := { name := "lotChecks", fn := fun _ => fun
  | [d] => { results := [.lit (.bool false)], args := [d] }
  | _ => none }
def LotChecksWrongFalsely : Prop := lotChecksRow.holds Try.pinned (OpenSpec.ofChange lotChecksWrong)

/-- 'recyclinglaw49.LotMany': WHATEVER THE INPUT: true; the input reads as it did. -/
def lotManySpec : ChangeSpec := { name := "lotMany", fn := fun _ => fun
  | [d1, d2] => { results := [.lit (.bool true)], args := [d1, d2] }
  | _ => none }
def lotManyRow : OpenClaim := { program := "ytpafcdigcpbbeaa", sum := "c1ed74763298b331d69513531624b1305f5df8f5780a25847671cf18b1a18341", func := "recycling/recyclinglaw49.LotMany", spec := "lotMany", unfollowed := true, recurses := true, apart := false }
def LotManySaid : Prop := lotManyRow.holds Try.pinned (OpenSpec.ofChange lotManySpec)

/-- ITS FALSE NEIGHBOUR: 'it returns false'. Refute it at one input. -/
def lotManyWrong : ChangeSpec := { name := "lotMany", fn := fun _ => fun
  | [d1, d2] => { results := [.lit (.bool false)], args := [d1, d2] }
  | _ => none }
def LotManyWrongFalsely : Prop := lotManyRow.holds Try.pinned (OpenSpec.ofChange lotManyWrong)

/-- 'recyclinglaw49.LotLefts': WHATEVER THE INPUT: true; the input reads as it did. -/
def lotLeftsSpec : ChangeSpec := { name := "lotLefts", fn := fun _ => fun
  | [d1, d2, d3] => { results := [.lit (.bool true)], args := [d1, d2, d3] }
  | _ => none }
def lotLeftsRow : OpenClaim := { program := "ytpafcdigcpbbeaa", sum := "c1ed74763298b331d69513531624b1305f5df8f5780a25847671cf18b1a18341", func := "recycling/recyclinglaw49.LotLefts", spec := "lotLefts", unfollowed := true, recurses := true, apart := false }
def LotLeftsSaid : Prop := lotLeftsRow.holds Try.pinned (OpenSpec.ofChange lotLeftsSpec)

/-- ITS FALSE NEIGHBOUR: 'it returns false'. Refute it at one input. -/
def lotLeftsWrong : ChangeSpec := { name := "lotLefts", fn := fun _ => fun
  | [d1, d2, d3] => { results := [.lit (.bool false)], args := [d1, d2, d3] }
  | _ => none }
def LotLeftsWrongFalsely : Prop := lotLeftsRow.holds Try.pinned (OpenSpec.ofChange lotLeftsWrong)

/-- 'recyclinglaw49.LotOrigins': WHATEVER THE INPUT: true; the input reads as it did. -/
def lotOriginsSpec : ChangeSpec := { name := "lotOrigins", fn := fun _ => fun
  | [d1, d2] => { results := [.lit (.bool true)], args := [d1, d2] }
  | _ => none }
def lotOriginsRow : OpenClaim := { program := "ytpafcdigcpbbeaa", sum := "c1ed74763298b331d69513531624b1305f5df8f5780a25847671cf18b1a18341", func := "recycling/recyclinglaw49.LotOrigins", spec := "lotOrigins", unfollowed := true, recurses := true, apart := false }
def LotOriginsSaid : Prop := lotOriginsRow.holds Try.pinned (OpenSpec.ofChange lotOriginsSpec)

/-- ITS FALSE NEIGHBOUR: 'it returns false'. Refute it at one input. -/
def lotOriginsWrong : ChangeSpec := { name := "lotOrigins", fn := fun _ => fun
  | [d1, d2] => { results := [.lit (.bool false)], args := [d1, d2] }
  | _ => none }
def LotOriginsWrongFalsely : Prop := lotOriginsRow.holds Try.pinned (OpenSpec.ofChange lotOriginsWrong)

/-- 'recyclinglaw49.LotConserves': WHATEVER THE INPUT: true; the input reads as it did. -/
def lotConservesSpec : ChangeSpec := { name := "lotConserves", fn := fun _ => fun
  | [d1, d2] => { results := [.lit (.bool true)], args := [d1, d2] }
  | _ => none }
def lotConservesRow : OpenClaim := { program := "ytpafcdigcpbbeaa", sum := "c1ed74763298b331d69513531624b1305f5df8f5780a25847671cf18b1a18341", func := "recycling/recyclinglaw49.LotConserves", spec := "lotConserves", unfollowed := true, recurses := true, apart := false }
def LotConservesSaid : Prop := lotConservesRow.holds Try.pinned (OpenSpec.ofChange lotConservesSpec)

/-- ITS FALSE NEIGHBOUR: 'it returns false'. Refute it at one input. -/
def lotConservesWrong : ChangeSpec := { name := "lotConserves", fn := fun _ => fun
  | [d1, d2] => { results := [.lit (.bool false)], args := [d1, d2] }
  | _ => none }
def LotConservesWrongFalsely : Prop := lotConservesRow.holds Try.pinned (OpenSpec.ofChange lotConservesWrong)

/-- 'recyclinglaw49.LotTrue': WHATEVER THE INPUT: true; the input reads as it did. -/
def lotTrueSpec : ChangeSpec := { name := "lotTrue", fn := fun _ => fun
  | [d1, d2] => { results := [.lit (.bool true)], args := [d1, d2] }
  | _ => none }
def lotTrueRow : OpenClaim := { program := "ytpafcdigcpbbeaa", sum := "c1ed74763298b331d69513531624b1305f5df8f5780a25847671cf18b1a18341", func := "recycling/recyclinglaw49.LotTrue", spec := "lotTrue", unfollowed := true, recurses := true, apart := false }
def LotTrueSaid : Prop := lotTrueRow.holds Try.pinned (OpenSpec.ofChange lotTrueSpec)

/-- ITS FALSE NEIGHBOUR: 'it returns false'. Refute it at one input. -/
def lotTrueWrong : ChangeSpec := { name := "lotTrue", fn := fun _ => fun
  | [d1, d2] => { results := [.lit (.bool false)], args := [d1, d2] }
  | _ => none }
def LotTrueWrongFalsely : Prop := lotTrueRow.holds Try.pinned (OpenSpec.ofChange lotTrueWrong)

/-- 'recyclinglaw49.LotUses': WHATEVER THE INPUT: true; the input reads as it did. -/
def lotUsesSpec : ChangeSpec := { name := "lotUses", fn := fun _ => fun
  | [d1, d2, d3] => { results := [.lit (.bool true)], args := [d1, d2, d3] }
  | _ => none }
def lotUsesRow : OpenClaim := { program := "ytpafcdigcpbbeaa", sum := "c1ed74763298b331d69513531624b1305f5df8f5780a25847671cf18b1a18341", func := "recycling/recyclinglaw49.LotUses", spec := "lotUses", unfollowed := true, recurses := true, apart := false }
def LotUsesSaid : Prop := lotUsesRow.holds Try.pinned (OpenSpec.ofChange lotUsesSpec)

/-- ITS FALSE NEIGHBOUR: 'it returns false'. Refute it at one input. -/
def lotUsesWrong : ChangeSpec := { name := "lotUses", fn := fun _ => fun
  | [d1, d2, d3] => { results := [.lit (.bool false)], args := [d1, d2, d3] }
  | _ => none }
def LotUsesWrongFalsely : Prop := lotUsesRow.holds Try.pinned (OpenSpec.ofChange lotUsesWrong)

/- THE SECOND FORM. 'bulk': how many values and letters a reading holds, each counted each time it is reached (what is shared counts as often as it is met; a slice's spare places count too). A statement '..UptoSaid' is the law's where the arguments, and the package variables that the reading takes, are together of bulk at most 1048576: NARROWER than '..Said'. Prove '..Said' where nothing that the law and all that it calls make is longer than what came in: it says more and counts as full. Else prove '..UptoSaid'. A law counts once. -/
mutual
def uptoBulk {H : Type} : DataW H → Nat
  | .lit (.string bytes) => bytes.length + 1
  | .lit _ => 1
  | .nil => 1
  | .ptr d => uptoBulk d + 1
  | .slice elems spare => uptoBulkAll elems + uptoBulkAll spare + 1
  | .agg parts => uptoBulkAll parts + 1
  | .iface _ d => uptoBulk d + 1
  | .map entries => uptoBulkEntries entries + 1
  | .held _ => 1
def uptoBulkAll {H : Type} : List (DataW H) → Nat
  | [] => 0
  | d :: r => uptoBulk d + uptoBulkAll r
def uptoBulkEntries {H : Type} : List (Lit × DataW H) → Nat
  | [] => 0
  | x :: r => uptoBulkEntry x + uptoBulkEntries r
def uptoBulkEntry {H : Type} : Lit × DataW H → Nat
  | (.string bytes, d) => bytes.length + uptoBulk d + 1
  | (_, d) => uptoBulk d + 1
 end
def uptoSmall : (H : Type) → List (DataW H) → Bool := fun _ ds => decide (uptoBulkAll ds ≤ 1048576)
def OpenSpec.upto (s : _root_.Go.ChangeSpec) : _root_.Go.OpenSpec := { _root_.Go.OpenSpec.ofChange s with cond := some uptoSmall }

/-- 'recyclinglaw49.LotChecks', WHERE WHAT IT READS IS OF BULK AT MOST 1048576: true; the input reads as it did. -/
def lotChecksUptoRow : OpenClaim := { program := "ytpafcdigcpbbeaa", sum := "c1ed74763298b331d69513531624b1305f5df8f5780a25847671cf18b1a18341", func := "recycling/recyclinglaw49.LotChecks", spec := "lotChecks", unfollowed := true, recurses := true, apart := false, narrowed := true }
def LotChecksUptoSaid : Prop := lotChecksUptoRow.holds Try.pinned (OpenSpec.upto lotChecksSpec)

/-- 'recyclinglaw49.LotMany', WHERE WHAT IT READS IS OF BULK AT MOST 1048576: true; the input reads as it did. -/
def lotManyUptoRow : OpenClaim := { program := "ytpafcdigcpbbeaa", sum := "c1ed74763298b331d69513531624b1305f5df8f5780a25847671cf18b1a18341", func := "recycling/recyclinglaw49.LotMany", spec := "lotMany", unfollowed := true, recurses := true, apart := false, narrowed := true }
def LotManyUptoSaid : Prop := lotManyUptoRow.holds Try.pinned (OpenSpec.upto lotManySpec)

/-- 'recyclinglaw49.LotLefts', WHERE WHAT IT READS IS OF BULK AT MOST 1048576: true; the input reads as it did. -/
def lotLeftsUptoRow : OpenClaim := { program := "ytpafcdigcpbbeaa", sum := "c1ed74763298b331d69513531624b1305f5df8f5780a25847671cf18b1a18341", func := "recycling/recyclinglaw49.LotLefts", spec := "lotLefts", unfollowed := true, recurses := true, apart := false, narrowed := true }
def LotLeftsUptoSaid : Prop := lotLeftsUptoRow.holds Try.pinned (OpenSpec.upto lotLeftsSpec)

/-- 'recyclinglaw49.LotOrigins', WHERE WHAT IT READS IS OF BULK AT MOST 1048576: true; the input reads as it did. -/
def lotOriginsUptoRow : OpenClaim := { program := "ytpafcdigcpbbeaa", sum := "c1ed74763298b331d69513531624b1305f5df8f5780a25847671cf18b1a18341", func := "recycling/recyclinglaw49.LotOrigins", spec := "lotOrigins", unfollowed := true, recurses := true, apart := false, narrowed := true }
def LotOriginsUptoSaid : Prop := lotOriginsUptoRow.holds Try.pinned (OpenSpec.upto lotOriginsSpec)

/-- 'recyclinglaw49.LotConserves', WHERE WHAT IT READS IS OF BULK AT MOST 1048576: true; the input reads as it did. -/
def lotConservesUptoRow : OpenClaim := { program := "ytpafcdigcpbbeaa", sum := "c1ed74763298b331d69513531624b1305f5df8f5780a25847671cf18b1a18341", func := "recycling/recyclinglaw49.LotConserves", spec := "lotConserves", unfollowed := true, recurses := true, apart := false, narrowed := true }
def LotConservesUptoSaid : Prop := lotConservesUptoRow.holds Try.pinned (OpenSpec.upto lotConservesSpec)

/-- 'recyclinglaw49.LotTrue', WHERE WHAT IT READS IS OF BULK AT MOST 1048576: true; the input reads as it did. -/
def lotTrueUptoRow : OpenClaim := { program := "ytpafcdigcpbbeaa", sum := "c1ed74763298b331d69513531624b1305f5df8f5780a25847671cf18b1a18341", func := "recycling/recyclinglaw49.LotTrue", spec := "lotTrue", unfollowed := true, recurses := true, apart := false, narrowed := true }
def LotTrueUptoSaid : Prop := lotTrueUptoRow.holds Try.pinned (OpenSpec.upto lotTrueSpec)

/-- 'recyclinglaw49.LotUses', WHERE WHAT IT READS IS OF BULK AT MOST 1048576: true; the input reads as it did. -/
def lotUsesUptoRow : OpenClaim := { program := "ytpafcdigcpbbeaa", sum := "c1ed74763298b331d69513531624b1305f5df8f5780a25847671cf18b1a18341", func := "recycling/recyclinglaw49.LotUses", spec := "lotUses", unfollowed := true, recurses := true, apart := false, narrowed := true }
def LotUsesUptoSaid : Prop := lotUsesUptoRow.holds Try.pinned (OpenSpec.upto lotUsesSpec)

end Rows
end Go.Proofs.Ytpafcdigcpbbeaa
