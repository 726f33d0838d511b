/-
  No cell of these rows narrows 'for every input' (looked for: loops, veiled, ifaces, maps, wideKeys, modest, calm, conditions, laid).
  DERIVED. THE GIVEN ROWS OF THIS SEAT. 9 by the template 'for every input the law returns true; each argument reads behind the call as it read before'; 0 by the template 'total and deterministic' (their statements: YthaoclocachbaaaTotals.lean).
  GIVEN WITH THE SEED: the statements are not yours to turn. If you find one false, say at which input.
  Laid BY PROGRAM, IN A SANDBOX (cutbox-rows.mjs): the forced cells as the released guide's own fill.sh prints them over the translation 481de9d71e14ad9a… (all of the seat's roots in one cut). By AI agents, Wed Nov 11 2026. No macro, syntax, notation, axiom, sorry.
-/
import Derived.Test.YthaoclocachbaaaChecked
import GoSem.Claim
import GoSem.ClaimJoined
import GoSem.ClaimMapViews
import Derived.JoinedTies
import Derived.KernelRfl
namespace Go.Proofs.Ythaoclocachbaaa
/- THE CELL 'sum', in the pinned program and in every row, IS THE sha256 OF THE DUMP (.gsa) THAT YthaoclocachbaaaProg.lean LOADS. Nothing in Lean hashes anything: it is a label: what it is worth is what the hold of that sum in a sandbox is worth. -/
noncomputable def Try.pinned : Pinned := { name := "ythaoclocachbaaa", sum := "481de9d71e14ad9a069d1615f4caa627d53b8730c71bcd6571ef09f691ab7354", checked := Try.checked }
namespace Rows
def none {H : Type} : Left H := { results := [], args := [] }

/-- 'recyclinglaw28.BalanceExact': WHATEVER THE INPUT: true; the input reads as it did. -/
def balanceExactSpec : ChangeSpec := { name := "balanceExact", fn := fun _ => fun
  | [d] => { results := [.lit (.bool true)], args := [d] }
  | _ => none }
def balanceExactRow : OpenClaim := { program := "ythaoclocachbaaa", sum := "481de9d71e14ad9a069d1615f4caa627d53b8730c71bcd6571ef09f691ab7354", func := "recycling/recyclinglaw28.BalanceExact", spec := "balanceExact", apart := false }
def BalanceExactSaid : Prop := balanceExactRow.holds Try.pinned (OpenSpec.ofChange balanceExactSpec)

/-- ITS FALSE NEIGHBOUR: 'it returns false'. Refute it at one input. -/
def balanceExactWrong : ChangeSpec := { name := "balanceExact", fn := fun _ => fun
  | [d] => { results := [.lit (.bool false)], args := [d] }
  | _ => none }
def BalanceExactWrongFalsely : Prop := balanceExactRow.holds Try.pinned (OpenSpec.ofChange balanceExactWrong)

/-- 'recyclinglaw28.BalanceCheck': WHATEVER THE INPUT: true; the input reads as it did. -/
def balanceCheckSpec : ChangeSpec := { name := "balanceCheck", fn := fun _ => fun
  | [d1, d2, d3] => { results := [.lit (.bool true)], args := [d1, d2, d3] }
  | _ => none }
def balanceCheckRow : OpenClaim := { program := "ythaoclocachbaaa", sum := "481de9d71e14ad9a069d1615f4caa627d53b8730c71bcd6571ef09f691ab7354", func := "recycling/recyclinglaw28.BalanceCheck", spec := "balanceCheck", apart := false }
def BalanceCheckSaid : Prop := balanceCheckRow.holds Try.pinned (OpenSpec.ofChange balanceCheckSpec)

/-- ITS FALSE NEIGHBOUR: 'it returns false'. Refute it at one input. -/
def balanceCheckWrong : ChangeSpec := { name := "balanceCheck", fn := fun _ => fun
  | [d1, d2, d3] => { results := [.lit (.bool false)], args := [d1, d2, d3] }
  | _ => none }
def BalanceCheckWrongFalsely : Prop := balanceCheckRow.holds Try.pinned (OpenSpec.ofChange balanceCheckWrong)

/-- 'recyclinglaw28.BalanceStock': WHATEVER THE INPUT: true; the input reads as it did. -/
def balanceStockSpec : ChangeSpec := { name := "balanceStock", fn := fun _ => fun
  | [d1, d2, d3] => { results := [.lit (.bool true)], args := [d1, d2, d3] }
  | _ => none }
def balanceStockRow : OpenClaim := { program := "ythaoclocachbaaa", sum := "481de9d71e14ad9a069d1615f4caa627d53b8730c71bcd6571ef09f691ab7354", func := "recycling/recyclinglaw28.BalanceStock", spec := "balanceStock", apart := false }
def BalanceStockSaid : Prop := balanceStockRow.holds Try.pinned (OpenSpec.ofChange balanceStockSpec)

/-- ITS FALSE NEIGHBOUR: 'it returns false'. Refute it at one input. -/
def balanceStockWrong : ChangeSpec := { name := "balanceStock", fn := fun _ => fun
  | [d1, d2, d3] => { results := [.lit (.bool false)], args := [d1, d2, d3] }
  | _ => none }
def BalanceStockWrongFalsely : Prop := balanceStockRow.holds Try.pinned (OpenSpec.ofChange balanceStockWrong)

/-- 'recyclinglaw28.BalanceConserves': WHATEVER THE INPUT: true; the input reads as it did. -/
def balanceConservesSpec : ChangeSpec := { name := "balanceConserves", fn := fun _ => fun
  | [d] => { results := [.lit (.bool true)], args := [d] }
  | _ => none }
def balanceConservesRow : OpenClaim := { program := "ythaoclocachbaaa", sum := "481de9d71e14ad9a069d1615f4caa627d53b8730c71bcd6571ef09f691ab7354", func := "recycling/recyclinglaw28.BalanceConserves", spec := "balanceConserves", apart := false }
def BalanceConservesSaid : Prop := balanceConservesRow.holds Try.pinned (OpenSpec.ofChange balanceConservesSpec)

/-- ITS FALSE NEIGHBOUR: 'it returns false'. Refute it at one input. -/
def balanceConservesWrong : ChangeSpec := { name := "balanceConserves", fn := fun _ => fun
  | [d] => { results := [.lit (.bool false)], args := [d] }
  | _ => none }
def BalanceConservesWrongFalsely : Prop := balanceConservesRow.holds Try.pinned (OpenSpec.ofChange balanceConservesWrong)

/-- 'recyclinglaw28.BalanceHolds': WHATEVER THE INPUT: true; the input reads as it did. -/
def balanceHoldsSpec : ChangeSpec := { name := "balanceHolds", fn := fun _ => fun
  | [d1, d2] => { results := [.lit (.bool true)], args := [d1, d2] }
  | _ => none }
def balanceHoldsRow : OpenClaim := { program := "ythaoclocachbaaa", sum := "481de9d71e14ad9a069d1615f4caa627d53b8730c71bcd6571ef09f691ab7354", func := "recycling/recyclinglaw28.BalanceHolds", spec := "balanceHolds", apart := false }
def BalanceHoldsSaid : Prop := balanceHoldsRow.holds Try.pinned (OpenSpec.ofChange balanceHoldsSpec)

/-- ITS FALSE NEIGHBOUR: 'it returns false'. Refute it at one input. -/
def balanceHoldsWrong : ChangeSpec := { name := "balanceHolds", fn := fun _ => fun
  | [d1, d2] => { results := [.lit (.bool false)], args := [d1, d2] }
  | _ => none }
def BalanceHoldsWrongFalsely : Prop := balanceHoldsRow.holds Try.pinned (OpenSpec.ofChange balanceHoldsWrong)

/-- 'recyclinglaw28.BalanceTruth': WHATEVER THE INPUT: true; the input reads as it did. -/
def balanceTruthSpec : ChangeSpec := { name := "balanceTruth", fn := fun _ => fun
  | [d1, d2] => { results := [.lit (.bool true)], args := [d1, d2] }
  | _ => none }
def balanceTruthRow : OpenClaim := { program := "ythaoclocachbaaa", sum := "481de9d71e14ad9a069d1615f4caa627d53b8730c71bcd6571ef09f691ab7354", func := "recycling/recyclinglaw28.BalanceTruth", spec := "balanceTruth", apart := false }
def BalanceTruthSaid : Prop := balanceTruthRow.holds Try.pinned (OpenSpec.ofChange balanceTruthSpec)

/-- ITS FALSE NEIGHBOUR: 'it returns false'. Refute it at one input. -/
def balanceTruthWrong : ChangeSpec := { name := "balanceTruth", fn := fun _ => fun
  | [d1, d2] => { results := [.lit (.bool false)], args := [d1, d2] }
  | _ => none }
def BalanceTruthWrongFalsely : Prop := balanceTruthRow.holds Try.pinned (OpenSpec.ofChange balanceTruthWrong)

/-- 'recyclinglaw28.BalanceTighten': WHATEVER THE INPUT: true; the input reads as it did. -/
def balanceTightenSpec : ChangeSpec := { name := "balanceTighten", fn := fun _ => fun
  | [d] => { results := [.lit (.bool true)], args := [d] }
  | _ => none }
def balanceTightenRow : OpenClaim := { program := "ythaoclocachbaaa", sum := "481de9d71e14ad9a069d1615f4caa627d53b8730c71bcd6571ef09f691ab7354", func := "recycling/recyclinglaw28.BalanceTighten", spec := "balanceTighten", unfollowed := true, recurses := true, apart := false }
def BalanceTightenSaid : Prop := balanceTightenRow.holds Try.pinned (OpenSpec.ofChange balanceTightenSpec)

/-- ITS FALSE NEIGHBOUR: 'it returns false'. Refute it at one input. -/
def balanceTightenWrong : ChangeSpec := { name := "balanceTighten", fn := fun _ => fun
  | [d] => { results := [.lit (.bool false)], args := [d] }
  | _ => none }
def BalanceTightenWrongFalsely : Prop := balanceTightenRow.holds Try.pinned (OpenSpec.ofChange balanceTightenWrong)

/-- 'recyclinglaw28.BalanceAttained': WHATEVER THE INPUT: true; the input reads as it did. -/
def balanceAttainedSpec : ChangeSpec := { name := "balanceAttained", fn := fun _ => fun
  | [d1, d2, d3] => { results := [.lit (.bool true)], args := [d1, d2, d3] }
  | _ => none }
def balanceAttainedRow : OpenClaim := { program := "ythaoclocachbaaa", sum := "481de9d71e14ad9a069d1615f4caa627d53b8730c71bcd6571ef09f691ab7354", func := "recycling/recyclinglaw28.BalanceAttained", spec := "balanceAttained", unfollowed := true, recurses := true, apart := false }
def BalanceAttainedSaid : Prop := balanceAttainedRow.holds Try.pinned (OpenSpec.ofChange balanceAttainedSpec)

/-- ITS FALSE NEIGHBOUR: 'it returns false'. Refute it at one input. -/
def balanceAttainedWrong : ChangeSpec := { name := "balanceAttained", fn := fun _ => fun
  | [d1, d2, d3] => { results := [.lit (.bool false)], args := [d1, d2, d3] }
  | _ => none }
def BalanceAttainedWrongFalsely : Prop := balanceAttainedRow.holds Try.pinned (OpenSpec.ofChange balanceAttainedWrong)

/-- 'recyclinglaw28.BalanceStable': WHATEVER THE INPUT: true; the input reads as it did. -/
def balanceStableSpec : ChangeSpec := { name := "balanceStable", fn := fun _ => fun
  | [d] => { results := [.lit (.bool true)], args := [d] }
  | _ => none }
def balanceStableRow : OpenClaim := { program := "ythaoclocachbaaa", sum := "481de9d71e14ad9a069d1615f4caa627d53b8730c71bcd6571ef09f691ab7354", func := "recycling/recyclinglaw28.BalanceStable", spec := "balanceStable", unfollowed := true, recurses := true, apart := false }
def BalanceStableSaid : Prop := balanceStableRow.holds Try.pinned (OpenSpec.ofChange balanceStableSpec)

/-- ITS FALSE NEIGHBOUR: 'it returns false'. Refute it at one input. -/
def balanceStableWrong : ChangeSpec := { name := "balanceStable", fn := fun _ => fun
  | [d] => { results := [.lit (.bool false)], args := [d] }
  | _ => none }
def BalanceStableWrongFalsely : Prop := balanceStableRow.holds Try.pinned (OpenSpec.ofChange balanceStableWrong)

/- THE SECOND FORM. 'bulk': how many values and letters a reading holds, each counted each time it is reached (what is shared counts as often as it is met; a slice's spare places count too). A statement '..UptoSaid' is the law's where the arguments, and the package variables that the reading takes, are together of bulk at most 1048576: NARROWER than '..Said'. Prove '..Said' where nothing that the law and all that it calls make is longer than what came in: it says more and counts as full. Else prove '..UptoSaid'. A law counts once. -/
mutual
def uptoBulk {H : Type} : DataW H → Nat
  | .lit (.string bytes) => bytes.length + 1
  | .lit _ => 1
  | .nil => 1
  | .ptr d => uptoBulk d + 1
  | .slice elems spare => uptoBulkAll elems + uptoBulkAll spare + 1
  | .agg parts => uptoBulkAll parts + 1
  | .iface _ d => uptoBulk d + 1
  | .map entries => uptoBulkEntries entries + 1
  | .held _ => 1
def uptoBulkAll {H : Type} : List (DataW H) → Nat
  | [] => 0
  | d :: r => uptoBulk d + uptoBulkAll r
def uptoBulkEntries {H : Type} : List (Lit × DataW H) → Nat
  | [] => 0
  | x :: r => uptoBulkEntry x + uptoBulkEntries r
def uptoBulkEntry {H : Type} : Lit × DataW H → Nat
  | (.string bytes, d) => bytes.length + uptoBulk d + 1
  | (_, d) => uptoBulk d + 1
 end
def uptoSmall : (H : Type) → List (DataW H) → Bool := fun _ ds => decide (uptoBulkAll ds ≤ 1048576)
def OpenSpec.upto (s : _root_.Go.ChangeSpec) : _root_.Go.OpenSpec := { _root_.Go.OpenSpec.ofChange s with cond := some uptoSmall }

/-- 'recyclinglaw28.BalanceExact', WHERE WHAT IT READS IS OF BULK AT MOST 1048576: true; the input reads as it did. -/
def balanceExactUptoRow : OpenClaim := { program := "ythaoclocachbaaa", sum := "481de9d71e14ad9a069d1615f4caa627d53b8730c71bcd6571ef09f691ab7354", func := "recycling/recyclinglaw28.BalanceExact", spec := "balanceExact", apart := false, narrowed := true }
def BalanceExactUptoSaid : Prop := balanceExactUptoRow.holds Try.pinned (OpenSpec.upto balanceExactSpec)

/-- 'recyclinglaw28.BalanceCheck', WHERE WHAT IT READS IS OF BULK AT MOST 1048576: true; the input reads as it did. -/
def balanceCheckUptoRow : OpenClaim := { program := "ythaoclocachbaaa", sum := "481de9d71e14ad9a069d1615f4caa627d53b8730c71bcd6571ef09f691ab7354", func := "recycling/recyclinglaw28.BalanceCheck", spec := "balanceCheck", apart := false, narrowed := true }
def BalanceCheckUptoSaid : Prop := balanceCheckUptoRow.holds Try.pinned (OpenSpec.upto balanceCheckSpec)

/-- 'recyclinglaw28.BalanceStock', WHERE WHAT IT READS IS OF BULK AT MOST 1048576: true; the input reads as it did. -/
def balanceStockUptoRow : OpenClaim := { program := "ythaoclocachbaaa", sum := "481de9d71e14ad9a069d1615f4caa627d53b8730c71bcd6571ef09f691ab7354", func := "recycling/recyclinglaw28.BalanceStock", spec := "balanceStock", apart := false, narrowed := true }
def BalanceStockUptoSaid : Prop := balanceStockUptoRow.holds Try.pinned (OpenSpec.upto balanceStockSpec)

/-- 'recyclinglaw28.BalanceConserves', WHERE WHAT IT READS IS OF BULK AT MOST 1048576: true; the input reads as it did. -/
def balanceConservesUptoRow : OpenClaim := { program := "ythaoclocachbaaa", sum := "481de9d71e14ad9a069d1615f4caa627d53b8730c71bcd6571ef09f691ab7354", func := "recycling/recyclinglaw28.BalanceConserves", spec := "balanceConserves", apart := false, narrowed := true }
def BalanceConservesUptoSaid : Prop := balanceConservesUptoRow.holds Try.pinned (OpenSpec.upto balanceConservesSpec)

/-- 'recyclinglaw28.BalanceHolds', WHERE WHAT IT READS IS OF BULK AT MOST 1048576: true; the input reads as it did. -/
def balanceHoldsUptoRow : OpenClaim := { program := "ythaoclocachbaaa", sum := "481de9d71e14ad9a069d1615f4caa627d53b8730c71bcd6571ef09f691ab7354", func := "recycling/recyclinglaw28.BalanceHolds", spec := "balanceHolds", apart := false, narrowed := true }
def BalanceHoldsUptoSaid : Prop := balanceHoldsUptoRow.holds Try.pinned (OpenSpec.upto balanceHoldsSpec)

/-- 'recyclinglaw28.BalanceTruth', WHERE WHAT IT READS IS OF BULK AT MOST 1048576: true; the input reads as it did. -/
def balanceTruthUptoRow : OpenClaim := { program := "ythaoclocachbaaa", sum := "481de9d71e14ad9a069d1615f4caa627d53b8730c71bcd6571ef09f691ab7354", func := "recycling/recyclinglaw28.BalanceTruth", spec := "balanceTruth", apart := false, narrowed := true }
def BalanceTruthUptoSaid : Prop := balanceTruthUptoRow.holds Try.pinned (OpenSpec.upto balanceTruthSpec)

/-- 'recyclinglaw28.BalanceTighten', WHERE WHAT IT READS IS OF BULK AT MOST 1048576: true; the input reads as it did. -/
def balanceTightenUptoRow : OpenClaim := { program := "ythaoclocachbaaa", sum := "481de9d71e14ad9a069d1615f4caa627d53b8730c71bcd6571ef09f691ab7354", func := "recycling/recyclinglaw28.BalanceTighten", spec := "balanceTighten", unfollowed := true, recurses := true, apart := false, narrowed := true }
def BalanceTightenUptoSaid : Prop := balanceTightenUptoRow.holds Try.pinned (OpenSpec.upto balanceTightenSpec)

/-- 'recyclinglaw28.BalanceAttained', WHERE WHAT IT READS IS OF BULK AT MOST 1048576: true; the input reads as it did. -/
def balanceAttainedUptoRow : OpenClaim := { program := "ythaoclocachbaaa", sum := "481de9d71e14ad9a069d1615f4caa627d53b8730c71bcd6571ef09f691ab7354", func := "recycling/recyclinglaw28.BalanceAttained", spec := "balanceAttained", unfollowed := true, recurses := true, apart := false, narrowed := true }
def BalanceAttainedUptoSaid : Prop := balanceAttainedUptoRow.holds Try.pinned (OpenSpec.upto balanceAttainedSpec)

/-- 'recyclinglaw28.BalanceStable', WHERE WHAT IT READS IS OF BULK AT MOST 1048576: true; the input reads as it did. -/
def balanceStableUptoRow : OpenClaim := { program := "ythaoclocachbaaa", sum := "481de9d71e14ad9a069d1615f4caa627d53b8730c71bcd6571ef09f691ab7354", func := "recycling/recyclinglaw28.BalanceStable", spec := "balanceStable", unfollowed := true, recurses := true, apart := false, narrowed := true }
def BalanceStableUptoSaid : Prop := balanceStableUptoRow.holds Try.pinned (OpenSpec.upto balanceStableSpec)

end Rows
end Go.Proofs.Ythaoclocachbaaa
