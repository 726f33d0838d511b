/-
  No cell of these rows narrows 'for every input' (looked for: loops, veiled, ifaces, maps, wideKeys, modest, calm, conditions, laid).
  DERIVED. THE GIVEN ROWS OF THIS SEAT. 8 by the template 'for every input the law returns true; each argument reads behind the call as it read before'; 0 by the template 'total and deterministic' (their statements: YtdaekfjogcnebaaTotals.lean).
  GIVEN WITH THE SEED: the statements are not yours to turn. If you find one false, say at which input.
  Laid BY PROGRAM, IN A SANDBOX (cutbox-rows.mjs): the forced cells as the released guide's own fill.sh prints them over the translation 5c5dd1b17e6a7382… (all of the seat's roots in one cut). By AI agents, Wed Nov 11 2026. No macro, syntax, notation, axiom, sorry.
-/
import Derived.Test.YtdaekfjogcnebaaChecked
import GoSem.Claim
import GoSem.ClaimJoined
import GoSem.ClaimMapViews
import Derived.JoinedTies
import Derived.KernelRfl
namespace Go.Proofs.Ytdaekfjogcnebaa
/- THE CELL 'sum', in the pinned program and in every row, IS THE sha256 OF THE DUMP (.gsa) THAT YtdaekfjogcnebaaProg.lean LOADS. Nothing in Lean hashes anything: it is a label: what it is worth is what the hold of that sum in a sandbox is worth. -/
noncomputable def Try.pinned : Pinned := { name := "ytdaekfjogcnebaa", sum := "5c5dd1b17e6a73827411f0f34172eff2ec7326fd1011ec20c6f68e470bfd4d05", checked := Try.checked }
namespace Rows
def none {H : Type} : Left H := { results := [], args := [] }

/-- 'recyclinglaw26.ScaleChecks': WHATEVER THE INPUT: true; the input reads as it did. -/
def scaleChecksSpec : ChangeSpec := { name := "scaleChecks", fn := fun _ => fun
  | [d] => { results := [.lit (.bool true)], args := [d] }
  | _ => none }
def scaleChecksRow : OpenClaim := { program := "ytdaekfjogcnebaa", sum := "5c5dd1b17e6a73827411f0f34172eff2ec7326fd1011ec20c6f68e470bfd4d05", func := "recycling/recyclinglaw26.ScaleChecks", spec := "scaleChecks", unfollowed := true, recurses := true, apart := false }
def ScaleChecksSaid : Prop := scaleChecksRow.holds Try.pinned (OpenSpec.ofChange scaleChecksSpec)

/-- ITS FALSE NEIGHBOUR: 'it returns false'. Refute it at one input. -/
def scaleChecksWrong : ChangeSpec := { name := "scaleChecks", fn := fun _ => fun
  | [d] => { results := [.lit (.bool false)], args := [d] }
  | _ => none }
def ScaleChecksWrongFalsely : Prop := scaleChecksRow.holds Try.pinned (OpenSpec.ofChange scaleChecksWrong)

/-- 'recyclinglaw26.ScaleErrors': WHATEVER THE INPUT: true; the input reads as it did. -/
def scaleErrorsSpec : ChangeSpec := { name := "scaleErrors", fn := fun _ => fun
  | [d] => { results := [.lit (.bool true)], args := [d] }
  | _ => none }
def scaleErrorsRow : OpenClaim := { program := "ytdaekfjogcnebaa", sum := "5c5dd1b17e6a73827411f0f34172eff2ec7326fd1011ec20c6f68e470bfd4d05", func := "recycling/recyclinglaw26.ScaleErrors", spec := "scaleErrors", unfollowed := true, recurses := true, apart := false }
def ScaleErrorsSaid : Prop := scaleErrorsRow.holds Try.pinned (OpenSpec.ofChange scaleErrorsSpec)

/-- ITS FALSE NEIGHBOUR: 'it returns false'. Refute it at one input. -/
def scaleErrorsWrong : ChangeSpec := { name := "scaleErrors", fn := fun _ => fun
  | [d] => { results := [.lit (.bool false)], args := [d] }
  | _ => none }
def ScaleErrorsWrongFalsely : Prop := scaleErrorsRow.holds Try.pinned (OpenSpec.ofChange scaleErrorsWrong)

/-- 'recyclinglaw26.ScaleCoulds': WHATEVER THE INPUT: true; the input reads as it did. -/
def scaleCouldsSpec : ChangeSpec := { name := "scaleCoulds", fn := fun _ => fun
  | [d] => { results := [.lit (.bool true)], args := [d] }
  | _ => none }
def scaleCouldsRow : OpenClaim := { program := "ytdaekfjogcnebaa", sum := "5c5dd1b17e6a73827411f0f34172eff2ec7326fd1011ec20c6f68e470bfd4d05", func := "recycling/recyclinglaw26.ScaleCoulds", spec := "scaleCoulds", unfollowed := true, recurses := true, apart := false }
def ScaleCouldsSaid : Prop := scaleCouldsRow.holds Try.pinned (OpenSpec.ofChange scaleCouldsSpec)

/-- ITS FALSE NEIGHBOUR: 'it returns false'. Refute it at one input. -/
def scaleCouldsWrong : ChangeSpec := { name := "scaleCoulds", fn := fun _ => fun
  | [d] => { results := [.lit (.bool false)], args := [d] }
  | _ => none }
def ScaleCouldsWrongFalsely : Prop := scaleCouldsRow.holds Try.pinned (OpenSpec.ofChange scaleCouldsWrong)

/-- 'recyclinglaw26.ScaleTrues': WHATEVER THE INPUT: true; the input reads as it did. -/
def scaleTruesSpec : ChangeSpec := { name := "scaleTrues", fn := fun _ => fun
  | [d] => { results := [.lit (.bool true)], args := [d] }
  | _ => none }
def scaleTruesRow : OpenClaim := { program := "ytdaekfjogcnebaa", sum := "5c5dd1b17e6a73827411f0f34172eff2ec7326fd1011ec20c6f68e470bfd4d05", func := "recycling/recyclinglaw26.ScaleTrues", spec := "scaleTrues", unfollowed := true, recurses := true, apart := false }
def ScaleTruesSaid : Prop := scaleTruesRow.holds Try.pinned (OpenSpec.ofChange scaleTruesSpec)

/-- ITS FALSE NEIGHBOUR: 'it returns false'. Refute it at one input. -/
def scaleTruesWrong : ChangeSpec := { name := "scaleTrues", fn := fun _ => fun
  | [d] => { results := [.lit (.bool false)], args := [d] }
  | _ => none }
def ScaleTruesWrongFalsely : Prop := scaleTruesRow.holds Try.pinned (OpenSpec.ofChange scaleTruesWrong)

/-- 'recyclinglaw26.ScaleShows': WHATEVER THE INPUT: true; the input reads as it did. -/
def scaleShowsSpec : ChangeSpec := { name := "scaleShows", fn := fun _ => fun
  | [d] => { results := [.lit (.bool true)], args := [d] }
  | _ => none }
def scaleShowsRow : OpenClaim := { program := "ytdaekfjogcnebaa", sum := "5c5dd1b17e6a73827411f0f34172eff2ec7326fd1011ec20c6f68e470bfd4d05", func := "recycling/recyclinglaw26.ScaleShows", spec := "scaleShows", unfollowed := true, recurses := true, apart := false }
def ScaleShowsSaid : Prop := scaleShowsRow.holds Try.pinned (OpenSpec.ofChange scaleShowsSpec)

/-- ITS FALSE NEIGHBOUR: 'it returns false'. Refute it at one input. -/
def scaleShowsWrong : ChangeSpec := { name := "scaleShows", fn := fun _ => fun
  | [d] => { results := [.lit (.bool false)], args := [d] }
  | _ => none }
def ScaleShowsWrongFalsely : Prop := scaleShowsRow.holds Try.pinned (OpenSpec.ofChange scaleShowsWrong)

/-- 'recyclinglaw26.ScaleSound': WHATEVER THE INPUT: true; the input reads as it did. -/
def scaleSoundSpec : ChangeSpec := { name := "scaleSound", fn := fun _ => fun
  | [d] => { results := [.lit (.bool true)], args := [d] }
  | _ => none }
def scaleSoundRow : OpenClaim := { program := "ytdaekfjogcnebaa", sum := "5c5dd1b17e6a73827411f0f34172eff2ec7326fd1011ec20c6f68e470bfd4d05", func := "recycling/recyclinglaw26.ScaleSound", spec := "scaleSound", unfollowed := true, recurses := true, apart := false }
def ScaleSoundSaid : Prop := scaleSoundRow.holds Try.pinned (OpenSpec.ofChange scaleSoundSpec)

/-- ITS FALSE NEIGHBOUR: 'it returns false'. Refute it at one input. -/
def scaleSoundWrong : ChangeSpec := { name := "scaleSound", fn := fun _ => fun
  | [d] => { results := [.lit (.bool false)], args := [d] }
  | _ => none }
def ScaleSoundWrongFalsely : Prop := scaleSoundRow.holds Try.pinned (OpenSpec.ofChange scaleSoundWrong)

/-- 'recyclinglaw26.ScaleBetween': WHATEVER THE INPUT: true; the input reads as it did. -/
def scaleBetweenSpec : ChangeSpec := { name := "scaleBetween", fn := fun _ => fun
  | [d] => { results := [.lit (.bool true)], args := [d] }
  | _ => none }
def scaleBetweenRow : OpenClaim := { program := "ytdaekfjogcnebaa", sum := "5c5dd1b17e6a73827411f0f34172eff2ec7326fd1011ec20c6f68e470bfd4d05", func := "recycling/recyclinglaw26.ScaleBetween", spec := "scaleBetween", unfollowed := true, recurses := true, apart := false }
def ScaleBetweenSaid : Prop := scaleBetweenRow.holds Try.pinned (OpenSpec.ofChange scaleBetweenSpec)

/-- ITS FALSE NEIGHBOUR: 'it returns false'. Refute it at one input. -/
def scaleBetweenWrong : ChangeSpec := { name := "scaleBetween", fn := fun _ => fun
  | [d] => { results := [.lit (.bool false)], args := [d] }
  | _ => none }
def ScaleBetweenWrongFalsely : Prop := scaleBetweenRow.holds Try.pinned (OpenSpec.ofChange scaleBetweenWrong)

/-- 'recyclinglaw26.ScaleGrows': WHATEVER THE INPUT: true; the input reads as it did. -/
def scaleGrowsSpec : ChangeSpec := { name := "scaleGrows", fn := fun _ => fun
  | [d1, d2] => { results := [.lit (.bool true)], args := [d1, d2] }
  | _ => none }
def scaleGrowsRow : OpenClaim := { program := "ytdaekfjogcnebaa", sum := "5c5dd1b17e6a73827411f0f34172eff2ec7326fd1011ec20c6f68e470bfd4d05", func := "recycling/recyclinglaw26.ScaleGrows", spec := "scaleGrows", unfollowed := true, recurses := true, apart := false }
def ScaleGrowsSaid : Prop := scaleGrowsRow.holds Try.pinned (OpenSpec.ofChange scaleGrowsSpec)

/-- ITS FALSE NEIGHBOUR: 'it returns false'. Refute it at one input. -/
def scaleGrowsWrong : ChangeSpec := { name := "scaleGrows", fn := fun _ => fun
  | [d1, d2] => { results := [.lit (.bool false)], args := [d1, d2] }
  | _ => none }
def ScaleGrowsWrongFalsely : Prop := scaleGrowsRow.holds Try.pinned (OpenSpec.ofChange scaleGrowsWrong)

/- THE SECOND FORM. 'bulk': how many values and letters a reading holds, each counted each time it is reached (what is shared counts as often as it is met; a slice's spare places count too). A statement '..UptoSaid' is the law's where the arguments, and the package variables that the reading takes, are together of bulk at most 1048576: NARROWER than '..Said'. Prove '..Said' where nothing that the law and all that it calls make is longer than what came in: it says more and counts as full. Else prove '..UptoSaid'. A law counts once. -/
mutual
def uptoBulk {H : Type} : DataW H → Nat
  | .lit (.string bytes) => bytes.length + 1
  | .lit _ => 1
  | .nil => 1
  | .ptr d => uptoBulk d + 1
  | .slice elems spare => uptoBulkAll elems + uptoBulkAll spare + 1
  | .agg parts => uptoBulkAll parts + 1
  | .iface _ d => uptoBulk d + 1
  | .map entries => uptoBulkEntries entries + 1
  | .held _ => 1
def uptoBulkAll {H : Type} : List (DataW H) → Nat
  | [] => 0
  | d :: r => uptoBulk d + uptoBulkAll r
def uptoBulkEntries {H : Type} : List (Lit × DataW H) → Nat
  | [] => 0
  | x :: r => uptoBulkEntry x + uptoBulkEntries r
def uptoBulkEntry {H : Type} : Lit × DataW H → Nat
  | (.string bytes, d) => bytes.length + uptoBulk d + 1
  | (_, d) => uptoBulk d + 1
 end
def uptoSmall : (H : Type) → List (DataW H) → Bool := fun _ ds => decide (uptoBulkAll ds ≤ 1048576)
def OpenSpec.upto (s : _root_.Go.ChangeSpec) : _root_.Go.OpenSpec := { _root_.Go.OpenSpec.ofChange s with cond := some uptoSmall }

/-- 'recyclinglaw26.ScaleChecks', WHERE WHAT IT READS IS OF BULK AT MOST 1048576: true; the input reads as it did. -/
def scaleChecksUptoRow : OpenClaim := { program := "ytdaekfjogcnebaa", sum := "5c5dd1b17e6a73827411f0f34172eff2ec7326fd1011ec20c6f68e470bfd4d05", func := "recycling/recyclinglaw26.ScaleChecks", spec := "scaleChecks", unfollowed := true, recurses := true, apart := false, narrowed := true }
def ScaleChecksUptoSaid : Prop := scaleChecksUptoRow.holds Try.pinned (OpenSpec.upto scaleChecksSpec)

/-- 'recyclinglaw26.ScaleErrors', WHERE WHAT IT READS IS OF BULK AT MOST 1048576: true; the input reads as it did. -/
def scaleErrorsUptoRow : OpenClaim := { program := "ytdaekfjogcnebaa", sum := "5c5dd1b17e6a73827411f0f34172eff2ec7326fd1011ec20c6f68e470bfd4d05", func := "recycling/recyclinglaw26.ScaleErrors", spec := "scaleErrors", unfollowed := true, recurses := true, apart := false, narrowed := true }
def ScaleErrorsUptoSaid : Prop := scaleErrorsUptoRow.holds Try.pinned (OpenSpec.upto scaleErrorsSpec)

/-- 'recyclinglaw26.ScaleCoulds', WHERE WHAT IT READS IS OF BULK AT MOST 1048576: true; the input reads as it did. -/
def scaleCouldsUptoRow : OpenClaim := { program := "ytdaekfjogcnebaa", sum := "5c5dd1b17e6a73827411f0f34172eff2ec7326fd1011ec20c6f68e470bfd4d05", func := "recycling/recyclinglaw26.ScaleCoulds", spec := "scaleCoulds", unfollowed := true, recurses := true, apart := false, narrowed := true }
def ScaleCouldsUptoSaid : Prop := scaleCouldsUptoRow.holds Try.pinned (OpenSpec.upto scaleCouldsSpec)

/-- 'recyclinglaw26.ScaleTrues', WHERE WHAT IT READS IS OF BULK AT MOST 1048576: true; the input reads as it did. -/
def scaleTruesUptoRow : OpenClaim := { program := "ytdaekfjogcnebaa", sum := "5c5dd1b17e6a73827411f0f34172eff2ec7326fd1011ec20c6f68e470bfd4d05", func := "recycling/recyclinglaw26.ScaleTrues", spec := "scaleTrues", unfollowed := true, recurses := true, apart := false, narrowed := true }
def ScaleTruesUptoSaid : Prop := scaleTruesUptoRow.holds Try.pinned (OpenSpec.upto scaleTruesSpec)

/-- 'recyclinglaw26.ScaleShows', WHERE WHAT IT READS IS OF BULK AT MOST 1048576: true; the input reads as it did. -/
def scaleShowsUptoRow : OpenClaim := { program := "ytdaekfjogcnebaa", sum := "5c5dd1b17e6a73827411f0f34172eff2ec7326fd1011ec20c6f68e470bfd4d05", func := "recycling/recyclinglaw26.ScaleShows", spec := "scaleShows", unfollowed := true, recurses := true, apart := false, narrowed := true }
def ScaleShowsUptoSaid : Prop := scaleShowsUptoRow.holds Try.pinned (OpenSpec.upto scaleShowsSpec)

/-- 'recyclinglaw26.ScaleSound', WHERE WHAT IT READS IS OF BULK AT MOST 1048576: true; the input reads as it did. -/
def scaleSoundUptoRow : OpenClaim := { program := "ytdaekfjogcnebaa", sum := "5c5dd1b17e6a73827411f0f34172eff2ec7326fd1011ec20c6f68e470bfd4d05", func := "recycling/recyclinglaw26.ScaleSound", spec := "scaleSound", unfollowed := true, recurses := true, apart := false, narrowed := true }
def ScaleSoundUptoSaid : Prop := scaleSoundUptoRow.holds Try.pinned (OpenSpec.upto scaleSoundSpec)

/-- 'recyclinglaw26.ScaleBetween', WHERE WHAT IT READS IS OF BULK AT MOST 1048576: true; the input reads as it did. -/
def scaleBetweenUptoRow : OpenClaim := { program := "ytdaekfjogcnebaa", sum := "5c5dd1b17e6a73827411f0f34172eff2ec7326fd1011ec20c6f68e470bfd4d05", func := "recycling/recyclinglaw26.ScaleBetween", spec := "scaleBetween", unfollowed := true, recurses := true, apart := false, narrowed := true }
def ScaleBetweenUptoSaid : Prop := scaleBetweenUptoRow.holds Try.pinned (OpenSpec.upto scaleBetweenSpec)

/-- 'recyclinglaw26.ScaleGrows', WHERE WHAT IT READS IS OF BULK AT MOST 1048576: true; the input reads as it did. -/
def scaleGrowsUptoRow : OpenClaim := { program := "ytdaekfjogcnebaa", sum := "5c5dd1b17e6a73827411f0f34172eff2ec7326fd1011ec20c6f68e470bfd4d05", func := "recycling/recyclinglaw26.ScaleGrows", spec := "scaleGrows", unfollowed := true, recurses := true, apart := false, narrowed := true }
def ScaleGrowsUptoSaid : Prop := scaleGrowsUptoRow.holds Try.pinned (OpenSpec.upto scaleGrowsSpec)

end Rows
end Go.Proofs.Ytdaekfjogcnebaa
