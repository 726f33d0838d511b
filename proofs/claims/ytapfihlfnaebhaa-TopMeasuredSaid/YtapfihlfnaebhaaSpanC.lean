/- Contracts: Add, Sub, Sum, Meet, Hull, Has, Widen of the program. -/
import Derived.Test.YtapfihlfnaebhaaSpanB
namespace Go.Proofs.Ytapfihlfnaebhaa
set_option linter.unusedVariables false
set_option linter.unusedSimpArgs false
open Go.RowKit

def addE (a b : Sp) : Int := if allV [a, b] = true then resE (endsV plus plus a [b]) else 1
def addS (a b : Sp) : Sp := if allV [a, b] = true then resS (endsV plus plus a [b]) else sp0

theorem RowIn.of_blk2 {w : World} {g : Nat} {e : TypeId} {cs : Array Value} {l : List Sp} (h : Blk w g e cs) (hc : cs.toList = l.flatMap encP) (hm : l.length ≤ maxLen) :
    RowIn w (.slice (some ⟨g, 0, none⟩) l.length l.length) 2 encP l := by
  have hl : (l.flatMap encP).length = l.length * 2 := rowOf_length encP_len l
  have hs : cs.size = l.length * 2 := by rw [← hl, ← hc]; simp
  refine RowIn.of_own (base := 0) (e := e) encP_len ⟨hl, .inr ⟨g, l.length, cs, rfl, Nat.zero_le _, h, Nat.le_refl _, hm, hs, ?_⟩⟩
  rw [hc, List.take_of_length_le (by omega)]

end Go.Proofs.Ytapfihlfnaebhaa
