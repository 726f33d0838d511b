/- Rows of ints in blocks that are known whole. -/
import Derived.Test.YtapfihlfnaebhaaFrame
namespace Go.Proofs.Ytapfihlfnaebhaa
set_option linter.unusedVariables false
set_option linter.unusedSimpArgs false
open Go.RowKit

/-- The cells of a row of ints. -/
def ints (l : List Int) : Array Value := (l.map (Value.int .i64)).toArray
theorem ints_size (l : List Int) : (ints l).size = l.length := by simp [ints]
theorem ints_get {l : List Int} {i : Nat} {x : Int} (h : l[i]? = some x) : (ints l)[i]? = some (.int .i64 x) := by
  simp [ints, h]
theorem ints_set (l : List Int) (i : Nat) (x : Int) : (ints l).setIfInBounds i (.int .i64 x) = ints (l.set i x) := by
  simp [ints, List.map_set]
theorem ints_made (n : Nat) : madeCells #[.int .i64 0] n = ints (List.replicate n 0) := by
  refine Array.ext (by simp [ints, madeCells]) fun i h1 h2 => ?_
  have hi : i < n := by simpa [madeCells] using h1
  simp [ints, madeCells, Nat.mod_one]
theorem Blk.seti {w : World} {g : Nat} {t : TypeId} {l : List Int} (h : Blk w g t (ints l)) (i : Nat) (x : Int) : Blk (w.setCell ⟨g, i, none⟩ (.int .i64 x)) g t (ints (l.set i x)) := by
  have := h.put i (.int .i64 x)
  rwa [ints_set] at this
theorem Blk.geti {w : World} {g : Nat} {t : TypeId} {l : List Int} (h : Blk w g t (ints l)) {i : Nat} {x : Int} (hi : l[i]? = some x) : w.cell? ⟨g, i, none⟩ = some (.int .i64 x) := (h.cell i).trans (ints_get hi)

end Go.Proofs.Ytapfihlfnaebhaa
