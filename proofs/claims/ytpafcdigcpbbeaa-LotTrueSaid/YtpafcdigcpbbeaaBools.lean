/- Rows of bools that a call makes. -/
import Derived.Test.YtpafcdigcpbbeaaInts
namespace Go.Proofs.Ytpafcdigcpbbeaa
set_option linter.unusedVariables false
set_option linter.unusedSimpArgs false
open Go.RowKit

/-- The cells of a row of bools. -/
def bools (l : List Bool) : Array Value := (l.map Value.bool).toArray
theorem bools_get {l : List Bool} {i : Nat} {x : Bool} (h : l[i]? = some x) : (bools l)[i]? = some (.bool x) := by simp [bools, h]
theorem bools_set (l : List Bool) (i : Nat) (x : Bool) : (bools l).setIfInBounds i (.bool x) = bools (l.set i x) := by simp [bools, List.map_set]
theorem bools_made (n : Nat) : madeCells #[.bool false] n = bools (List.replicate n false) := by
  refine Array.ext (by simp [bools, madeCells]) fun i h1 h2 => ?_
  have hi : i < n := by simpa [madeCells] using h1
  simp [bools, madeCells, Nat.mod_one]
theorem Blk.setb {w : World} {g : Nat} {t : TypeId} {l : List Bool} (h : Blk w g t (bools l)) (i : Nat) (x : Bool) : Blk (w.setCell ⟨g, i, none⟩ (.bool x)) g t (bools (l.set i x)) := by
  have := h.put i (.bool x)
  rwa [bools_set] at this
theorem Blk.getb {w : World} {g : Nat} {t : TypeId} {l : List Bool} (h : Blk w g t (bools l)) {i : Nat} {x : Bool} (hi : l[i]? = some x) : w.cell? ⟨g, i, none⟩ = some (.bool x) := (h.cell i).trans (bools_get hi)
/-- A set as a row of n bools. -/
def rowB (n : Nat) (T : Nat → Bool) : List Bool := (List.range n).map T
theorem rowB_get {n i : Nat} (T : Nat → Bool) (h : i < n) : (rowB n T)[i]? = some (T i) := by simp [rowB, h]
theorem rowB_set {n i : Nat} (T : Nat → Bool) (b : Bool) : (rowB n T).set i b = rowB n (fun j => if j = i then b else T j) := by
  refine List.ext_getElem (by simp [rowB]) fun j h1 h2 => ?_
  simp only [List.getElem_set, rowB, List.getElem_map, List.getElem_range]
  by_cases e : i = j
  · rw [if_pos e, if_pos e.symm]
  · rw [if_neg e, if_neg fun h => e h.symm]
theorem rowB_zero (n : Nat) : List.replicate n false = rowB n (fun _ => false) := by
  refine List.ext_getElem (by simp [rowB]) fun j h1 h2 => by simp [rowB]
theorem rowB_congr {n : Nat} {T U : Nat → Bool} (h : ∀ i, i < n → T i = U i) : rowB n T = rowB n U := by
  refine List.ext_getElem (by simp [rowB]) fun j h1 h2 => ?_
  have : j < n := by simpa [rowB] using h1
  simp [rowB, h j this]

end Go.Proofs.Ytpafcdigcpbbeaa
