/- What type a block has, and frames by types through chains of stores. -/
import Derived.Test.YtapfihlfnaebhaaFrame
namespace Go.Proofs.Ytapfihlfnaebhaa
set_option linter.unusedVariables false
set_option linter.unusedSimpArgs false
open Go.RowKit

/-- Block g is a row of cells of type t. -/
def Ty (w : World) (g : Nat) (t : TypeId) : Prop := ∃ cs z, w.heap[g]? = some (.cells cs t z)
section
variable {w w' : World} {g : Nat} {t : TypeId}
theorem Blk.ty {cs : Array Value} (h : Blk w g t cs) : Ty w g t := ⟨cs, _, h⟩
theorem Ty.lt (h : Ty w g t) : g < w.heap.size := by
  obtain ⟨cs, z, h⟩ := h
  rcases Nat.lt_or_ge g w.heap.size with h1 | h1
  · exact h1
  · simp [Array.getElem?_eq_none h1] at h
theorem Ty.alloc (h : Ty w g t) (o : Obj) : Ty (w.alloc o) g t := by
  have hl := h.lt
  obtain ⟨cs, z, h⟩ := h
  exact ⟨cs, z, (Below.heap_alloc w o g hl).trans h⟩
theorem Ty.drew (h : Ty w g t) : Ty w.drew g t := h
theorem Ty.set (h : Ty w g t) (p : Addr) (u : Value) : Ty (w.setCell p u) g t := by
  obtain ⟨cs, z, h⟩ := h
  by_cases e : g = p.block
  · subst e
    by_cases hs : p.spot.isSome = true
    · exact ⟨cs, z, by simp [World.setCell, Array.getElem?_modify, h, hs]⟩
    · exact ⟨cs.setIfInBounds p.off u, z, by simp [World.setCell, Array.getElem?_modify, h, hs]⟩
  · exact ⟨cs, z, (Below.heap_setCell w p u g e).trans h⟩
theorem Ty.step (h : Ty w g t) (hb : Below w.heap.size w w') : Ty w' g t := by
  have hl := h.lt
  obtain ⟨cs, z, h⟩ := h
  exact ⟨cs, z, (hb.block g hl).trans h⟩
theorem Ty.frT {base : Nat} {T : TypeId → Bool} (h : Ty w g t) (hf : FrT base T w w') (hg : g < base ∨ T t = false) : Ty w' g t := by
  have hl := h.lt
  obtain ⟨cs, z, h⟩ := h
  refine ⟨cs, z, (hf.block g hl fun hb cs' t' z' hc => ?_).trans h⟩
  rcases hg with hg | hg
  · omega
  · rw [h] at hc; cases hc; exact hg
end
theorem Ty.new (w : World) (t : TypeId) (cs : Array Value) (z : Nat × Nat) : Ty (w.alloc (.cells cs t z)) w.heap.size t := ⟨cs, z, by show (w.heap.push _)[w.heap.size]? = _; simp⟩
/-- Block g is a row of cells of one of the types T. -/
def TyT (w : World) (g : Nat) (T : TypeId → Bool) : Prop := ∃ t, Ty w g t ∧ T t = true
theorem TyT.intro {w : World} {g : Nat} {T : TypeId → Bool} {t : TypeId} (h : Ty w g t) (hT : T t = true) : TyT w g T := ⟨t, h, hT⟩
theorem FrT.setT {base : Nat} {T : TypeId → Bool} {a b : World} {p : Addr} (h : FrT base T a b) (hp : base ≤ p.block) (hy : TyT b p.block T) (u : Value) : FrT base T a (b.setCell p u) := by
  obtain ⟨t, ⟨cs, z, hy⟩, hT⟩ := hy
  exact h.setB hp hy hT u

end Go.Proofs.Ytapfihlfnaebhaa
