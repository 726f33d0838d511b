/- A frame by types: below a number every block stays, and above it every block whose type is not one of some types. Rows of a call's own, element by element. -/
import Derived.Test.YtapfihlfnaebhaaKit
import Derived.Deep.AppendLies
import Derived.Laws.OwnMore
import Derived.Laws.AppendOwnNone
namespace Go.Proofs.Ytapfihlfnaebhaa
set_option linter.unusedVariables false
set_option linter.unusedSimpArgs false
open Go.RowKit

theorem wrapI (n : Int) (h : -9223372036854775808 ≤ n ∧ n ≤ 9223372036854775807) : IntKind.i64.wrap n = n := by
  simp [IntKind.wrap, IntKind.bits, IntKind.signed]; omega

theorem info_of {P : Program} {t : TypeId} {z : Value} {size bytes : Nat} (h : (P.info? t).map (fun i => (i.zero, i.size, i.bytes)) = some (some z, size, bytes)) : ∃ i, P.info? t = some i ∧ i.zero = some z ∧ i.size = size ∧ i.bytes = bytes := by
  obtain ⟨i, hi, h⟩ := Option.map_eq_some_iff.1 h
  simp only [Prod.mk.injEq] at h
  exact ⟨i, hi, h.1, h.2.1, h.2.2⟩

structure FrT (base : Nat) (T : TypeId → Bool) (w w' : World) : Prop where
  os : w'.os = w.os
  tape : w'.tape = w.tape
  output : w'.output = w.output
  size : w.heap.size ≤ w'.heap.size
  block : ∀ k, k < w.heap.size → (base ≤ k → ∀ cs t z, w.heap[k]? = some (.cells cs t z) → T t = false) → w'.heap[k]? = w.heap[k]?

section
variable {base : Nat} {T : TypeId → Bool} {a b c : World}
theorem FrT.refl (base : Nat) (T : TypeId → Bool) (w : World) : FrT base T w w := ⟨rfl, rfl, rfl, Nat.le_refl _, fun _ _ _ => rfl⟩
theorem FrT.trans (h : FrT base T a b) (k : FrT base T b c) : FrT base T a c := by
  refine ⟨k.os.trans h.os, k.tape.trans h.tape, k.output.trans h.output, Nat.le_trans h.size k.size, fun i hi hT => ?_⟩
  have e := h.block i hi hT
  refine (k.block i (Nat.lt_of_lt_of_le hi h.size) fun hb cs t z hc => hT hb cs t z (e ▸ hc)).trans e

theorem FrT.of_below (h : Below a.heap.size a b) : FrT base T a b := ⟨h.os, h.tape, h.output, h.size, fun k hk _ => h.block k hk⟩
theorem FrT.below (h : FrT base T a b) (hb : base ≤ a.heap.size) : Below base a b := ⟨h.os, h.tape, h.output, h.size, fun k hk => h.block k (by omega) fun h' => by omega⟩
theorem FrT.lower {base' : Nat} (h : FrT base T a b) (hb : base' ≤ base) : FrT base' T a b := ⟨h.os, h.tape, h.output, h.size, fun k hk hT => h.block k hk fun h' => hT (by omega)⟩
theorem FrT.drew (h : FrT base T a b) : FrT base T a b.drew := ⟨h.os, h.tape, h.output, h.size, h.block⟩
theorem FrT.alloc (h : FrT base T a b) (o : Obj) : FrT base T a (b.alloc o) := h.trans (.of_below ((Below.refl _ _).alloc (Nat.le_refl _) o))
/-- A store into a block that is new. -/
theorem FrT.setNew (h : FrT base T a b) {p : Addr} (hp : a.heap.size ≤ p.block) (u : Value) : FrT base T a (b.setCell p u) :=
  ⟨h.os, h.tape, h.output, Nat.le_trans h.size (by simp), fun k hk hT => (Below.heap_setCell b p u k (by omega)).trans (h.block k hk hT)⟩
/-- A store into a block of one of the types. -/
theorem FrT.setOld (h : FrT base T a b) {p : Addr} (hp : base ≤ p.block) {cs : Array Value} {t : TypeId} {z : Nat × Nat} (hc : a.heap[p.block]? = some (.cells cs t z)) (hT : T t = true) (u : Value) : FrT base T a (b.setCell p u) :=
  ⟨h.os, h.tape, h.output, Nat.le_trans h.size (by simp), fun k hk hK => by
    refine (Below.heap_setCell b p u k ?_).trans (h.block k hk hK)
    rintro rfl
    have := hK hp cs t z hc
    rw [hT] at this; cases this⟩
theorem FrT.setB (h : FrT base T a b) {p : Addr} (hp : base ≤ p.block) {cs : Array Value} {t : TypeId} {z : Nat × Nat} (hc : b.heap[p.block]? = some (.cells cs t z)) (hT : T t = true) (u : Value) : FrT base T a (b.setCell p u) :=
  h.trans ((FrT.refl _ _ _).setOld hp hc hT u)
theorem FrT.grown (h : FrT base T a b) {row : Option Nat} (hg : b.grownBy c row) (hr : ∀ k, row = some k → base ≤ k ∧ ∃ cs t z, b.heap[k]? = some (.cells cs t z) ∧ T t = true) : FrT base T a c := by
  refine h.trans ⟨hg.os, hg.tape, hg.output, hg.size, fun k hk hK => hg.block k hk fun e => ?_⟩
  obtain ⟨h1, cs, t, z, hc, hT⟩ := hr k e.symm
  have := hK h1 cs t z hc
  rw [hT] at this; cases this
theorem Blk.frT {w w' : World} {g : Nat} {t : TypeId} {cs : Array Value} (h : Blk w g t cs) (hf : FrT base T w w') (hg : g < base ∨ T t = false) : Blk w' g t cs := by
  refine (hf.block g h.lt fun hb cs' t' z' hc => ?_).trans h
  rcases hg with hg | hg
  · omega
  · unfold Blk at h
    rw [h] at hc
    cases hc
    exact hg
end

theorem Blk.grown {w w' : World} {g : Nat} {t : TypeId} {cs : Array Value} (h : Blk w g t cs) {row : Option Nat} (hg : w.grownBy w' row) (hne : some g ≠ row) : Blk w' g t cs := (hg.block g h.lt hne).trans h

section
variable {w w' : World} {base : Nat} {e : TypeId} {size : Nat} {v : Value} {n : Nat} {xs : List Value}
theorem ownsRow_frT {B : Nat} {T : TypeId → Bool} (h : w.ownsRow base e size v n xs) (hf : FrT B T w w') (hT : T e = false) : w'.ownsRow base e size v n xs := by
  refine ⟨h.1, ?_⟩
  rcases h.2 with h2 | ⟨g, cap, cur, h1, h2, h3, h4⟩
  · exact .inl h2
  · refine .inr ⟨g, cap, cur, h1, h2, ?_, h4⟩
    exact Blk.frT (T := T) (base := B) h3 hf (.inr hT)
theorem ownsRow_step (h : w.ownsRow base e size v n xs) (hb : Below w.heap.size w w') : w'.ownsRow base e size v n xs :=
  ownsRow_frT (T := fun _ => false) (B := 0) h (.of_below hb) rfl
theorem ownsRow_low (h : w.ownsRow base e size v n xs) {base' : Nat} (hb : base' ≤ base) : w.ownsRow base' e size v n xs := by
  refine ⟨h.1, ?_⟩
  rcases h.2 with h2 | ⟨g, cap, cur, h1, h2, h3⟩
  · exact .inl h2
  · exact .inr ⟨g, cap, cur, h1, by omega, h3⟩
/-- What a row of a call's own looks like: nothing, or a block of its own, cell by cell. -/
theorem ownsRow_open (h : w.ownsRow base e size v n xs) : (v = .slice none 0 0 ∧ n = 0 ∧ xs = []) ∨
    ∃ g cap cur, v = .slice (some ⟨g, 0, none⟩) n cap ∧ base ≤ g ∧ Blk w g e cur ∧ n ≤ cap ∧ cap ≤ maxLen ∧ cur.size = cap * size ∧ ∀ j, j < n * size → cur[j]? = xs[j]? := by
  rcases h.2 with ⟨h1, h2⟩ | ⟨g, cap, cur, h1, h2, h3, h4, h5, h6, h7⟩
  · refine .inl ⟨h1, h2, List.eq_nil_of_length_eq_zero ?_⟩
    rw [h.1, h2]; simp
  · refine .inr ⟨g, cap, cur, h1, h2, h3, h4, h5, h6, fun j hj => ?_⟩
    rw [← h7, List.getElem?_take_of_lt hj]
    simp
end

/-- A row of structs, as cells. -/
def rowOf {α : Type} (f : α → List Value) (l : List α) : List Value := l.flatMap f
theorem rowOf_length {α : Type} {f : α → List Value} {k : Nat} (hf : ∀ a, (f a).length = k) (l : List α) : (rowOf f l).length = l.length * k := by
  unfold rowOf
  induction l with
  | nil => simp
  | cons a l ih => simp only [List.flatMap_cons, List.length_append, hf, ih, List.length_cons, Nat.add_mul, Nat.one_mul]; omega
theorem rowOf_append {α : Type} (f : α → List Value) (l m : List α) : rowOf f (l ++ m) = rowOf f l ++ rowOf f m := by simp [rowOf]
theorem rowOf_get {α : Type} {f : α → List Value} {k : Nat} (hf : ∀ a, (f a).length = k) : ∀ (l : List α) (i j : Nat) (a : α), l[i]? = some a → j < k → (rowOf f l)[i * k + j]? = (f a)[j]?
  | [], i, j, a, h, _ => by simp at h
  | x :: l, 0, j, a, h, hj => by
    obtain rfl : x = a := by simpa using h
    show (f x ++ rowOf f l)[0 * k + j]? = _
    rw [Nat.zero_mul, Nat.zero_add, List.getElem?_append_left (by rw [hf]; exact hj)]
  | x :: l, i + 1, j, a, h, hj => by
    have h' : l[i]? = some a := by simpa using h
    show (f x ++ rowOf f l)[(i + 1) * k + j]? = _
    rw [List.getElem?_append_right (by rw [hf, Nat.add_mul]; omega), hf, ← rowOf_get hf l i j a h' hj]
    congr 1
    rw [Nat.add_mul]; omega
theorem rowOf_set {α : Type} {f : α → List Value} {k : Nat} (hf : ∀ a, (f a).length = k) (j : Nat) (u : Value) (hj : j < k) : ∀ (l : List α) (i : Nat) (a b : α), l[i]? = some a → f b = (f a).set j u → (rowOf f l).set (i * k + j) u = rowOf f (l.set i b)
  | [], i, a, b, h, _ => by simp at h
  | x :: l, 0, a, b, h, hb => by
    obtain rfl : x = a := by simpa using h
    show (f x ++ rowOf f l).set (0 * k + j) u = f b ++ rowOf f l
    rw [Nat.zero_mul, Nat.zero_add, List.set_append_left _ _ (by rw [hf]; exact hj), hb]
  | x :: l, i + 1, a, b, h, hb => by
    have h' : l[i]? = some a := by simpa using h
    show (f x ++ rowOf f l).set ((i + 1) * k + j) u = f x ++ rowOf f (l.set i b)
    rw [← rowOf_set hf j u hj l i a b h' hb, List.set_append_right _ _ (by rw [hf, Nat.add_mul]; omega), hf]
    congr 2
    rw [Nat.add_mul]; omega

theorem rowOf_same {α : Type} (f : α → List Value) : ∀ (l : List α) (k : Nat) (a b : α), l[k]? = some a → f b = f a → rowOf f (l.set k b) = rowOf f l
  | [], _, _, _, h, _ => by simp at h
  | x :: l, 0, a, b, h, hb => by
    obtain rfl : x = a := by simpa using h
    show f b ++ rowOf f l = f x ++ rowOf f l
    rw [hb]
  | x :: l, k + 1, a, b, h, hb => by
    show f x ++ rowOf f (l.set k b) = f x ++ rowOf f l
    rw [rowOf_same f l k a b (by simpa using h) hb]
/-- An element's cells in a block that is known by a row. -/
theorem rowCell {α : Type} {f : α → List Value} {size : Nat} (hf : ∀ a, (f a).length = size) {l : List α} {cur : Array Value} {w : World} {g : Nat} {e : TypeId} (hG : Blk w g e cur)
    (hcur : ∀ j, j < l.length * size → cur[j]? = (rowOf f l)[j]?) {k : Nat} {x : α} (hx : l[k]? = some x) : ∀ j, j < size → w.cell? ⟨g, k * size + j, none⟩ = (f x)[j]? := by
  intro j hj
  have hk : k < l.length := (List.getElem?_eq_some_iff.1 hx).1
  have h1 : (k + 1) * size ≤ l.length * size := Nat.mul_le_mul_right _ hk
  rw [Nat.add_mul] at h1
  rw [hG.cell, hcur _ (by omega), rowOf_get hf l k j x hx hj]
end Go.Proofs.Ytapfihlfnaebhaa
