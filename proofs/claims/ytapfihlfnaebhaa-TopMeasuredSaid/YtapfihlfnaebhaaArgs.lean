/- Slices that came in: their elements, structs of ints of any depth, as a list; what holds of their cells. -/
import Derived.Test.YtapfihlfnaebhaaLaw
import Derived.Deep.Slices
namespace Go.Proofs.Ytapfihlfnaebhaa
set_option linter.unusedVariables false
set_option linter.unusedSimpArgs false
open Go.ChangeShapes Go.WideShapes Go.RowKit Go.Deep

/-- The slice v reads as the list l, an element's cells by f, C of them. -/
structure RowIn {α : Type} (w : World) (v : Value) (C : Nat) (f : α → List Value) (l : List α) : Prop where
  at_ : ∃ oa cap, v = .slice oa l.length cap ∧ l.length ≤ cap ∧ cap ≤ maxLen ∧ (oa = none → cap = 0) ∧
    (l ≠ [] → ∃ b o, oa = some ⟨b, o, none⟩ ∧ b < w.heap.size ∧ ∀ k x, l[k]? = some x → ∀ j, j < C → w.cell? ⟨b, o + k * C + j, none⟩ = (f x)[j]?)

theorem RowIn.step {α : Type} {w w' : World} {v : Value} {C : Nat} {f : α → List Value} {l : List α} (h : RowIn w v C f l) (hb : Below w.heap.size w w') : RowIn w' v C f l := by
  obtain ⟨oa, cap, h1, h2, h3, h4, h5⟩ := h.at_
  refine ⟨oa, cap, h1, h2, h3, h4, fun hl => ?_⟩
  obtain ⟨b, o, e, hlt, hc⟩ := h5 hl
  exact ⟨b, o, e, Nat.lt_of_lt_of_le hlt hb.size, fun k x hx j hj => (hb.cell (p := ⟨b, o + k * C + j, none⟩) hlt).trans (hc k x hx j hj)⟩
theorem RowIn.nil {α : Type} (w : World) (C : Nat) (f : α → List Value) : RowIn w (.slice none 0 0) C f ([] : List α) :=
  ⟨none, 0, rfl, Nat.le_refl _, by simp [maxLen], fun _ => rfl, fun h => absurd rfl h⟩

section
variable {H : Type} {enc : TypeId × Value → H} {P : Program} {w : World} {base : Nat} {spare : Nat → Bool} {held : Bool}

/-- Every cell of a value of the type is an int of the kind. -/
def flatB (P : Program) (k : IntKind) : Nat → TypeId → Bool
  | 0, _ => false
  | n + 1, t =>
    match P.underlying t with
    | some (.int k') => decide (k' = k)
    | some (.struct fs) => (List.range (P.cellsOf t)).all fun i => fs.toList.any fun f => decide (f.offset ≤ i) && decide (i < f.offset + P.cellsOf f.type) && flatB P k n f.type
    | some (.array m e) => decide (P.cellsOf t = m * P.cellsOf e) && decide (0 < P.cellsOf e) && flatB P k n e
    | _ => false

theorem wf_has {k : IntKind} {z : Int} (h : (Lit.int k z).wf = true) : k.has z := by
  simp only [Lit.wf, Bool.and_eq_true, decide_eq_true_eq] at h
  exact h

theorem trod_flat {k : IntKind} (n : Nat) : ∀ {t : TypeId} {fuel : Nat} {cs : List Value} {x : DataW H × List MemPlace}, flatB P k n t = true →
    DataW.trod enc P w base spare held fuel t cs = some x → ∀ c ∈ cs, ∃ z, c = .int k z ∧ k.has z := by
  induction n with
  | zero => intro t fuel cs x hf; simp [flatB] at hf
  | succ n ih =>
    intro t fuel cs x hf h c hc
    unfold flatB at hf
    split at hf
    · rename_i k' hu
      obtain rfl : k' = k := of_decide_eq_true hf
      obtain ⟨z, rfl, _, hw⟩ := DataW.trod_int hu h
      obtain rfl : c = .int k' z := by simpa using hc
      exact ⟨z, rfl, wf_has hw⟩
    · rename_i fs hu
      obtain ⟨xs, m, rfl, _, hl, hxl, hfield⟩ := DataW.trod_struct hu h
      obtain ⟨j, hj, rfl⟩ := List.getElem_of_mem hc
      have hj' := List.all_eq_true.1 hf j (List.mem_range.2 (hl ▸ hj))
      obtain ⟨f, hfm, hf'⟩ := List.any_eq_true.1 hj'
      simp only [Bool.and_eq_true, decide_eq_true_eq] at hf'
      obtain ⟨i, hi, he⟩ := List.getElem_of_mem hfm
      have hi' : i < fs.size := by simpa using hi
      have hq := hfield i f (by rw [← he]; simp [hi'])
      rw [List.getElem?_eq_getElem (by omega)] at hq
      refine ih hf'.2 hq _ (List.mem_iff_getElem?.2 ⟨j - f.offset, ?_⟩)
      rw [List.getElem?_take_of_lt (by omega), List.getElem?_drop, show f.offset + (j - f.offset) = j by omega, List.getElem?_eq_getElem hj]
    · rename_i m e hu
      simp only [Bool.and_eq_true, decide_eq_true_eq] at hf
      obtain ⟨⟨hm, hpos⟩, hf⟩ := hf
      obtain ⟨xs, m', rfl, _, hl, hxl, hel⟩ := DataW.trod_array hu h
      obtain ⟨j, hj, rfl⟩ := List.getElem_of_mem hc
      have hjm : j / P.cellsOf e < m := Nat.div_lt_of_lt_mul (by rw [Nat.mul_comm, ← hm, ← hl]; exact hj)
      have hq := hel _ hjm
      rw [List.getElem?_eq_getElem (by omega)] at hq
      have hdm := Nat.div_add_mod j (P.cellsOf e)
      have hlt := Nat.mod_lt j hpos
      refine ih hf hq _ (List.mem_iff_getElem?.2 ⟨j % P.cellsOf e, ?_⟩)
      rw [List.getElem?_take_of_lt hlt, List.getElem?_drop, Nat.mul_comm, hdm, List.getElem?_eq_getElem hj]
    · cases hf

theorem ints_of {k : IntKind} : ∀ {l : List Value}, (∀ x ∈ l, ∃ z, x = .int k z ∧ k.has z) → ∃ zs : List Int, l = zs.map (Value.int k) ∧ ∀ z ∈ zs, k.has z
  | [], _ => ⟨[], rfl, by simp⟩
  | x :: l, h => by
    obtain ⟨z, rfl, hz⟩ := h x (by simp)
    obtain ⟨zs, rfl, hzs⟩ := ints_of (l := l) fun y hy => h y (by simp [hy])
    refine ⟨z :: zs, rfl, fun y hy => ?_⟩
    rcases List.mem_cons.1 hy with rfl | hy
    · exact hz
    · exact hzs y hy

theorem block_lt {w : World} {a : Addr} {v : Value} (h : w.cell? a = some v) : a.block < w.heap.size := by
  rcases Nat.lt_or_ge a.block w.heap.size with h1 | h1
  · exact h1
  · simp [World.cell?, Array.getElem?_eq_none h1] at h

theorem open_rowin {α : Type} {k : IntKind} {r : Reach} {b0 : Nat} {t e : TypeId} {v : Value} {d : DataW H} {p : List MemPlace} {C : Nat} (ht : P.underlying t = some (.slice e)) (hC : P.cellsOf e = C) (hpos : 0 < C) (n : Nat)
    (hflat : flatB P k n e = true) (dec : List Int → α) (f : α → List Value) (hdec : ∀ x : List Int, x.length = C → f (dec x) = x.map (Value.int k)) (hv : Value.okWide P w r b0 t v)
    (h : DataW.Trod enc P w 0 (fun _ => true) true t v d p) : ∃ l : List α, RowIn w v C f l ∧ ∀ a ∈ l, ∃ x : List Int, x.length = C ∧ (∀ z ∈ x, k.has z) ∧ a = dec x := by
  subst hC
  obtain ⟨a0, len, cap, rfl⟩ := okWide_slice ht hv
  obtain ⟨fuel, hf⟩ := h
  rcases open_slice ht hf with ⟨hcs, _⟩ | ⟨a, len', cap', m, n', D, Pl, hcs, _, hl, hm, hmm, _, hi⟩
  · simp [Value.cells] at hcs
    obtain ⟨rfl, rfl, rfl⟩ := hcs
    exact ⟨[], .nil w _ f, by simp⟩
  · simp [Value.cells] at hcs
    obtain ⟨rfl, rfl, rfl⟩ := hcs
    simp only [if_true] at hmm
    obtain ⟨Z, hZ⟩ := choose_lt (α := List Int) (n := len) (p := fun i z => z.length = P.cellsOf e ∧ (∀ u ∈ z, k.has u) ∧ ∀ j, j < P.cellsOf e → w.cell? ((a.add (i * P.cellsOf e)).add j) = (z.map (Value.int k))[j]?) (fun i hil => by
      obtain ⟨cs', h1, h2⟩ := hi i (by omega)
      obtain ⟨_, hlen, hat⟩ := World.cells?_some h1
      obtain ⟨zs, rfl, hzs⟩ := ints_of (trod_flat n hflat h2)
      exact ⟨zs, by simpa using hlen, hzs, hat⟩)
    refine ⟨(List.range len).map fun i => dec (Z i), ⟨some a, cap, by simp, by simpa using hl, hm, by simp, fun hne => ?_⟩, fun x hx => ?_⟩
    · have hlen : 0 < len := by
        rcases Nat.eq_zero_or_pos len with h0 | h0
        · subst h0; simp at hne
        · exact h0
      obtain ⟨b, o, sp⟩ := a
      have h00 := (hZ 0 hlen).2.2 0 hpos
      have hz0 : ((Z 0).map (Value.int k))[0]? = some (.int k ((Z 0)[0]'(by rw [(hZ 0 hlen).1]; exact hpos))) := by
        rw [List.getElem?_map, List.getElem?_eq_getElem (by rw [(hZ 0 hlen).1]; exact hpos)]; rfl
      rw [hz0] at h00
      have hsp : sp = none := by simpa [Addr.add] using World.cell?_spot h00
      subst hsp
      refine ⟨b, o, rfl, by simpa [Addr.add] using block_lt h00, fun k' x hx j hj => ?_⟩
      have hk' : k' < len := by
        have := (List.getElem?_eq_some_iff.1 hx).1
        simpa using this
      have hxe : x = dec (Z k') := by
        rw [List.getElem?_map, List.getElem?_range hk'] at hx
        simpa using hx.symm
      subst hxe
      rw [hdec _ (hZ k' hk').1, ← (hZ k' hk').2.2 j hj, add_plain, add_plain]
    · obtain ⟨i, hil, rfl⟩ := List.mem_map.1 hx
      have := hZ i (List.mem_range.1 hil)
      exact ⟨Z i, this.1, this.2.1, rfl⟩
end

/-- A row of the call's own, handed on. -/
theorem RowIn.of_own {α : Type} {w : World} {base : Nat} {e : TypeId} {C : Nat} {v : Value} {f : α → List Value} {l : List α} (hf : ∀ a, (f a).length = C) (h : w.ownsRow base e C v l.length (l.flatMap f)) : RowIn w v C f l := by
  rcases h.2 with ⟨h1, h2⟩ | ⟨g, cap, cur, h1, h2, h3, h4, h5, h6, h7⟩
  · have : l = [] := List.eq_nil_of_length_eq_zero h2
    subst this
    rw [h1]
    exact .nil w C f
  · refine ⟨some ⟨g, 0, none⟩, cap, h1, h4, h5, by simp, fun _ => ⟨g, 0, rfl, ?_, fun k x hx j hj => ?_⟩⟩
    · rcases Nat.lt_or_ge g w.heap.size with h1 | h1
      · exact h1
      · simp [Array.getElem?_eq_none h1] at h3
    · have hflat : ∀ (l : List α) (k : Nat) (x : α), l[k]? = some x → (l.flatMap f)[k * C + j]? = (f x)[j]? := by
        intro l
        induction l with
        | nil => intro k x hx; simp at hx
        | cons y l ih =>
          intro k x hx
          cases k with
          | zero =>
            obtain rfl : y = x := by simpa using hx
            rw [List.flatMap_cons, Nat.zero_mul, Nat.zero_add, List.getElem?_append_left (by rw [hf]; exact hj)]
          | succ k =>
            rw [List.flatMap_cons, List.getElem?_append_right (by rw [hf, Nat.add_mul]; omega), hf, ← ih k x (by simpa using hx)]
            congr 1
            rw [Nat.add_mul]; omega
      have hk : k < l.length := (List.getElem?_eq_some_iff.1 hx).1
      have h1 : (k + 1) * C ≤ l.length * C := Nat.mul_le_mul_right _ hk
      rw [Nat.add_mul] at h1
      rw [← hflat l k x hx]
      have hcell : w.cell? ⟨g, k * C + j, none⟩ = cur[k * C + j]? := by simp [World.cell?, h3]
      rw [Nat.zero_add, hcell, ← h7, List.getElem?_take_of_lt (by omega)]
      simp

end Go.Proofs.Ytapfihlfnaebhaa
