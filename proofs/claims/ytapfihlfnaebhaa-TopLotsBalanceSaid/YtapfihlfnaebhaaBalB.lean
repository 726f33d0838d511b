/- Contracts: equal lists of intervals; rows of intervals that are written; stocks of the program. -/
import Derived.Test.YtapfihlfnaebhaaBalA
import Derived.Test.YtapfihlfnaebhaaAppend
import Derived.BigQuiet
import Derived.StillTail
namespace Go.Proofs.Ytapfihlfnaebhaa
set_option linter.unusedVariables false
set_option linter.unusedSimpArgs false
open Go.RowKit

/-! ### Rows of intervals that are written -/
/-- The cells hold the list. -/
def P2 (cur : Array Value) (L : List Sp) : Prop := ∀ i s, L[i]? = some s → cur[i * 2]? = some (.int .i64 s.lo) ∧ cur[i * 2 + 1]? = some (.int .i64 s.hi)
theorem P2.of_row {cur : Array Value} {L : List Sp} (h : ∀ j, j < L.length * 2 → cur[j]? = (rowOf encP L)[j]?) : P2 cur L := by
  intro i s hi
  have hk : i < L.length := (List.getElem?_eq_some_iff.1 hi).1
  have h0 := rowOf_get encP_len L i 0 s hi (by omega)
  have h1 := rowOf_get encP_len L i 1 s hi (by omega)
  rw [← h _ (by omega)] at h0 h1
  exact ⟨h0, h1⟩
theorem P2.setLo {cur : Array Value} {L : List Sp} (h : P2 cur L) {i : Nat} {s : Sp} (hi : L[i]? = some s) (v : Int) : P2 (cur.setIfInBounds (i * 2) (.int .i64 v)) (L.set i ⟨v, s.hi⟩) := by
  intro j t hj
  have h0 := h i s hi
  have hsz : i * 2 < cur.size := (Array.getElem?_eq_some_iff.1 h0.1).1
  by_cases he : i = j
  · subst he
    have hk : i < L.length := (List.getElem?_eq_some_iff.1 hi).1
    rw [List.getElem?_set_self hk] at hj
    injection hj with hj
    subst hj
    constructor
    · rw [Array.getElem?_setIfInBounds, if_pos rfl, if_pos hsz]
    · rw [Array.getElem?_setIfInBounds, if_neg (by omega)]; exact h0.2
  · rw [List.getElem?_set_ne he] at hj
    have := h j t hj
    constructor
    · rw [Array.getElem?_setIfInBounds, if_neg (by omega)]; exact this.1
    · rw [Array.getElem?_setIfInBounds, if_neg (by omega)]; exact this.2
theorem P2.setHi {cur : Array Value} {L : List Sp} (h : P2 cur L) {i : Nat} {s : Sp} (hi : L[i]? = some s) (v : Int) : P2 (cur.setIfInBounds (i * 2 + 1) (.int .i64 v)) (L.set i ⟨s.lo, v⟩) := by
  intro j t hj
  have h0 := h i s hi
  have hsz : i * 2 + 1 < cur.size := (Array.getElem?_eq_some_iff.1 h0.2).1
  by_cases he : i = j
  · subst he
    have hk : i < L.length := (List.getElem?_eq_some_iff.1 hi).1
    rw [List.getElem?_set_self hk] at hj
    injection hj with hj
    subst hj
    constructor
    · rw [Array.getElem?_setIfInBounds, if_neg (by omega)]; exact h0.1
    · rw [Array.getElem?_setIfInBounds, if_pos rfl, if_pos hsz]
  · rw [List.getElem?_set_ne he] at hj
    have := h j t hj
    constructor
    · rw [Array.getElem?_setIfInBounds, if_neg (by omega)]; exact this.1
    · rw [Array.getElem?_setIfInBounds, if_neg (by omega)]; exact this.2
theorem row_of_P2 {w : World} {g n cap : Nat} {t : TypeId} {cur : Array Value} {L : List Sp} (hB : Blk w g t cur) (hP : P2 cur L) (hn : n = L.length) (h1 : L.length ≤ cap) (h2 : cap ≤ maxLen) : RowIn w (.slice (some ⟨g, 0, none⟩) n cap) 2 encP L := by
  subst hn
  refine ⟨some ⟨g, 0, none⟩, cap, rfl, h1, h2, by simp, fun _ => ⟨g, 0, rfl, hB.lt, fun k x hx j hj => ?_⟩⟩
  obtain ⟨q1, q2⟩ := hP k x hx
  rw [hB.cell]
  match j, hj with
  | 0, _ => rw [Nat.zero_add, Nat.add_zero, q1]; rfl
  | 1, _ => rw [Nat.zero_add, q2]; rfl
def spOut (w : World) (l : List Sp) (z : Int) (e : Ending) (w' : World) : Prop := ∃ v, e = .returned (.tuple #[v, .int .i64 z]) ∧ RowIn w' v 2 encP l ∧ Below w.heap.size w w'
theorem own0 {W : World} {base k : Nat} (hk : Blk W k 32 #[]) (hw : base ≤ k) : W.ownsRow base 32 2 (.slice (some ⟨k, 0, none⟩) 0 0) 0 [] :=
  ⟨by simp, .inr ⟨k, 0, #[], rfl, hw, hk, Nat.le_refl _, by simp, by simp, by simp⟩⟩
theorem oneP (m : List Sp) : ∀ u ∈ rowOf encP m, u.oneCell' = true := by
  intro u hu
  unfold rowOf at hu
  obtain ⟨e, _, he⟩ := List.mem_flatMap.1 hu
  simp only [encP, List.mem_cons, List.not_mem_nil, or_false] at he
  rcases he with rfl | rfl <;> rfl
theorem RowIn.src {α : Type} {w : World} {v : Value} {C : Nat} {f : α → List Value} {l : List α} (hf : ∀ a, (f a).length = C) (h : RowIn w v C f l) : Src w v l.length (rowOf f l) := by
  obtain ⟨oa, cap, rfl, h1, h2, h3, h4⟩ := h.at_
  cases l with
  | nil =>
    cases oa with
    | none => exact .inl ⟨by rw [h3 rfl]; rfl, rfl, rfl⟩
    | some ad => exact .inr ⟨ad, cap, rfl, fun j u hu => by simp [rowOf] at hu⟩
  | cons x l =>
    obtain ⟨b, o, rfl, hb, hc⟩ := h4 (by simp)
    refine .inr ⟨_, cap, rfl, fun j u hu => ?_⟩
    have hC : 0 < C := by
      rcases Nat.eq_zero_or_pos C with h0 | h0
      · have : (rowOf f (x :: l)).length = 0 := by rw [rowOf_length hf, h0]; simp
        rw [List.eq_nil_of_length_eq_zero this] at hu; simp at hu
      · exact h0
    have hj : j < (x :: l).length * C := by
      have := (List.getElem?_eq_some_iff.1 hu).1
      rwa [rowOf_length hf] at this
    have hk : j / C < (x :: l).length := Nat.div_lt_of_lt_mul (by rw [Nat.mul_comm]; exact hj)
    have hm := Nat.mod_lt j hC
    have hdm := Nat.div_add_mod j C
    have he : (x :: l)[j / C]? = some ((x :: l)[j / C]'hk) := List.getElem?_eq_getElem hk
    have h5 := hc _ _ he (j % C) hm
    have h6 := rowOf_get hf _ _ (j % C) _ he hm
    rw [Nat.mul_comm, hdm] at h6
    rw [← h6, hu] at h5
    rw [Go.WideShapes.add_plain, ← h5]
    congr 2
    rw [Nat.add_assoc, Nat.mul_comm, hdm]

end Go.Proofs.Ytapfihlfnaebhaa
