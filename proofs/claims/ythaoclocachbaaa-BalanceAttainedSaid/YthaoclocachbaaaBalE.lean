/- A queue of ints in memory: a slice with an offset in a block of the call's own. -/
import Derived.Test.YthaoclocachbaaaBalB
import Derived.ArgAppend
namespace Go.Proofs.Ythaoclocachbaaa
set_option linter.unusedVariables false
set_option linter.unusedSimpArgs false
open Go.RowKit

/-- The slice v of block g holds the list. -/
def QRow (w : World) (base g : Nat) (v : Value) (l : List Int) : Prop :=
  ∃ (off cap : Nat) (cur : Array Value), v = .slice (some ⟨g, off, none⟩) l.length cap ∧ base ≤ g ∧ Blk w g 3 cur ∧ off + cap ≤ cur.size ∧ l.length ≤ cap ∧ cap ≤ maxLen ∧ ∀ i x, l[i]? = some x → cur[off + i]? = some (.int .i64 x)
theorem QRow.kept {w w' : World} {base g : Nat} {v : Value} {l : List Int} (h : QRow w base g v l) (hk : ∀ cs, Blk w g 3 cs → Blk w' g 3 cs) : QRow w' base g v l := by
  obtain ⟨off, cap, cur, h1, h2, h3, h4⟩ := h
  exact ⟨off, cap, cur, h1, h2, hk _ h3, h4⟩
theorem QRow.blk {w : World} {base g : Nat} {v : Value} {l : List Int} (h : QRow w base g v l) : ∃ cur, Blk w g 3 cur := by
  obtain ⟨off, cap, cur, h1, h2, h3, h4⟩ := h
  exact ⟨cur, h3⟩
theorem QRow.pop {w : World} {base g off cap : Nat} {l : List Int} {x : Int} (h : QRow w base g (.slice (some ⟨g, off, none⟩) (x :: l).length cap) (x :: l)) : QRow w base g (.slice (some ⟨g, if cap = 1 then off else off + 1, none⟩) l.length (cap - 1)) l := by
  obtain ⟨off', cap', cur, h1, h2, h3, h4, h5, h6, h7⟩ := h
  simp only [Value.slice.injEq, Option.some.injEq, Addr.mk.injEq, and_true, true_and] at h1
  obtain ⟨rfl, rfl⟩ := h1
  simp only [List.length_cons] at h5
  refine ⟨_, _, cur, rfl, h2, h3, by split <;> omega, by omega, by omega, fun i y hy => ?_⟩
  have := h7 (i + 1) y (by simpa using hy)
  have hi : i < l.length := (List.getElem?_eq_some_iff.1 hy).1
  rw [if_neg (by omega), ← this]
  congr 1
  omega
section
variable {w : World}
theorem grown_set (w : World) (b o : Nat) (v : Value) : w.grownBy (w.setCell ⟨b, o, none⟩ v) (some b) :=
  ⟨rfl, rfl, rfl, by simp, fun k _ hne => Below.heap_setCell w ⟨b, o, none⟩ v k (fun e => hne (by rw [e]))⟩
theorem wpList_q {ops : Array Oper} {rest : List Oper} {o : Oper} {a : Act} {Q : Exit → Act → World → Prop} (hg : o.guard = none) (s x : Operand)
    (hop : o.op = Op.call { callee := Callee.builtin Builtin.append, args := #[s, x], argTypes := #[29, 29] })
    (base g : Nat) (v : Value) (l : List Int) (hs : a.eval s = v) (hq : QRow w base g v l) (b2 : Nat) (hx : a.eval x = .slice (some ⟨b2, 0, none⟩) 1 1) (y : Int) (hc : w.cell? ⟨b2, 0, none⟩ = some (.int .i64 y)) (hlen : l.length ≤ 1000)
    (hb : base ≤ w.heap.size)
    (hK : ∀ v' w' g', QRow w' base g' v' (l ++ [y]) → w.grownBy w' (some g) → (g' = g ∨ w.heap.size ≤ g') → wpList Try.prog ops Q rest (a.put o.dst v') w') : wpList Try.prog ops Q (o :: rest) a w := by
  obtain ⟨ti, hi, hz, hsi, hby⟩ := info_of (P := Try.prog) (t := 3) (z := .int .i64 0) (size := 1) (bytes := 8) (by kernel_rfl)
  obtain ⟨off, cap, cur, rfl, h2, h3, h4, h5, h6, h7⟩ := hq
  refine wpList_append_arg w hg s x 29 hop 3 ti (.int .i64 0) 1 8 Try.underlying29 hi hz hsi hby rfl (by omega) g off l.length cap (l.map (Value.int .i64)) hs (by simp) (fun j u hj => ?_) ⟨b2, 0, none⟩ 1 1 [.int .i64 y] hx rfl (fun j u hj => ?_) (by simp [Value.oneCell']) (fun hr j hj => ?_) (by simp [maxLen]; omega) (by omega) (fun hr => ?_) (fun _ v' w' hown hgr => ?_)
  · rw [List.getElem?_map, Option.map_eq_some_iff] at hj
    obtain ⟨x, hx, rfl⟩ := hj
    rw [h3.cell]; exact h7 j x hx
  · have hj0 : j = 0 := by have := (List.getElem?_eq_some_iff.1 hj).1; simp at this; omega
    subst hj0
    simp at hj
    subst hj
    exact hc
  · have hj0 : j = 0 := by simp at hj; omega
    subst hj0
    rw [h3.cell, Array.getElem?_eq_getElem (by omega)]
    exact ⟨rfl, h3.free _⟩
  · show wpList Try.prog ops Q rest _ (w.setCell ⟨g, off + l.length * 1, none⟩ (.int .i64 y))
    rw [Nat.mul_one]
    refine hK _ _ g ⟨off, cap, _, by simp, h2, h3.put (off + l.length) (.int .i64 y), by simpa using h4, by simpa using hr, h6, fun i z hz => ?_⟩ (grown_set w g _ _) (.inl rfl)
    by_cases hil : i < l.length
    · rw [List.getElem?_append_left hil] at hz
      rw [Array.getElem?_setIfInBounds, if_neg (by omega)]
      exact h7 i z hz
    · have hi' : i = l.length := by have := (List.getElem?_eq_some_iff.1 hz).1; simp at this; omega
      subst hi'
      simp at hz
      subst hz
      rw [Array.getElem?_setIfInBounds, if_pos rfl, if_pos (by omega)]
  · rcases ownsRow_open hown with ⟨_, q, _⟩ | ⟨g', cap', cur', rfl, hg1, hB, hn1, hm1, hc1, hcur⟩
    · omega
    refine hK _ _ g' ⟨0, cap', cur', by simp, by omega, hB, by omega, by simpa using hn1, hm1, fun i z hz => ?_⟩ ⟨hgr.os, hgr.tape, hgr.output, hgr.size, fun k hk _ => hgr.block k hk (by simp)⟩ (.inr ?_)
    · have hil := (List.getElem?_eq_some_iff.1 hz).1
      simp at hil
      rw [Nat.zero_add, hcur i (by omega)]
      have e : l.map (Value.int .i64) ++ [.int .i64 y] = (l ++ [y]).map (Value.int .i64) := by simp
      rw [e, List.getElem?_map, hz]; rfl
    · exact hg1
end

end Go.Proofs.Ythaoclocachbaaa
