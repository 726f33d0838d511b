/- Contract: the base items of a window of days, in the program. -/
import Derived.Test.YtaidcdcikjbjjaaTariffE
namespace Go.Proofs.Ytaidcdcikjbjjaa
set_option linter.unusedVariables false
set_option linter.unusedSimpArgs false
open Go.RowKit

theorem itemsTo_len (l : List Tf) (a b : Int) : ∀ k, (itemsTo l a b k).length ≤ k
  | 0 => Nat.le_refl _
  | k + 1 => by
    have := itemsTo_len l a b k
    simp only [itemsTo, List.length_append, itemAt]
    split <;> simp <;> omega
theorem base_keep {l : List Tf} {a b : Int} {k : Nat} (h : ¬ dOf l a b k > 0) : itemsTo l a b (k + 1) = itemsTo l a b k := by
  simp only [itemsTo, itemAt, if_neg h, List.append_nil]
theorem base_add {l : List Tf} {a b : Int} {k : Nat} (h : dOf l a b k > 0) : itemsTo l a b (k + 1) = itemsTo l a b k ++ [⟨1, k, dOf l a b k, (l.getD k tf0).base, dOf l a b k * (l.getD k tf0).base⟩] := by
  simp only [itemsTo, itemAt, if_pos h]

def BaseRel (w : World) (p : Nat) (a b : Int) (l : List Tf) (v i : Value) (wr : World) : Prop :=
  ∃ k : Nat, k ≤ l.length ∧ i = .int .i64 k ∧ Below w.heap.size w wr ∧ Blk wr w.heap.size 44 #[.int .i64 a, .int .i64 b] ∧ Blk wr p 3 #[.int .i64 1] ∧ wr.ownsRow (p + 1) 49 5 v (itemsTo l a b k).length (rowOf encI (itemsTo l a b k))
theorem bE_ne {l : List Tf} {a b : Int} (h : bE l a b ≠ 0) : bL l a b = [] := by unfold bL; rw [if_neg h]

set_option maxHeartbeats 1000000 in
theorem base_no {w : World} {v : Value} {l : List Tf} (hl : RowIn w v 5 encT l) (a b : Int) (hne : bE l a b ≠ 0) : Calls Try.prog 20 #[v, .agg #[.int .i64 a, .int .i64 b]] w (itOut w (bL l a b) (bE l a b)) := by
  have hE : bE l a b = if tchk l ≠ 0 then tchk l else if a < 0 ∨ a > b ∨ b > 36525 then 1 else if a < b ∧ a < (l.getD 0 tf0).frm then 7 else 0 := rfl
  have B0 := Blk.new w 44 #[.int .i64 a, .int .i64 b]
  have hl2 := hl.step (w' := w.alloc (.cells #[.int .i64 a, .int .i64 b] 44)) (by repeat (first | (with_reducible exact Below.refl _ _) | (with_reducible assumption) | (with_reducible refine Below.drew ?_) | ((with_reducible refine Below.alloc ?_ ?_ _); rotate_left; (first | (with_reducible exact Nat.zero_le _) | (with_reducible exact Nat.le_refl _) | omega | (dsimp only; omega) | (simp only [World.size_alloc, World.size_setCell, World.size_drew]; omega))) | ((with_reducible refine Below.setCell ?_ ?_ _); rotate_left; (first | (with_reducible exact Nat.zero_le _) | (with_reducible exact Nat.le_refl _) | omega | (dsimp only; omega) | (simp only [World.size_alloc, World.size_setCell, World.size_drew]; omega)))))
  have hb0 : Below w.heap.size w (w.alloc (.cells #[.int .i64 a, .int .i64 b] 44)) := by repeat (first | (with_reducible exact Below.refl _ _) | (with_reducible assumption) | (with_reducible refine Below.drew ?_) | ((with_reducible refine Below.alloc ?_ ?_ _); rotate_left; (first | (with_reducible exact Nat.zero_le _) | (with_reducible exact Nat.le_refl _) | omega | (dsimp only; omega) | (simp only [World.size_alloc, World.size_setCell, World.size_drew]; omega))) | ((with_reducible refine Below.setCell ?_ ?_ _); rotate_left; (first | (with_reducible exact Nat.zero_le _) | (with_reducible exact Nat.le_refl _) | omega | (dsimp only; omega) | (simp only [World.size_alloc, World.size_setCell, World.size_drew]; omega))))
  rw [bE_ne hne]
  by_cases ht : tchk l ≠ 0
  · rw [if_pos ht] at hE
    rw [hE]
    have hck := fun w h => check_any (w := w) (v := v) (l := l) h
    have ht' : (tchk l != 0) = true := by simpa using ht
    clear hE hne ht
    generalize tchk l = E at *
    go_enter Try.func20, Try.ntmps20
    go_wp2_with fail
    refine (hck _ hl2).mono ?_
    rintro e w1 ⟨rfl, hb1⟩
    go_wp2_with fail
    go_ret2
    exact ⟨_, rfl, .nil _ _ _, hb0.trans (hb1.mono hb0.size)⟩
  have ht0 : tchk l = 0 := by omega
  have hT := tchk_ok ht0
  rw [if_neg ht] at hE
  have hck := fun w h => check_any (w := w) (v := v) (l := l) h
  rw [ht0] at hck
  clear ht ht0
  by_cases hd : a < 0 ∨ a > b ∨ b > 36525
  · rw [if_pos hd] at hE
    rw [hE]
    clear hE hne
    have hd' : a < 0 ∨ (¬ a < 0 ∧ a > b) ∨ (¬ a < 0 ∧ ¬ a > b ∧ b > 36525) := by omega
    clear hd
    rcases hd' with h1 | ⟨h1, h2⟩ | ⟨h1, h2, h3⟩
    all_goals (
      go_enter Try.func20, Try.ntmps20
      go_wp2_with fail
      refine (hck _ hl2).mono ?_
      rintro e w1 ⟨rfl, hb1⟩
      replace B0 := B0.step hb1
      have c0 := B0.cell
      have l0 := B0.lt
      go_wp2_with fail
      go_ret2
      exact ⟨_, rfl, .nil _ _ _, hb0.trans (hb1.mono hb0.size)⟩)
  rw [if_neg hd] at hE
  have hd1 : ¬ a < 0 := by omega
  have hd2 : ¬ a > b := by omega
  have hd3 : ¬ b > 36525 := by omega
  have h7 : a < b ∧ a < (l.getD 0 tf0).frm := by
    rcases Decidable.em (a < b ∧ a < (l.getD 0 tf0).frm) with h | h
    · exact h
    · rw [if_neg h] at hE; exact absurd hE hne
  rw [if_pos h7] at hE
  rw [hE]
  clear hE hne hd
  have hl1 := hT.pos
  have hl8 := hT.len
  obtain ⟨x0, hx0⟩ : ∃ x, l[0]? = some x := ⟨_, List.getElem?_eq_getElem hl1⟩
  rw [getD_of hx0] at h7
  obtain ⟨h8, h9⟩ := h7
  obtain ⟨oa, cap, hv, hlc1, hlc2, hnn, hlc⟩ := hl.at_
  unfold maxLen at hlc2
  have HL := Lib.hid hlc
  clear hlc hnn
  obtain ⟨lb, lo, ho, hll, hlc⟩ := HL.out (by rintro rfl; simp at hl1)
  rw [ho] at hv
  rw [hv] at hl hl2 hck ⊢
  have hbc : ∀ W, Below w.heap.size w W → W.cell? ⟨lb, lo, none⟩ = some (.int .i64 x0.frm) := fun W h => by
    rw [h.cell (p := ⟨lb, lo, none⟩) hll]
    have := hlc 0 x0 hx0 0 (by omega)
    rw [Nat.zero_mul, Nat.add_zero] at this
    exact this
  have HBC := Lib.hid hbc
  have i1 : (0 : Int) < l.length := by omega
  clear hv hbc
  go_enter Try.func20, Try.ntmps20
  go_wp2_with fail
  refine (hck _ hl2).mono ?_
  rintro e w1 ⟨rfl, hb1⟩
  have hb2 := hb0.trans (hb1.mono hb0.size)
  have cc := HBC.out w1 hb2
  replace B0 := B0.step hb1
  have c0 := B0.cell
  have l0 := B0.lt
  go_wp2_with fail
  go_quiet (fail)
  go_wp2_with fail
  go_ret2
  exact ⟨_, rfl, .nil _ _ _, hb2.trans ((Below.of_drewN w1 nq).mono hb2.size)⟩

end Go.Proofs.Ytaidcdcikjbjjaa
