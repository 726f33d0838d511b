/- Contracts: Has of both. -/
import Derived.Test.YtpclhjkamplmbaaSpanA
namespace Go.Proofs.Ytpclhjkamplmbaa
set_option linter.unusedVariables false
set_option linter.unusedSimpArgs false
open Go.RowKit

theorem has_any (s : Sp) (x : Int) (w : World) : Calls Try.prog 15 #[.agg #[.int .i64 (s).lo, .int .i64 (s).hi], .int .i64 x] w fun e w' => e = .returned (.bool (hasV s x)) ∧ Below w.heap.size w w' := by
  have hv := fun w => valid1_any s w
  have hH : hasV s x = (sval s && decide (s.lo ≤ x ∧ x ≤ s.hi)) := rfl
  have B0 := Blk.new w 23 #[.int .i64 s.lo, .int .i64 s.hi]
  have hb : Below w.heap.size w (w.alloc (.cells #[.int .i64 s.lo, .int .i64 s.hi] 23)) := by repeat (first | (with_reducible exact Below.refl _ _) | (with_reducible assumption) | (with_reducible refine Below.drew ?_) | ((with_reducible refine Below.alloc ?_ ?_ _); rotate_left; (first | (with_reducible exact Nat.zero_le _) | (with_reducible exact Nat.le_refl _) | omega | (dsimp only; omega) | (simp only [World.size_alloc, World.size_setCell, World.size_drew]; omega))) | ((with_reducible refine Below.setCell ?_ ?_ _); rotate_left; (first | (with_reducible exact Nat.zero_le _) | (with_reducible exact Nat.le_refl _) | omega | (dsimp only; omega) | (simp only [World.size_alloc, World.size_setCell, World.size_drew]; omega))))
  generalize sval s = b at *
  cases b with
  | false =>
    rw [hH, Bool.false_and]
    clear hH
    go_enter Try.func15, Try.ntmps15
    go_wp2_with fail
    refine (hv _).mono ?_
    rintro e w1 ⟨rfl, hb1⟩
    go_wp2_with fail
    go_ret
    exact ⟨rfl, hb.trans (hb1.mono hb.size)⟩
  | true =>
    have hc : (x < s.lo ∨ (s.lo ≤ x ∧ x > s.hi)) ∨ (s.lo ≤ x ∧ x ≤ s.hi) := by omega
    rcases hc with hc | hc
    · rw [hH, decide_eq_false (by omega), Bool.and_false]
      clear hH
      rcases hc with h1 | ⟨h1, h2⟩
      all_goals (
        go_enter Try.func15, Try.ntmps15
        go_wp2_with fail
        refine (hv _).mono ?_
        rintro e w1 ⟨rfl, hb1⟩
        replace B0 := B0.step hb1
        have c0 := B0.cell
        have l0 := B0.lt
        go_wp2_with fail
        go_ret
        exact ⟨by first | rfl | (simp; try omega), hb.trans (hb1.mono hb.size)⟩)
    · rw [hH, decide_eq_true hc, Bool.and_true]
      clear hH
      obtain ⟨h1, h2⟩ := hc
      go_enter Try.func15, Try.ntmps15
      go_wp2_with fail
      refine (hv _).mono ?_
      rintro e w1 ⟨rfl, hb1⟩
      replace B0 := B0.step hb1
      have c0 := B0.cell
      have l0 := B0.lt
      go_wp2_with fail
      go_ret
      exact ⟨by first | rfl | (simp; try omega), hb.trans (hb1.mono hb.size)⟩
theorem rhas_any (s : Sp) (x : Int) (w : World) : Calls Try.prog 16 #[.agg #[.int .i64 (s).lo, .int .i64 (s).hi], .int .i64 x] w fun e w' => e = .returned (.bool (hasV s x)) ∧ Below w.heap.size w w' := by
  have hv := fun w => rvalid_any s w
  have hH : hasV s x = (sval s && decide (s.lo ≤ x ∧ x ≤ s.hi)) := rfl
  have B0 := Blk.new w 23 #[.int .i64 s.lo, .int .i64 s.hi]
  have hb : Below w.heap.size w (w.alloc (.cells #[.int .i64 s.lo, .int .i64 s.hi] 23)) := by repeat (first | (with_reducible exact Below.refl _ _) | (with_reducible assumption) | (with_reducible refine Below.drew ?_) | ((with_reducible refine Below.alloc ?_ ?_ _); rotate_left; (first | (with_reducible exact Nat.zero_le _) | (with_reducible exact Nat.le_refl _) | omega | (dsimp only; omega) | (simp only [World.size_alloc, World.size_setCell, World.size_drew]; omega))) | ((with_reducible refine Below.setCell ?_ ?_ _); rotate_left; (first | (with_reducible exact Nat.zero_le _) | (with_reducible exact Nat.le_refl _) | omega | (dsimp only; omega) | (simp only [World.size_alloc, World.size_setCell, World.size_drew]; omega))))
  generalize sval s = b at *
  cases b with
  | false =>
    rw [hH, Bool.false_and]
    clear hH
    go_enter Try.func16, Try.ntmps16
    go_wp2_with fail
    refine (hv _).mono ?_
    rintro e w1 ⟨rfl, hb1⟩
    go_wp2_with fail
    go_ret
    exact ⟨rfl, hb.trans (hb1.mono hb.size)⟩
  | true =>
    have hc : (x < s.lo ∨ (s.lo ≤ x ∧ x > s.hi)) ∨ (s.lo ≤ x ∧ x ≤ s.hi) := by omega
    rcases hc with hc | hc
    · rw [hH, decide_eq_false (by omega), Bool.and_false]
      clear hH
      rcases hc with h1 | ⟨h1, h2⟩
      all_goals (
        go_enter Try.func16, Try.ntmps16
        go_wp2_with fail
        refine (hv _).mono ?_
        rintro e w1 ⟨rfl, hb1⟩
        replace B0 := B0.step hb1
        have c0 := B0.cell
        have l0 := B0.lt
        go_wp2_with fail
        go_ret
        exact ⟨by first | rfl | (simp; try omega), hb.trans (hb1.mono hb.size)⟩)
    · rw [hH, decide_eq_true hc, Bool.and_true]
      clear hH
      obtain ⟨h1, h2⟩ := hc
      go_enter Try.func16, Try.ntmps16
      go_wp2_with fail
      refine (hv _).mono ?_
      rintro e w1 ⟨rfl, hb1⟩
      replace B0 := B0.step hb1
      have c0 := B0.cell
      have l0 := B0.lt
      go_wp2_with fail
      go_ret
      exact ⟨by first | rfl | (simp; try omega), hb.trans (hb1.mono hb.size)⟩

end Go.Proofs.Ytpclhjkamplmbaa
