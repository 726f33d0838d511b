/- Contracts: the search 'first' with each of the two conditions of True. -/
import Derived.Test.YtapfihlfnaebhaaScaleD
namespace Go.Proofs.Ytapfihlfnaebhaa
set_option linter.unusedVariables false
set_option linter.unusedSimpArgs false
open Go.RowKit

def FirstPost (p : Int → Bool) (lo hi : Int) (w : World) (e : Ending) (w' : World) : Prop := ∃ x, e = .returned (.int .i64 x) ∧ FirstIs p lo hi x ∧ Below w.heap.size w w'
def FirstRel (p : Int → Bool) (lo hi : Int) (w : World) (l h : Value) (w' : World) : Prop :=
  ∃ x y : Int, l = .int .i64 x ∧ h = .int .i64 y ∧ lo ≤ x ∧ x ≤ y + 1 ∧ y ≤ hi ∧ (lo < x → p (x - 1) = false) ∧ (y < hi → p (y + 1) = true) ∧ Below w.heap.size w w'

theorem mid_bd {x y : Int} (h : x ≤ y) : 0 ≤ (y - x) / 2 ∧ x + (y - x) / 2 ≤ y := by omega


set_option maxHeartbeats 1000000 in
theorem first_t1 (lo hi : Int) (c1 c2 c3 : Value) (p : Int → Bool) (w : World) (h0 : 0 ≤ lo) (h1 : lo ≤ hi + 1) (h2 : hi ≤ 1073741824)
    (hp : ∀ (m : Int) (w' : World), Below w.heap.size w w' → lo ≤ m → m ≤ hi → Calls Try.prog 29 #[.int .i64 m, c1, c2, c3] w' fun e w'' => e = .returned (.bool (p m)) ∧ Below w'.heap.size w' w'') :
    Calls Try.prog 28 #[.int .i64 lo, .int .i64 hi, .func (.func 29) #[] #[c1, c2, c3]] w (FirstPost p lo hi w) := by
  have HP := Lib.hid hp
  clear hp
  go_enter Try.func28, Try.ntmps28
  go_wp2_with fail
  go_loopw [0, 1] (fun l h wr => FirstRel p lo hi w l h wr) (fun l h _ => (intOf h + 1 - intOf l).toNat)
  case atStart => exact ⟨lo, hi, rfl, rfl, Int.le_refl _, h1, Int.le_refl _, fun h => absurd h (Int.lt_irrefl _), fun h => absurd h (Int.lt_irrefl _), Below.refl _ _⟩
  case round =>
    obtain ⟨x, y, rfl, rfl, hx, hxy, hy, hl, hr, hb⟩ := hrel
    have HL := Lib.hid hl
    have HR := Lib.hid hr
    clear hl hr
    by_cases hlt : x ≤ y
    · obtain ⟨q1, q2⟩ := mid_bd hlt
      by_cases hpm : p (x + (y - x) / 2) = true
      · go_wp2_with (go_at_call 29; refine (HP.out _ wr hb (by omega) (by omega)).mono ?_; rintro e w1 ⟨rfl, hb1⟩)
        go_roundw
        case rel => exact ⟨x, x + (y - x) / 2 - 1, rfl, rfl, hx, by omega, by omega, HL.out, fun _ => by rw [Int.sub_add_cancel]; exact hpm, hb.trans (hb1.mono hb.size)⟩
        case measure => simp [intOf]; omega
      · have hpm := eq_false_of_ne_true hpm
        go_wp2_with (go_at_call 29; refine (HP.out _ wr hb (by omega) (by omega)).mono ?_; rintro e w1 ⟨rfl, hb1⟩)
        go_roundw
        case rel => exact ⟨x + (y - x) / 2 + 1, y, rfl, rfl, by omega, by omega, hy, fun _ => by rw [Int.add_sub_cancel]; exact hpm, HR.out, hb.trans (hb1.mono hb.size)⟩
        case measure => simp [intOf]; omega
    · go_wp2_with fail
      go_ret
      have he : x = y + 1 := by omega
      refine ⟨x, rfl, ⟨hx, by omega, HL.out, fun h => ?_⟩, hb⟩
      rw [he]
      exact HR.out (by omega)
set_option maxHeartbeats 1000000 in
theorem first_t2 (lo hi : Int) (c1 c2 c3 : Value) (p : Int → Bool) (w : World) (h0 : 0 ≤ lo) (h1 : lo ≤ hi + 1) (h2 : hi ≤ 1073741824)
    (hp : ∀ (m : Int) (w' : World), Below w.heap.size w w' → lo ≤ m → m ≤ hi → Calls Try.prog 31 #[.int .i64 m, c1, c2, c3] w' fun e w'' => e = .returned (.bool (p m)) ∧ Below w'.heap.size w' w'') :
    Calls Try.prog 28 #[.int .i64 lo, .int .i64 hi, .func (.func 31) #[] #[c1, c2, c3]] w (FirstPost p lo hi w) := by
  have HP := Lib.hid hp
  clear hp
  go_enter Try.func28, Try.ntmps28
  go_wp2_with fail
  go_loopw [0, 1] (fun l h wr => FirstRel p lo hi w l h wr) (fun l h _ => (intOf h + 1 - intOf l).toNat)
  case atStart => exact ⟨lo, hi, rfl, rfl, Int.le_refl _, h1, Int.le_refl _, fun h => absurd h (Int.lt_irrefl _), fun h => absurd h (Int.lt_irrefl _), Below.refl _ _⟩
  case round =>
    obtain ⟨x, y, rfl, rfl, hx, hxy, hy, hl, hr, hb⟩ := hrel
    have HL := Lib.hid hl
    have HR := Lib.hid hr
    clear hl hr
    by_cases hlt : x ≤ y
    · obtain ⟨q1, q2⟩ := mid_bd hlt
      by_cases hpm : p (x + (y - x) / 2) = true
      · go_wp2_with (go_at_call 31; refine (HP.out _ wr hb (by omega) (by omega)).mono ?_; rintro e w1 ⟨rfl, hb1⟩)
        go_roundw
        case rel => exact ⟨x, x + (y - x) / 2 - 1, rfl, rfl, hx, by omega, by omega, HL.out, fun _ => by rw [Int.sub_add_cancel]; exact hpm, hb.trans (hb1.mono hb.size)⟩
        case measure => simp [intOf]; omega
      · have hpm := eq_false_of_ne_true hpm
        go_wp2_with (go_at_call 31; refine (HP.out _ wr hb (by omega) (by omega)).mono ?_; rintro e w1 ⟨rfl, hb1⟩)
        go_roundw
        case rel => exact ⟨x + (y - x) / 2 + 1, y, rfl, rfl, by omega, by omega, hy, fun _ => by rw [Int.add_sub_cancel]; exact hpm, HR.out, hb.trans (hb1.mono hb.size)⟩
        case measure => simp [intOf]; omega
    · go_wp2_with fail
      go_ret
      have he : x = y + 1 := by omega
      refine ⟨x, rfl, ⟨hx, by omega, HL.out, fun h => ?_⟩, hb⟩
      rw [he]
      exact HR.out (by omega)

end Go.Proofs.Ytapfihlfnaebhaa
