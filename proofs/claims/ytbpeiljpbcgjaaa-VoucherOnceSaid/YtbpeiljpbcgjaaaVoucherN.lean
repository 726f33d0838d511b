/- Contract: the law's awake. -/
import Derived.Test.YtbpeiljpbcgjaaaVoucherL
namespace Go.Proofs.Ytbpeiljpbcgjaaa
set_option linter.unusedVariables false
set_option linter.unusedSimpArgs false
open Go.RowKit

theorem ok1 : BkOk ⟨100, 0, []⟩ := ⟨by decide, by decide, by decide, by decide, by decide, by simp⟩
theorem ok2 : BkOk ⟨100, 10, [⟨1, 2, 50, 10, 110, false⟩]⟩ := issB_ok ok1 2 50 10
theorem ok3 : BkOk ⟨100, 109, [⟨1, 2, 50, 10, 110, true⟩]⟩ := redB_ok ok2 1 109


set_option maxHeartbeats 1000000 in
theorem awake_any (w : World) : Calls Try.prog 13 #[] w fun e w' => e = .returned (.bool true) ∧ Below w.heap.size w w' := by
  go_enter Try.func13, Try.ntmps13
  go_wp2_with fail
  refine (new_ok 100 (by omega) (by omega) _).mono ?_
  rintro e w1 ⟨rfl, H1, hb1⟩
  have F1 : FrT w.heap.size TB w w1 := .of_below hb1
  go_wp2_with fail
  refine (issue_any H1 ok1 hb1.size 2 50 10).mono ?_
  rintro e w2 ⟨rfl, sv2, H2, hf2⟩
  rw [show issV ⟨100, 0, []⟩ 2 50 10 = ⟨1, 2, 50, 10, 110, false⟩ from rfl, show issE ⟨100, 0, []⟩ 2 50 10 = 0 from rfl]
  rw [show issB ⟨100, 0, []⟩ 2 50 10 = ⟨100, 10, [⟨1, 2, 50, 10, 110, false⟩]⟩ from rfl] at H2
  unfold encV
  have F2 := F1.trans hf2
  have VP := Blk.new w2 38 #[.int .i64 1, .int .i64 2, .int .i64 50, .int .i64 10, .int .i64 110]
  replace H2 := H2.step (w' := w2.alloc (.cells #[.int .i64 1, .int .i64 2, .int .i64 50, .int .i64 10, .int .i64 110] 38)) (by ((repeat (first | exact Below.refl _ _ | refine Below.drew ?_ | refine Below.alloc ?_ (by first | exact Nat.le_refl _ | omega | (simp only [World.size_alloc, World.size_drew, World.size_setCell]; omega)) _)); first | (fail_if_success (focus skip)) | fail))
  replace F2 := F2.alloc (.cells #[.int .i64 1, .int .i64 2, .int .i64 50, .int .i64 10, .int .i64 110] 38)
  go_wp2_with fail
  refine (open_any H2 ok2 109).mono ?_
  rintro e w3 ⟨rfl, hb3⟩
  rw [show openV ⟨100, 10, [⟨1, 2, 50, 10, 110, false⟩]⟩ 109 = 50 from rfl, show momE ⟨100, 10, [⟨1, 2, 50, 10, 110, false⟩]⟩ 109 = 0 from rfl]
  replace H2 := H2.step hb3
  replace VP := VP.step hb3
  have F3 := F2.trans (.of_below hb3)
  go_wp2_with fail
  refine (lapsed_any H2 ok2 110).mono ?_
  rintro e w4 ⟨rfl, hb4⟩
  rw [show lapV ⟨100, 10, [⟨1, 2, 50, 10, 110, false⟩]⟩ 110 = 50 from rfl, show momE ⟨100, 10, [⟨1, 2, 50, 10, 110, false⟩]⟩ 110 = 0 from rfl]
  replace H2 := H2.step hb4
  replace VP := VP.step hb4
  have F4 := F3.trans (.of_below hb4)
  go_wp2_with fail
  refine (redeem_any H2 ok2 1 110).mono ?_
  rintro e w5 ⟨rfl, H5, hf5⟩
  rw [show redV ⟨100, 10, [⟨1, 2, 50, 10, 110, false⟩]⟩ 1 110 = 0 from rfl, show redE ⟨100, 10, [⟨1, 2, 50, 10, 110, false⟩]⟩ 1 110 = 31 from rfl]
  rw [show redB ⟨100, 10, [⟨1, 2, 50, 10, 110, false⟩]⟩ 1 110 = ⟨100, 10, [⟨1, 2, 50, 10, 110, false⟩]⟩ from rfl] at H5
  replace VP := VP.frT hf5 (.inr rfl)
  have F5 := F4.trans hf5
  go_wp2_with fail
  refine (redeem_any H5 ok2 1 109).mono ?_
  rintro e w6 ⟨rfl, H6, hf6⟩
  rw [show redV ⟨100, 10, [⟨1, 2, 50, 10, 110, false⟩]⟩ 1 109 = 50 from rfl, show redE ⟨100, 10, [⟨1, 2, 50, 10, 110, false⟩]⟩ 1 109 = 0 from rfl]
  rw [show redB ⟨100, 10, [⟨1, 2, 50, 10, 110, false⟩]⟩ 1 109 = ⟨100, 109, [⟨1, 2, 50, 10, 110, true⟩]⟩ from rfl] at H6
  replace VP := VP.frT hf6 (.inr rfl)
  have F6 := F5.trans hf6
  go_wp2_with fail
  refine (redeem_any H6 ok3 1 109).mono ?_
  rintro e w7 ⟨rfl, H7, hf7⟩
  rw [show redV ⟨100, 109, [⟨1, 2, 50, 10, 110, true⟩]⟩ 1 109 = 0 from rfl, show redE ⟨100, 109, [⟨1, 2, 50, 10, 110, true⟩]⟩ 1 109 = 28 from rfl]
  rw [show redB ⟨100, 109, [⟨1, 2, 50, 10, 110, true⟩]⟩ 1 109 = ⟨100, 109, [⟨1, 2, 50, 10, 110, true⟩]⟩ from rfl] at H7
  replace VP := VP.frT hf7 (.inr rfl)
  have F7 := F6.trans hf7
  go_wp2_with fail
  refine (issue_any H7 ok3 (Nat.le_trans hb1.size (by have := F7.size; have := hb1.size; have := hf2.size; have := hb3.size; have := hb4.size; have := hf5.size; have := hf6.size; have := hf7.size; simp only [World.size_alloc] at *; omega)) 2 50 108).mono ?_
  rintro e w8 ⟨rfl, sv8, H8, hf8⟩
  rw [show issV ⟨100, 109, [⟨1, 2, 50, 10, 110, true⟩]⟩ 2 50 108 = ent0 from rfl, show issE ⟨100, 109, [⟨1, 2, 50, 10, 110, true⟩]⟩ 2 50 108 = 9 from rfl]
  rw [show issB ⟨100, 109, [⟨1, 2, 50, 10, 110, true⟩]⟩ 2 50 108 = ⟨100, 109, [⟨1, 2, 50, 10, 110, true⟩]⟩ from rfl] at H8
  replace VP := (VP.frT hf8 (.inr rfl)).alloc (.cells #[.int .i64 0, .int .i64 0, .int .i64 0, .int .i64 0, .int .i64 0] 38)
  have F8 := (F7.trans hf8).alloc (.cells #[.int .i64 0, .int .i64 0, .int .i64 0, .int .i64 0, .int .i64 0] 38)
  replace H8 := H8.step (w' := w8.alloc (.cells #[.int .i64 0, .int .i64 0, .int .i64 0, .int .i64 0, .int .i64 0] 38)) (by ((repeat (first | exact Below.refl _ _ | refine Below.drew ?_ | refine Below.alloc ?_ (by first | exact Nat.le_refl _ | omega | (simp only [World.size_alloc, World.size_drew, World.size_setCell]; omega)) _)); first | (fail_if_success (focus skip)) | fail))
  unfold encV
  unfold ent0
  go_wp2_with fail
  refine (totals_any H8 ok3).mono ?_
  rintro e w9 ⟨rfl, hb9⟩
  rw [show totV ⟨100, 109, [⟨1, 2, 50, 10, 110, true⟩]⟩ = 50 from rfl, show paidV ⟨100, 109, [⟨1, 2, 50, 10, 110, true⟩]⟩ = 50 from rfl]
  replace VP := VP.step hb9
  have F9 := F8.trans (.of_below hb9)
  have V9 := VP.cell
  have L9 := VP.lt
  go_wp2_with fail
  clear V9 L9
  go_ret
  exact ⟨rfl, F9.below (Nat.le_refl _)⟩

end Go.Proofs.Ytbpeiljpbcgjaaa
