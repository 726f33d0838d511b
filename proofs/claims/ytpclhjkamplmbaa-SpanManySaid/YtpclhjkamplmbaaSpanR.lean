/- Contract: the law's awake. -/
import Derived.Test.YtpclhjkamplmbaaSpanE
import Derived.Test.YtpclhjkamplmbaaSpanH
import Derived.Test.YtpclhjkamplmbaaSpanL
import Derived.Test.YtpclhjkamplmbaaSpanN
import Derived.Test.YtpclhjkamplmbaaSpanO
namespace Go.Proofs.Ytpclhjkamplmbaa
set_option linter.unusedVariables false
set_option linter.unusedSimpArgs false
open Go.RowKit


theorem awk_f1 (w : World) : Calls Try.prog 18 #[.agg #[.int .i64 1, .int .i64 2], .agg #[.int .i64 10, .int .i64 20]] w fun e w' => e = .returned (.tuple #[.agg #[.int .i64 11, .int .i64 22], .int .i64 0]) ∧ Below w.heap.size w w' := by
  have h := add_any ⟨1, 2⟩ ⟨10, 20⟩ w
  rw [show addS ⟨1, 2⟩ ⟨10, 20⟩ = ⟨11, 22⟩ by decide +kernel, show addE ⟨1, 2⟩ ⟨10, 20⟩ = 0 by decide +kernel] at h
  exact h

theorem awk_f2 (w : World) : Calls Try.prog 20 #[.agg #[.int .i64 1, .int .i64 2], .agg #[.int .i64 10, .int .i64 20]] w fun e w' => e = .returned (.tuple #[.agg #[.int .i64 (-19), .int .i64 (-8)], .int .i64 0]) ∧ Below w.heap.size w w' := by
  have h := sub_any ⟨1, 2⟩ ⟨10, 20⟩ w
  rw [show addS ⟨1, 2⟩ (negS ⟨10, 20⟩) = ⟨(-19), (-8)⟩ by decide +kernel, show addE ⟨1, 2⟩ (negS ⟨10, 20⟩) = 0 by decide +kernel] at h
  exact h

theorem awk_f3 (w : World) : Calls Try.prog 24 #[.agg #[.int .i64 1, .int .i64 5], .agg #[.int .i64 4, .int .i64 9]] w fun e w' => e = .returned (.tuple #[.agg #[.int .i64 4, .int .i64 5], .int .i64 0]) ∧ Below w.heap.size w w' := by
  have h := meet_any ⟨1, 5⟩ ⟨4, 9⟩ w
  rw [show meetS ⟨1, 5⟩ ⟨4, 9⟩ = ⟨4, 5⟩ by decide +kernel, show meetE ⟨1, 5⟩ ⟨4, 9⟩ = 0 by decide +kernel] at h
  exact h

theorem awk_f4 (w : World) : Calls Try.prog 26 #[.agg #[.int .i64 1, .int .i64 5], .agg #[.int .i64 4, .int .i64 9]] w fun e w' => e = .returned (.tuple #[.agg #[.int .i64 1, .int .i64 9], .int .i64 0]) ∧ Below w.heap.size w w' := by
  have h := hull_any ⟨1, 5⟩ ⟨4, 9⟩ w
  rw [show hullS ⟨1, 5⟩ ⟨4, 9⟩ = ⟨1, 9⟩ by decide +kernel, show hullE ⟨1, 5⟩ ⟨4, 9⟩ = 0 by decide +kernel] at h
  exact h

theorem awk_f5 (w : World) : Calls Try.prog 24 #[.agg #[.int .i64 1, .int .i64 3], .agg #[.int .i64 4, .int .i64 9]] w fun e w' => e = .returned (.tuple #[.agg #[.int .i64 0, .int .i64 0], .int .i64 10]) ∧ Below w.heap.size w w' := by
  have h := meet_any ⟨1, 3⟩ ⟨4, 9⟩ w
  rw [show meetS ⟨1, 3⟩ ⟨4, 9⟩ = ⟨0, 0⟩ by decide +kernel, show meetE ⟨1, 3⟩ ⟨4, 9⟩ = 10 by decide +kernel] at h
  exact h

theorem awk_f6 (w : World) : Calls Try.prog 30 #[.agg #[.int .i64 (-10), .int .i64 (-1)], .int .i64 1, .int .i64 3] w fun e w' => e = .returned (.tuple #[.agg #[.int .i64 (-4), .int .i64 0], .int .i64 0]) ∧ Below w.heap.size w w' := by
  have h := part_any ⟨-10, -1⟩ 1 3 w
  rw [show partS ⟨-10, -1⟩ 1 3 = ⟨(-4), 0⟩ by decide +kernel, show partE ⟨-10, -1⟩ 1 3 = 0 by decide +kernel] at h
  exact h

theorem awk_f7 (w : World) : Calls Try.prog 28 #[.agg #[.int .i64 4, .int .i64 5], .int .i64 2] w fun e w' => e = .returned (.tuple #[.agg #[.int .i64 2, .int .i64 7], .int .i64 0]) ∧ Below w.heap.size w w' := by
  have h := widen_any ⟨4, 5⟩ 2 w
  rw [show widS ⟨4, 5⟩ 2 = ⟨2, 7⟩ by decide +kernel, show widE ⟨4, 5⟩ 2 = 0 by decide +kernel] at h
  exact h

theorem awk_f8 {w : World} {v : Value} (hl : RowIn w v 2 encP [⟨1, 2⟩, ⟨3, 4⟩, ⟨-1, 0⟩]) : Calls Try.prog 22 #[v] w fun e w' => e = .returned (.tuple #[.agg #[.int .i64 3, .int .i64 6], .int .i64 0]) ∧ Below w.heap.size w w' := by
  have h := sumL_any hl
  rw [show sumS [⟨1, 2⟩, ⟨3, 4⟩, ⟨-1, 0⟩] = ⟨3, 6⟩ by decide +kernel, show sumE [⟨1, 2⟩, ⟨3, 4⟩, ⟨-1, 0⟩] = 0 by decide +kernel] at h
  exact h
theorem awk_f9 (w : World) : Calls Try.prog 13 #[.agg #[.int .i64 11, .int .i64 22]] w fun e w' => e = .returned (.bool true) ∧ Below w.heap.size w w' := by
  have h := valid1_any ⟨11, 22⟩ w
  rw [show sval ⟨11, 22⟩ = true by decide +kernel] at h
  exact h
theorem awk_f10 (w : World) : Calls Try.prog 15 #[.agg #[.int .i64 11, .int .i64 22], .int .i64 22] w fun e w' => e = .returned (.bool true) ∧ Below w.heap.size w w' := by
  have h := has_any ⟨11, 22⟩ 22 w
  rw [show hasV ⟨11, 22⟩ 22 = true by decide +kernel] at h
  exact h
theorem awk_f11 (w : World) : Calls Try.prog 15 #[.agg #[.int .i64 11, .int .i64 22], .int .i64 23] w fun e w' => e = .returned (.bool false) ∧ Below w.heap.size w w' := by
  have h := has_any ⟨11, 22⟩ 23 w
  rw [show hasV ⟨11, 22⟩ 23 = false by decide +kernel] at h
  exact h

set_option maxRecDepth 100000 in
set_option maxHeartbeats 4000000 in
theorem awake_any (w : World) : Calls Try.prog 17 #[] w fun e w' => e = .returned (.bool true) ∧ Below w.heap.size w w' := by
  go_enter Try.func17, Try.ntmps17
  go_wp2_with fail
  refine (awk_f1 _).mono ?_
  rintro e w1 ⟨rfl, hb1⟩
  have hb := hb1

  go_wp2_with fail
  have C1 := Blk.new w1 23 #[.int .i64 11, .int .i64 22]
  replace hb := hb.alloc hb.size (.cells #[.int .i64 11, .int .i64 22] 23)
  refine (awk_f2 _).mono ?_
  rintro e w2 ⟨rfl, hb2⟩
  replace C1 := C1.step hb2
  replace hb := hb.trans (hb2.mono hb.size)

  go_wp2_with fail
  have C2 := Blk.new w2 23 #[.int .i64 (-19), .int .i64 (-8)]
  replace C1 := C1.alloc (.cells #[.int .i64 (-19), .int .i64 (-8)] 23)
  replace hb := hb.alloc hb.size (.cells #[.int .i64 (-19), .int .i64 (-8)] 23)
  refine (awk_f3 _).mono ?_
  rintro e w3 ⟨rfl, hb3⟩
  replace C1 := C1.step hb3
  replace C2 := C2.step hb3
  replace hb := hb.trans (hb3.mono hb.size)

  go_wp2_with fail
  have C3 := Blk.new w3 23 #[.int .i64 4, .int .i64 5]
  replace C1 := C1.alloc (.cells #[.int .i64 4, .int .i64 5] 23)
  replace C2 := C2.alloc (.cells #[.int .i64 4, .int .i64 5] 23)
  replace hb := hb.alloc hb.size (.cells #[.int .i64 4, .int .i64 5] 23)
  refine (awk_f4 _).mono ?_
  rintro e w4 ⟨rfl, hb4⟩
  replace C1 := C1.step hb4
  replace C2 := C2.step hb4
  replace C3 := C3.step hb4
  replace hb := hb.trans (hb4.mono hb.size)

  go_wp2_with fail
  have C4 := Blk.new w4 23 #[.int .i64 1, .int .i64 9]
  replace C1 := C1.alloc (.cells #[.int .i64 1, .int .i64 9] 23)
  replace C2 := C2.alloc (.cells #[.int .i64 1, .int .i64 9] 23)
  replace C3 := C3.alloc (.cells #[.int .i64 1, .int .i64 9] 23)
  replace hb := hb.alloc hb.size (.cells #[.int .i64 1, .int .i64 9] 23)
  refine (awk_f5 _).mono ?_
  rintro e w5 ⟨rfl, hb5⟩
  replace C1 := C1.step hb5
  replace C2 := C2.step hb5
  replace C3 := C3.step hb5
  replace C4 := C4.step hb5
  replace hb := hb.trans (hb5.mono hb.size)

  go_wp2_with fail
  have C5 := Blk.new w5 23 #[.int .i64 0, .int .i64 0]
  replace C1 := C1.alloc (.cells #[.int .i64 0, .int .i64 0] 23)
  replace C2 := C2.alloc (.cells #[.int .i64 0, .int .i64 0] 23)
  replace C3 := C3.alloc (.cells #[.int .i64 0, .int .i64 0] 23)
  replace C4 := C4.alloc (.cells #[.int .i64 0, .int .i64 0] 23)
  replace hb := hb.alloc hb.size (.cells #[.int .i64 0, .int .i64 0] 23)
  refine (awk_f6 _).mono ?_
  rintro e w6 ⟨rfl, hb6⟩
  replace C1 := C1.step hb6
  replace C2 := C2.step hb6
  replace C3 := C3.step hb6
  replace C4 := C4.step hb6
  replace C5 := C5.step hb6
  replace hb := hb.trans (hb6.mono hb.size)

  go_wp2_with fail
  have C6 := Blk.new w6 23 #[.int .i64 (-4), .int .i64 0]
  replace C1 := C1.alloc (.cells #[.int .i64 (-4), .int .i64 0] 23)
  replace C2 := C2.alloc (.cells #[.int .i64 (-4), .int .i64 0] 23)
  replace C3 := C3.alloc (.cells #[.int .i64 (-4), .int .i64 0] 23)
  replace C4 := C4.alloc (.cells #[.int .i64 (-4), .int .i64 0] 23)
  replace C5 := C5.alloc (.cells #[.int .i64 (-4), .int .i64 0] 23)
  replace hb := hb.alloc hb.size (.cells #[.int .i64 (-4), .int .i64 0] 23)
  refine (awk_f7 _).mono ?_
  rintro e w7 ⟨rfl, hb7⟩
  replace C1 := C1.step hb7
  replace C2 := C2.step hb7
  replace C3 := C3.step hb7
  replace C4 := C4.step hb7
  replace C5 := C5.step hb7
  replace C6 := C6.step hb7
  replace hb := hb.trans (hb7.mono hb.size)

  go_wp2_with fail
  have C7 := Blk.new w7 23 #[.int .i64 2, .int .i64 7]
  replace C1 := C1.alloc (.cells #[.int .i64 2, .int .i64 7] 23)
  replace C2 := C2.alloc (.cells #[.int .i64 2, .int .i64 7] 23)
  replace C3 := C3.alloc (.cells #[.int .i64 2, .int .i64 7] 23)
  replace C4 := C4.alloc (.cells #[.int .i64 2, .int .i64 7] 23)
  replace C5 := C5.alloc (.cells #[.int .i64 2, .int .i64 7] 23)
  replace C6 := C6.alloc (.cells #[.int .i64 2, .int .i64 7] 23)
  replace hb := hb.alloc hb.size (.cells #[.int .i64 2, .int .i64 7] 23)
  have CL : Blk ((w7.alloc (.cells #[.int .i64 2, .int .i64 7] 23)).alloc (.cells #[.int .i64 1, .int .i64 2, .int .i64 3, .int .i64 4, .int .i64 (-1), .int .i64 0] 23)) (w7.heap.size + 1) 23 #[.int .i64 1, .int .i64 2, .int .i64 3, .int .i64 4, .int .i64 (-1), .int .i64 0] := by
    have := Blk.new (w7.alloc (.cells #[.int .i64 2, .int .i64 7] 23)) 23 #[.int .i64 1, .int .i64 2, .int .i64 3, .int .i64 4, .int .i64 (-1), .int .i64 0]
    simpa using this
  replace C1 := C1.alloc (.cells #[.int .i64 1, .int .i64 2, .int .i64 3, .int .i64 4, .int .i64 (-1), .int .i64 0] 23)
  replace C2 := C2.alloc (.cells #[.int .i64 1, .int .i64 2, .int .i64 3, .int .i64 4, .int .i64 (-1), .int .i64 0] 23)
  replace C3 := C3.alloc (.cells #[.int .i64 1, .int .i64 2, .int .i64 3, .int .i64 4, .int .i64 (-1), .int .i64 0] 23)
  replace C4 := C4.alloc (.cells #[.int .i64 1, .int .i64 2, .int .i64 3, .int .i64 4, .int .i64 (-1), .int .i64 0] 23)
  replace C5 := C5.alloc (.cells #[.int .i64 1, .int .i64 2, .int .i64 3, .int .i64 4, .int .i64 (-1), .int .i64 0] 23)
  replace C6 := C6.alloc (.cells #[.int .i64 1, .int .i64 2, .int .i64 3, .int .i64 4, .int .i64 (-1), .int .i64 0] 23)
  replace C7 := C7.alloc (.cells #[.int .i64 1, .int .i64 2, .int .i64 3, .int .i64 4, .int .i64 (-1), .int .i64 0] 23)
  replace hb := hb.alloc hb.size (.cells #[.int .i64 1, .int .i64 2, .int .i64 3, .int .i64 4, .int .i64 (-1), .int .i64 0] 23)
  refine (awk_f8 (RowIn.of_blk2 (l := [⟨1, 2⟩, ⟨3, 4⟩, ⟨-1, 0⟩]) CL (by rfl) (by simp [maxLen]))).mono ?_
  rintro e w8 ⟨rfl, hb8⟩
  clear CL
  replace C1 := C1.step hb8
  replace C2 := C2.step hb8
  replace C3 := C3.step hb8
  replace C4 := C4.step hb8
  replace C5 := C5.step hb8
  replace C6 := C6.step hb8
  replace C7 := C7.step hb8
  replace hb := hb.trans (hb8.mono hb.size)
  have c1 := C1.cell
  have l1 := C1.lt
  have c2 := C2.cell
  have l2 := C2.lt
  have c3 := C3.cell
  have l3 := C3.lt
  have c4 := C4.cell
  have l4 := C4.lt
  have c5 := C5.cell
  have l5 := C5.lt
  have c6 := C6.cell
  have l6 := C6.lt
  have c7 := C7.cell
  have l7 := C7.lt
  go_wp2_with fail
  clear c1 l1
  clear c2 l2
  clear c3 l3
  clear c4 l4
  clear c5 l5
  clear c6 l6
  clear c7 l7
  have C8 := Blk.new w8 23 #[.int .i64 3, .int .i64 6]
  replace C1 := C1.alloc (.cells #[.int .i64 3, .int .i64 6] 23)
  replace C2 := C2.alloc (.cells #[.int .i64 3, .int .i64 6] 23)
  replace C3 := C3.alloc (.cells #[.int .i64 3, .int .i64 6] 23)
  replace C4 := C4.alloc (.cells #[.int .i64 3, .int .i64 6] 23)
  replace C5 := C5.alloc (.cells #[.int .i64 3, .int .i64 6] 23)
  replace C6 := C6.alloc (.cells #[.int .i64 3, .int .i64 6] 23)
  replace C7 := C7.alloc (.cells #[.int .i64 3, .int .i64 6] 23)
  replace hb := hb.alloc hb.size (.cells #[.int .i64 3, .int .i64 6] 23)
  refine (awk_f9 _).mono ?_
  rintro e w9 ⟨rfl, hb9⟩
  replace C1 := C1.step hb9
  replace hb := hb.trans (hb9.mono hb.size)
  have c1 := C1.cell
  have l1 := C1.lt
  go_wp2_with fail
  clear c1 l1
  refine (awk_f10 _).mono ?_
  rintro e w10 ⟨rfl, hb10⟩
  replace C1 := C1.step hb10
  replace hb := hb.trans (hb10.mono hb.size)
  have c1 := C1.cell
  have l1 := C1.lt
  go_wp2_with fail
  clear c1 l1
  refine (awk_f11 _).mono ?_
  rintro e w11 ⟨rfl, hb11⟩
  replace hb := hb.trans (hb11.mono hb.size)
  go_wp2_with fail
  go_ret
  exact ⟨by simp, hb⟩

end Go.Proofs.Ytpclhjkamplmbaa
