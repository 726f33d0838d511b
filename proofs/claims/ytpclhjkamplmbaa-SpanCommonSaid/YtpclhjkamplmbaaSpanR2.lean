/- SpanCommon: the members of common parts and hulls, for every input. -/
import Derived.Test.YtpclhjkamplmbaaSpanS
import Derived.Deep.DeepCutAuto
namespace Go.Proofs.Ytpclhjkamplmbaa
set_option linter.unusedVariables false
set_option linter.unusedSimpArgs false
open Go.ChangeShapes Go.WideShapes Go.ChangeAt Go.RowKit


set_option maxHeartbeats 8000000 in
theorem law9 (a b : Sp) (x : Int) (w : World) : Calls Try.prog 11 #[.agg #[.int .i64 (a).lo, .int .i64 (a).hi], .agg #[.int .i64 (b).lo, .int .i64 (b).hi], .int .i64 x] w fun e w' => e = .returned (.bool true) ∧ Below w.heap.size w w' := by
  have h1 := fun w => calls2 (meet_any a b w) (meet_same a b).1 (meet_same a b).2
  have h2 := fun w => calls2 (hull_any a b w) (hull_same a b).1 (hull_same a b).2
  have hva := fun w => valid1_any a w
  have hvb := fun w => valid1_any b w
  have BA : Blk ((w.alloc (.cells #[.int .i64 a.lo, .int .i64 a.hi] 23)).alloc (.cells #[.int .i64 b.lo, .int .i64 b.hi] 23)) w.heap.size 23 #[.int .i64 a.lo, .int .i64 a.hi] := (Blk.new w 23 #[.int .i64 a.lo, .int .i64 a.hi]).alloc _
  have BB : Blk ((w.alloc (.cells #[.int .i64 a.lo, .int .i64 a.hi] 23)).alloc (.cells #[.int .i64 b.lo, .int .i64 b.hi] 23)) (w.heap.size + 1) 23 #[.int .i64 b.lo, .int .i64 b.hi] := by
    have := Blk.new (w.alloc (.cells #[.int .i64 a.lo, .int .i64 a.hi] 23)) 23 #[.int .i64 b.lo, .int .i64 b.hi]
    simpa using this
  have hb : Below w.heap.size w ((w.alloc (.cells #[.int .i64 a.lo, .int .i64 a.hi] 23)).alloc (.cells #[.int .i64 b.lo, .int .i64 b.hi] 23)) := by repeat (first | (with_reducible exact Below.refl _ _) | (with_reducible assumption) | (with_reducible refine Below.drew ?_) | ((with_reducible refine Below.alloc ?_ ?_ _); rotate_left; (first | (with_reducible exact Nat.zero_le _) | (with_reducible exact Nat.le_refl _) | omega | (dsimp only; omega) | (simp only [World.size_alloc, World.size_setCell, World.size_drew]; omega))) | ((with_reducible refine Below.setCell ?_ ?_ _); rotate_left; (first | (with_reducible exact Nat.zero_le _) | (with_reducible exact Nat.le_refl _) | omega | (dsimp only; omega) | (simp only [World.size_alloc, World.size_setCell, World.size_drew]; omega))))
  by_cases hv : sval a = false ∨ sval b = false
  · obtain ⟨q1, q2⟩ := common_no hv
    rw [q1] at h1
    rw [q2] at h2
    clear q1 q2
    generalize rmeetS a b = S1 at *
    generalize rhullS a b = S2 at *
    generalize sval a = v at *
    generalize sval b = u at *
    cases v with
    | false =>
      clear hv
      go_enter Try.func11, Try.ntmps11
      go_wp2_with fail
      refine (h1 _).mono ?_
      rintro e w1 ⟨rfl, hb1⟩
      replace BA := BA.step hb1
      replace BB := BB.step hb1
      replace hb := hb.trans (hb1.mono hb.size)
      have cBA := BA.cell
      have cBB := BB.cell
      have lBA := BA.lt
      have lBB := BB.lt
      go_wp2_with fail
      clear cBA lBA cBB lBB
      have C1 := Blk.new w1 23 #[.int .i64 S1.lo, .int .i64 S1.hi]
      replace BA := BA.alloc (.cells #[.int .i64 S1.lo, .int .i64 S1.hi] 23)
      replace BB := BB.alloc (.cells #[.int .i64 S1.lo, .int .i64 S1.hi] 23)
      replace hb := hb.alloc hb.size (.cells #[.int .i64 S1.lo, .int .i64 S1.hi] 23)
      refine (h2 _).mono ?_
      rintro e w2 ⟨rfl, hb2⟩
      replace BA := BA.step hb2
      replace BB := BB.step hb2
      replace C1 := C1.step hb2
      replace hb := hb.trans (hb2.mono hb.size)
      have cBA := BA.cell
      have cBB := BB.cell
      have cC1 := C1.cell
      have lBA := BA.lt
      have lBB := BB.lt
      have lC1 := C1.lt
      go_wp2_with fail
      clear cBA lBA cBB lBB cC1 lC1
      have C2 := Blk.new w2 23 #[.int .i64 S2.lo, .int .i64 S2.hi]
      replace BA := BA.alloc (.cells #[.int .i64 S2.lo, .int .i64 S2.hi] 23)
      replace BB := BB.alloc (.cells #[.int .i64 S2.lo, .int .i64 S2.hi] 23)
      replace C1 := C1.alloc (.cells #[.int .i64 S2.lo, .int .i64 S2.hi] 23)
      replace hb := hb.alloc hb.size (.cells #[.int .i64 S2.lo, .int .i64 S2.hi] 23)
      refine (hva _).mono ?_
      rintro e w3 ⟨rfl, hb3⟩
      replace BA := BA.step hb3
      replace BB := BB.step hb3
      replace C1 := C1.step hb3
      replace C2 := C2.step hb3
      replace hb := hb.trans (hb3.mono hb.size)
      have cBA := BA.cell
      have cBB := BB.cell
      have cC1 := C1.cell
      have cC2 := C2.cell
      have lBA := BA.lt
      have lBB := BB.lt
      have lC1 := C1.lt
      have lC2 := C2.lt
      go_wp2_with fail
      clear cBA lBA cBB lBB cC1 lC1 cC2 lC2
      refine (awake_any _).mono ?_
      rintro e wa ⟨rfl, hba⟩
      go_wp2_with fail
      go_ret
      exact ⟨by simp, hb.trans (hba.mono hb.size)⟩
    | true =>
      obtain rfl : u = false := by simpa using hv
      clear hv
      go_enter Try.func11, Try.ntmps11
      go_wp2_with fail
      refine (h1 _).mono ?_
      rintro e w1 ⟨rfl, hb1⟩
      replace BA := BA.step hb1
      replace BB := BB.step hb1
      replace hb := hb.trans (hb1.mono hb.size)
      have cBA := BA.cell
      have cBB := BB.cell
      have lBA := BA.lt
      have lBB := BB.lt
      go_wp2_with fail
      clear cBA lBA cBB lBB
      have C1 := Blk.new w1 23 #[.int .i64 S1.lo, .int .i64 S1.hi]
      replace BA := BA.alloc (.cells #[.int .i64 S1.lo, .int .i64 S1.hi] 23)
      replace BB := BB.alloc (.cells #[.int .i64 S1.lo, .int .i64 S1.hi] 23)
      replace hb := hb.alloc hb.size (.cells #[.int .i64 S1.lo, .int .i64 S1.hi] 23)
      refine (h2 _).mono ?_
      rintro e w2 ⟨rfl, hb2⟩
      replace BA := BA.step hb2
      replace BB := BB.step hb2
      replace C1 := C1.step hb2
      replace hb := hb.trans (hb2.mono hb.size)
      have cBA := BA.cell
      have cBB := BB.cell
      have cC1 := C1.cell
      have lBA := BA.lt
      have lBB := BB.lt
      have lC1 := C1.lt
      go_wp2_with fail
      clear cBA lBA cBB lBB cC1 lC1
      have C2 := Blk.new w2 23 #[.int .i64 S2.lo, .int .i64 S2.hi]
      replace BA := BA.alloc (.cells #[.int .i64 S2.lo, .int .i64 S2.hi] 23)
      replace BB := BB.alloc (.cells #[.int .i64 S2.lo, .int .i64 S2.hi] 23)
      replace C1 := C1.alloc (.cells #[.int .i64 S2.lo, .int .i64 S2.hi] 23)
      replace hb := hb.alloc hb.size (.cells #[.int .i64 S2.lo, .int .i64 S2.hi] 23)
      refine (hva _).mono ?_
      rintro e w3 ⟨rfl, hb3⟩
      replace BA := BA.step hb3
      replace BB := BB.step hb3
      replace C1 := C1.step hb3
      replace C2 := C2.step hb3
      replace hb := hb.trans (hb3.mono hb.size)
      have cBA := BA.cell
      have cBB := BB.cell
      have cC1 := C1.cell
      have cC2 := C2.cell
      have lBA := BA.lt
      have lBB := BB.lt
      have lC1 := C1.lt
      have lC2 := C2.lt
      go_wp2_with fail
      clear cBA lBA cBB lBB cC1 lC1 cC2 lC2
      refine (hvb _).mono ?_
      rintro e w4 ⟨rfl, hb4⟩
      replace BA := BA.step hb4
      replace BB := BB.step hb4
      replace C1 := C1.step hb4
      replace C2 := C2.step hb4
      replace hb := hb.trans (hb4.mono hb.size)
      have cBA := BA.cell
      have cBB := BB.cell
      have cC1 := C1.cell
      have cC2 := C2.cell
      have lBA := BA.lt
      have lBB := BB.lt
      have lC1 := C1.lt
      have lC2 := C2.lt
      go_wp2_with fail
      clear cBA lBA cBB lBB cC1 lC1 cC2 lC2
      refine (awake_any _).mono ?_
      rintro e wa ⟨rfl, hba⟩
      go_wp2_with fail
      go_ret
      exact ⟨by simp, hb.trans (hba.mono hb.size)⟩
  · have va : sval a = true := by simp at hv; exact hv.1
    have vb : sval b = true := by simp at hv; exact hv.2
    clear hv
    obtain ⟨q1, q2, q3, q4, q5⟩ := common_yes va vb x
    rw [va] at hva
    rw [vb] at hvb
    rw [q1] at h2
    have g1 := fun w => has_any a x w
    have g2 := fun w => has_any b x w
    have g3 := fun w => has_any (rmeetS a b) x w
    have g4 := fun w => has_any (rhullS a b) x w
    clear q1
    generalize rmeetE a b = E1 at *
    generalize rmeetS a b = S1 at *
    generalize rhullS a b = S2 at *
    generalize hasV a x = p at *
    generalize hasV b x = q at *
    generalize hasV S1 x = r at *
    generalize hasV S2 x = t at *
    have K4 := Lib.hid q4
    have K5 := Lib.hid q5
    clear q4 q5 va vb
    rcases q2 with ⟨rfl, q2⟩ | ⟨rfl, q2⟩
    · cases p with
      | false => cases q with
        | false =>
          obtain rfl : r = false := q2
          clear q3
          go_enter Try.func11, Try.ntmps11
          go_wp2_with fail
          refine (h1 _).mono ?_
          rintro e w1 ⟨rfl, hb1⟩
          replace BA := BA.step hb1
          replace BB := BB.step hb1
          replace hb := hb.trans (hb1.mono hb.size)
          have cBA := BA.cell
          have cBB := BB.cell
          have lBA := BA.lt
          have lBB := BB.lt
          go_wp2_with fail
          clear cBA lBA cBB lBB
          have C1 := Blk.new w1 23 #[.int .i64 S1.lo, .int .i64 S1.hi]
          replace BA := BA.alloc (.cells #[.int .i64 S1.lo, .int .i64 S1.hi] 23)
          replace BB := BB.alloc (.cells #[.int .i64 S1.lo, .int .i64 S1.hi] 23)
          replace hb := hb.alloc hb.size (.cells #[.int .i64 S1.lo, .int .i64 S1.hi] 23)
          refine (h2 _).mono ?_
          rintro e w2 ⟨rfl, hb2⟩
          replace BA := BA.step hb2
          replace BB := BB.step hb2
          replace C1 := C1.step hb2
          replace hb := hb.trans (hb2.mono hb.size)
          have cBA := BA.cell
          have cBB := BB.cell
          have cC1 := C1.cell
          have lBA := BA.lt
          have lBB := BB.lt
          have lC1 := C1.lt
          go_wp2_with fail
          clear cBA lBA cBB lBB cC1 lC1
          have C2 := Blk.new w2 23 #[.int .i64 S2.lo, .int .i64 S2.hi]
          replace BA := BA.alloc (.cells #[.int .i64 S2.lo, .int .i64 S2.hi] 23)
          replace BB := BB.alloc (.cells #[.int .i64 S2.lo, .int .i64 S2.hi] 23)
          replace C1 := C1.alloc (.cells #[.int .i64 S2.lo, .int .i64 S2.hi] 23)
          replace hb := hb.alloc hb.size (.cells #[.int .i64 S2.lo, .int .i64 S2.hi] 23)
          refine (hva _).mono ?_
          rintro e w3 ⟨rfl, hb3⟩
          replace BA := BA.step hb3
          replace BB := BB.step hb3
          replace C1 := C1.step hb3
          replace C2 := C2.step hb3
          replace hb := hb.trans (hb3.mono hb.size)
          have cBA := BA.cell
          have cBB := BB.cell
          have cC1 := C1.cell
          have cC2 := C2.cell
          have lBA := BA.lt
          have lBB := BB.lt
          have lC1 := C1.lt
          have lC2 := C2.lt
          go_wp2_with fail
          clear cBA lBA cBB lBB cC1 lC1 cC2 lC2
          refine (hvb _).mono ?_
          rintro e w4 ⟨rfl, hb4⟩
          replace BA := BA.step hb4
          replace BB := BB.step hb4
          replace C1 := C1.step hb4
          replace C2 := C2.step hb4
          replace hb := hb.trans (hb4.mono hb.size)
          have cBA := BA.cell
          have cBB := BB.cell
          have cC1 := C1.cell
          have cC2 := C2.cell
          have lBA := BA.lt
          have lBB := BB.lt
          have lC1 := C1.lt
          have lC2 := C2.lt
          go_wp2_with fail
          clear cBA lBA cBB lBB cC1 lC1 cC2 lC2
          refine (g1 _).mono ?_
          rintro e w5 ⟨rfl, hb5⟩
          replace BA := BA.step hb5
          replace BB := BB.step hb5
          replace C1 := C1.step hb5
          replace C2 := C2.step hb5
          replace hb := hb.trans (hb5.mono hb.size)
          have cBA := BA.cell
          have cBB := BB.cell
          have cC1 := C1.cell
          have cC2 := C2.cell
          have lBA := BA.lt
          have lBB := BB.lt
          have lC1 := C1.lt
          have lC2 := C2.lt
          go_wp2_with fail
          clear cBA lBA cBB lBB cC1 lC1 cC2 lC2
          refine (g3 _).mono ?_
          rintro e w6 ⟨rfl, hb6⟩
          replace BA := BA.step hb6
          replace BB := BB.step hb6
          replace C1 := C1.step hb6
          replace C2 := C2.step hb6
          replace hb := hb.trans (hb6.mono hb.size)
          have cBA := BA.cell
          have cBB := BB.cell
          have cC1 := C1.cell
          have cC2 := C2.cell
          have lBA := BA.lt
          have lBB := BB.lt
          have lC1 := C1.lt
          have lC2 := C2.lt
          go_wp2_with fail
          clear cBA lBA cBB lBB cC1 lC1 cC2 lC2
          refine (g1 _).mono ?_
          rintro e w7 ⟨rfl, hb7⟩
          replace BA := BA.step hb7
          replace BB := BB.step hb7
          replace C1 := C1.step hb7
          replace C2 := C2.step hb7
          replace hb := hb.trans (hb7.mono hb.size)
          have cBA := BA.cell
          have cBB := BB.cell
          have cC1 := C1.cell
          have cC2 := C2.cell
          have lBA := BA.lt
          have lBB := BB.lt
          have lC1 := C1.lt
          have lC2 := C2.lt
          go_wp2_with fail
          clear cBA lBA cBB lBB cC1 lC1 cC2 lC2
          refine (g2 _).mono ?_
          rintro e w8 ⟨rfl, hb8⟩
          replace BA := BA.step hb8
          replace BB := BB.step hb8
          replace C1 := C1.step hb8
          replace C2 := C2.step hb8
          replace hb := hb.trans (hb8.mono hb.size)
          have cBA := BA.cell
          have cBB := BB.cell
          have cC1 := C1.cell
          have cC2 := C2.cell
          have lBA := BA.lt
          have lBB := BB.lt
          have lC1 := C1.lt
          have lC2 := C2.lt
          go_wp2_with fail
          clear cBA lBA cBB lBB cC1 lC1 cC2 lC2
          have cBA := BA.cell
          have cBB := BB.cell
          have cC1 := C1.cell
          have cC2 := C2.cell
          have lBA := BA.lt
          have lBB := BB.lt
          have lC1 := C1.lt
          have lC2 := C2.lt
          go_wp2_with (go_at_call 17; refine (awake_any _).mono ?_; rintro e wa ⟨rfl, hba⟩)
          all_goals go_ret
          all_goals first
            | (exfalso; have z1 := K4.out; have z2 := K5.out; simp at *; omega)
            | exact ⟨by simp, hb.trans (hba.mono hb.size)⟩
        | true =>
          obtain rfl : r = false := q2
          obtain rfl : t = true := q3 rfl
          clear q3
          go_enter Try.func11, Try.ntmps11
          go_wp2_with fail
          refine (h1 _).mono ?_
          rintro e w1 ⟨rfl, hb1⟩
          replace BA := BA.step hb1
          replace BB := BB.step hb1
          replace hb := hb.trans (hb1.mono hb.size)
          have cBA := BA.cell
          have cBB := BB.cell
          have lBA := BA.lt
          have lBB := BB.lt
          go_wp2_with fail
          clear cBA lBA cBB lBB
          have C1 := Blk.new w1 23 #[.int .i64 S1.lo, .int .i64 S1.hi]
          replace BA := BA.alloc (.cells #[.int .i64 S1.lo, .int .i64 S1.hi] 23)
          replace BB := BB.alloc (.cells #[.int .i64 S1.lo, .int .i64 S1.hi] 23)
          replace hb := hb.alloc hb.size (.cells #[.int .i64 S1.lo, .int .i64 S1.hi] 23)
          refine (h2 _).mono ?_
          rintro e w2 ⟨rfl, hb2⟩
          replace BA := BA.step hb2
          replace BB := BB.step hb2
          replace C1 := C1.step hb2
          replace hb := hb.trans (hb2.mono hb.size)
          have cBA := BA.cell
          have cBB := BB.cell
          have cC1 := C1.cell
          have lBA := BA.lt
          have lBB := BB.lt
          have lC1 := C1.lt
          go_wp2_with fail
          clear cBA lBA cBB lBB cC1 lC1
          have C2 := Blk.new w2 23 #[.int .i64 S2.lo, .int .i64 S2.hi]
          replace BA := BA.alloc (.cells #[.int .i64 S2.lo, .int .i64 S2.hi] 23)
          replace BB := BB.alloc (.cells #[.int .i64 S2.lo, .int .i64 S2.hi] 23)
          replace C1 := C1.alloc (.cells #[.int .i64 S2.lo, .int .i64 S2.hi] 23)
          replace hb := hb.alloc hb.size (.cells #[.int .i64 S2.lo, .int .i64 S2.hi] 23)
          refine (hva _).mono ?_
          rintro e w3 ⟨rfl, hb3⟩
          replace BA := BA.step hb3
          replace BB := BB.step hb3
          replace C1 := C1.step hb3
          replace C2 := C2.step hb3
          replace hb := hb.trans (hb3.mono hb.size)
          have cBA := BA.cell
          have cBB := BB.cell
          have cC1 := C1.cell
          have cC2 := C2.cell
          have lBA := BA.lt
          have lBB := BB.lt
          have lC1 := C1.lt
          have lC2 := C2.lt
          go_wp2_with fail
          clear cBA lBA cBB lBB cC1 lC1 cC2 lC2
          refine (hvb _).mono ?_
          rintro e w4 ⟨rfl, hb4⟩
          replace BA := BA.step hb4
          replace BB := BB.step hb4
          replace C1 := C1.step hb4
          replace C2 := C2.step hb4
          replace hb := hb.trans (hb4.mono hb.size)
          have cBA := BA.cell
          have cBB := BB.cell
          have cC1 := C1.cell
          have cC2 := C2.cell
          have lBA := BA.lt
          have lBB := BB.lt
          have lC1 := C1.lt
          have lC2 := C2.lt
          go_wp2_with fail
          clear cBA lBA cBB lBB cC1 lC1 cC2 lC2
          refine (g1 _).mono ?_
          rintro e w5 ⟨rfl, hb5⟩
          replace BA := BA.step hb5
          replace BB := BB.step hb5
          replace C1 := C1.step hb5
          replace C2 := C2.step hb5
          replace hb := hb.trans (hb5.mono hb.size)
          have cBA := BA.cell
          have cBB := BB.cell
          have cC1 := C1.cell
          have cC2 := C2.cell
          have lBA := BA.lt
          have lBB := BB.lt
          have lC1 := C1.lt
          have lC2 := C2.lt
          go_wp2_with fail
          clear cBA lBA cBB lBB cC1 lC1 cC2 lC2
          refine (g3 _).mono ?_
          rintro e w6 ⟨rfl, hb6⟩
          replace BA := BA.step hb6
          replace BB := BB.step hb6
          replace C1 := C1.step hb6
          replace C2 := C2.step hb6
          replace hb := hb.trans (hb6.mono hb.size)
          have cBA := BA.cell
          have cBB := BB.cell
          have cC1 := C1.cell
          have cC2 := C2.cell
          have lBA := BA.lt
          have lBB := BB.lt
          have lC1 := C1.lt
          have lC2 := C2.lt
          go_wp2_with fail
          clear cBA lBA cBB lBB cC1 lC1 cC2 lC2
          refine (g1 _).mono ?_
          rintro e w7 ⟨rfl, hb7⟩
          replace BA := BA.step hb7
          replace BB := BB.step hb7
          replace C1 := C1.step hb7
          replace C2 := C2.step hb7
          replace hb := hb.trans (hb7.mono hb.size)
          have cBA := BA.cell
          have cBB := BB.cell
          have cC1 := C1.cell
          have cC2 := C2.cell
          have lBA := BA.lt
          have lBB := BB.lt
          have lC1 := C1.lt
          have lC2 := C2.lt
          go_wp2_with fail
          clear cBA lBA cBB lBB cC1 lC1 cC2 lC2
          refine (g2 _).mono ?_
          rintro e w8 ⟨rfl, hb8⟩
          replace BA := BA.step hb8
          replace BB := BB.step hb8
          replace C1 := C1.step hb8
          replace C2 := C2.step hb8
          replace hb := hb.trans (hb8.mono hb.size)
          have cBA := BA.cell
          have cBB := BB.cell
          have cC1 := C1.cell
          have cC2 := C2.cell
          have lBA := BA.lt
          have lBB := BB.lt
          have lC1 := C1.lt
          have lC2 := C2.lt
          go_wp2_with fail
          clear cBA lBA cBB lBB cC1 lC1 cC2 lC2
          refine (g4 _).mono ?_
          rintro e w9 ⟨rfl, hb9⟩
          replace BA := BA.step hb9
          replace BB := BB.step hb9
          replace C1 := C1.step hb9
          replace C2 := C2.step hb9
          replace hb := hb.trans (hb9.mono hb.size)
          have cBA := BA.cell
          have cBB := BB.cell
          have cC1 := C1.cell
          have cC2 := C2.cell
          have lBA := BA.lt
          have lBB := BB.lt
          have lC1 := C1.lt
          have lC2 := C2.lt
          go_wp2_with (go_at_call 17; refine (awake_any _).mono ?_; rintro e wa ⟨rfl, hba⟩)
          all_goals go_ret
          all_goals first
            | (exfalso; have z1 := K4.out; have z2 := K5.out; simp at *; omega)
            | exact ⟨by simp, hb.trans (hba.mono hb.size)⟩
      | true => cases q with
        | false =>
          obtain rfl : r = false := q2
          obtain rfl : t = true := q3 rfl
          clear q3
          go_enter Try.func11, Try.ntmps11
          go_wp2_with fail
          refine (h1 _).mono ?_
          rintro e w1 ⟨rfl, hb1⟩
          replace BA := BA.step hb1
          replace BB := BB.step hb1
          replace hb := hb.trans (hb1.mono hb.size)
          have cBA := BA.cell
          have cBB := BB.cell
          have lBA := BA.lt
          have lBB := BB.lt
          go_wp2_with fail
          clear cBA lBA cBB lBB
          have C1 := Blk.new w1 23 #[.int .i64 S1.lo, .int .i64 S1.hi]
          replace BA := BA.alloc (.cells #[.int .i64 S1.lo, .int .i64 S1.hi] 23)
          replace BB := BB.alloc (.cells #[.int .i64 S1.lo, .int .i64 S1.hi] 23)
          replace hb := hb.alloc hb.size (.cells #[.int .i64 S1.lo, .int .i64 S1.hi] 23)
          refine (h2 _).mono ?_
          rintro e w2 ⟨rfl, hb2⟩
          replace BA := BA.step hb2
          replace BB := BB.step hb2
          replace C1 := C1.step hb2
          replace hb := hb.trans (hb2.mono hb.size)
          have cBA := BA.cell
          have cBB := BB.cell
          have cC1 := C1.cell
          have lBA := BA.lt
          have lBB := BB.lt
          have lC1 := C1.lt
          go_wp2_with fail
          clear cBA lBA cBB lBB cC1 lC1
          have C2 := Blk.new w2 23 #[.int .i64 S2.lo, .int .i64 S2.hi]
          replace BA := BA.alloc (.cells #[.int .i64 S2.lo, .int .i64 S2.hi] 23)
          replace BB := BB.alloc (.cells #[.int .i64 S2.lo, .int .i64 S2.hi] 23)
          replace C1 := C1.alloc (.cells #[.int .i64 S2.lo, .int .i64 S2.hi] 23)
          replace hb := hb.alloc hb.size (.cells #[.int .i64 S2.lo, .int .i64 S2.hi] 23)
          refine (hva _).mono ?_
          rintro e w3 ⟨rfl, hb3⟩
          replace BA := BA.step hb3
          replace BB := BB.step hb3
          replace C1 := C1.step hb3
          replace C2 := C2.step hb3
          replace hb := hb.trans (hb3.mono hb.size)
          have cBA := BA.cell
          have cBB := BB.cell
          have cC1 := C1.cell
          have cC2 := C2.cell
          have lBA := BA.lt
          have lBB := BB.lt
          have lC1 := C1.lt
          have lC2 := C2.lt
          go_wp2_with fail
          clear cBA lBA cBB lBB cC1 lC1 cC2 lC2
          refine (hvb _).mono ?_
          rintro e w4 ⟨rfl, hb4⟩
          replace BA := BA.step hb4
          replace BB := BB.step hb4
          replace C1 := C1.step hb4
          replace C2 := C2.step hb4
          replace hb := hb.trans (hb4.mono hb.size)
          have cBA := BA.cell
          have cBB := BB.cell
          have cC1 := C1.cell
          have cC2 := C2.cell
          have lBA := BA.lt
          have lBB := BB.lt
          have lC1 := C1.lt
          have lC2 := C2.lt
          go_wp2_with fail
          clear cBA lBA cBB lBB cC1 lC1 cC2 lC2
          refine (g1 _).mono ?_
          rintro e w5 ⟨rfl, hb5⟩
          replace BA := BA.step hb5
          replace BB := BB.step hb5
          replace C1 := C1.step hb5
          replace C2 := C2.step hb5
          replace hb := hb.trans (hb5.mono hb.size)
          have cBA := BA.cell
          have cBB := BB.cell
          have cC1 := C1.cell
          have cC2 := C2.cell
          have lBA := BA.lt
          have lBB := BB.lt
          have lC1 := C1.lt
          have lC2 := C2.lt
          go_wp2_with fail
          clear cBA lBA cBB lBB cC1 lC1 cC2 lC2
          refine (g2 _).mono ?_
          rintro e w6 ⟨rfl, hb6⟩
          replace BA := BA.step hb6
          replace BB := BB.step hb6
          replace C1 := C1.step hb6
          replace C2 := C2.step hb6
          replace hb := hb.trans (hb6.mono hb.size)
          have cBA := BA.cell
          have cBB := BB.cell
          have cC1 := C1.cell
          have cC2 := C2.cell
          have lBA := BA.lt
          have lBB := BB.lt
          have lC1 := C1.lt
          have lC2 := C2.lt
          go_wp2_with fail
          clear cBA lBA cBB lBB cC1 lC1 cC2 lC2
          refine (g3 _).mono ?_
          rintro e w7 ⟨rfl, hb7⟩
          replace BA := BA.step hb7
          replace BB := BB.step hb7
          replace C1 := C1.step hb7
          replace C2 := C2.step hb7
          replace hb := hb.trans (hb7.mono hb.size)
          have cBA := BA.cell
          have cBB := BB.cell
          have cC1 := C1.cell
          have cC2 := C2.cell
          have lBA := BA.lt
          have lBB := BB.lt
          have lC1 := C1.lt
          have lC2 := C2.lt
          go_wp2_with fail
          clear cBA lBA cBB lBB cC1 lC1 cC2 lC2
          refine (g1 _).mono ?_
          rintro e w8 ⟨rfl, hb8⟩
          replace BA := BA.step hb8
          replace BB := BB.step hb8
          replace C1 := C1.step hb8
          replace C2 := C2.step hb8
          replace hb := hb.trans (hb8.mono hb.size)
          have cBA := BA.cell
          have cBB := BB.cell
          have cC1 := C1.cell
          have cC2 := C2.cell
          have lBA := BA.lt
          have lBB := BB.lt
          have lC1 := C1.lt
          have lC2 := C2.lt
          go_wp2_with fail
          clear cBA lBA cBB lBB cC1 lC1 cC2 lC2
          refine (g4 _).mono ?_
          rintro e w9 ⟨rfl, hb9⟩
          replace BA := BA.step hb9
          replace BB := BB.step hb9
          replace C1 := C1.step hb9
          replace C2 := C2.step hb9
          replace hb := hb.trans (hb9.mono hb.size)
          have cBA := BA.cell
          have cBB := BB.cell
          have cC1 := C1.cell
          have cC2 := C2.cell
          have lBA := BA.lt
          have lBB := BB.lt
          have lC1 := C1.lt
          have lC2 := C2.lt
          go_wp2_with (go_at_call 17; refine (awake_any _).mono ?_; rintro e wa ⟨rfl, hba⟩)
          all_goals go_ret
          all_goals first
            | (exfalso; have z1 := K4.out; have z2 := K5.out; simp at *; omega)
            | exact ⟨by simp, hb.trans (hba.mono hb.size)⟩
        | true =>
          obtain rfl : r = true := q2
          obtain rfl : t = true := q3 rfl
          clear q3
          go_enter Try.func11, Try.ntmps11
          go_wp2_with fail
          refine (h1 _).mono ?_
          rintro e w1 ⟨rfl, hb1⟩
          replace BA := BA.step hb1
          replace BB := BB.step hb1
          replace hb := hb.trans (hb1.mono hb.size)
          have cBA := BA.cell
          have cBB := BB.cell
          have lBA := BA.lt
          have lBB := BB.lt
          go_wp2_with fail
          clear cBA lBA cBB lBB
          have C1 := Blk.new w1 23 #[.int .i64 S1.lo, .int .i64 S1.hi]
          replace BA := BA.alloc (.cells #[.int .i64 S1.lo, .int .i64 S1.hi] 23)
          replace BB := BB.alloc (.cells #[.int .i64 S1.lo, .int .i64 S1.hi] 23)
          replace hb := hb.alloc hb.size (.cells #[.int .i64 S1.lo, .int .i64 S1.hi] 23)
          refine (h2 _).mono ?_
          rintro e w2 ⟨rfl, hb2⟩
          replace BA := BA.step hb2
          replace BB := BB.step hb2
          replace C1 := C1.step hb2
          replace hb := hb.trans (hb2.mono hb.size)
          have cBA := BA.cell
          have cBB := BB.cell
          have cC1 := C1.cell
          have lBA := BA.lt
          have lBB := BB.lt
          have lC1 := C1.lt
          go_wp2_with fail
          clear cBA lBA cBB lBB cC1 lC1
          have C2 := Blk.new w2 23 #[.int .i64 S2.lo, .int .i64 S2.hi]
          replace BA := BA.alloc (.cells #[.int .i64 S2.lo, .int .i64 S2.hi] 23)
          replace BB := BB.alloc (.cells #[.int .i64 S2.lo, .int .i64 S2.hi] 23)
          replace C1 := C1.alloc (.cells #[.int .i64 S2.lo, .int .i64 S2.hi] 23)
          replace hb := hb.alloc hb.size (.cells #[.int .i64 S2.lo, .int .i64 S2.hi] 23)
          refine (hva _).mono ?_
          rintro e w3 ⟨rfl, hb3⟩
          replace BA := BA.step hb3
          replace BB := BB.step hb3
          replace C1 := C1.step hb3
          replace C2 := C2.step hb3
          replace hb := hb.trans (hb3.mono hb.size)
          have cBA := BA.cell
          have cBB := BB.cell
          have cC1 := C1.cell
          have cC2 := C2.cell
          have lBA := BA.lt
          have lBB := BB.lt
          have lC1 := C1.lt
          have lC2 := C2.lt
          go_wp2_with fail
          clear cBA lBA cBB lBB cC1 lC1 cC2 lC2
          refine (hvb _).mono ?_
          rintro e w4 ⟨rfl, hb4⟩
          replace BA := BA.step hb4
          replace BB := BB.step hb4
          replace C1 := C1.step hb4
          replace C2 := C2.step hb4
          replace hb := hb.trans (hb4.mono hb.size)
          have cBA := BA.cell
          have cBB := BB.cell
          have cC1 := C1.cell
          have cC2 := C2.cell
          have lBA := BA.lt
          have lBB := BB.lt
          have lC1 := C1.lt
          have lC2 := C2.lt
          go_wp2_with fail
          clear cBA lBA cBB lBB cC1 lC1 cC2 lC2
          refine (g1 _).mono ?_
          rintro e w5 ⟨rfl, hb5⟩
          replace BA := BA.step hb5
          replace BB := BB.step hb5
          replace C1 := C1.step hb5
          replace C2 := C2.step hb5
          replace hb := hb.trans (hb5.mono hb.size)
          have cBA := BA.cell
          have cBB := BB.cell
          have cC1 := C1.cell
          have cC2 := C2.cell
          have lBA := BA.lt
          have lBB := BB.lt
          have lC1 := C1.lt
          have lC2 := C2.lt
          go_wp2_with fail
          clear cBA lBA cBB lBB cC1 lC1 cC2 lC2
          refine (g2 _).mono ?_
          rintro e w6 ⟨rfl, hb6⟩
          replace BA := BA.step hb6
          replace BB := BB.step hb6
          replace C1 := C1.step hb6
          replace C2 := C2.step hb6
          replace hb := hb.trans (hb6.mono hb.size)
          have cBA := BA.cell
          have cBB := BB.cell
          have cC1 := C1.cell
          have cC2 := C2.cell
          have lBA := BA.lt
          have lBB := BB.lt
          have lC1 := C1.lt
          have lC2 := C2.lt
          go_wp2_with fail
          clear cBA lBA cBB lBB cC1 lC1 cC2 lC2
          refine (g3 _).mono ?_
          rintro e w7 ⟨rfl, hb7⟩
          replace BA := BA.step hb7
          replace BB := BB.step hb7
          replace C1 := C1.step hb7
          replace C2 := C2.step hb7
          replace hb := hb.trans (hb7.mono hb.size)
          have cBA := BA.cell
          have cBB := BB.cell
          have cC1 := C1.cell
          have cC2 := C2.cell
          have lBA := BA.lt
          have lBB := BB.lt
          have lC1 := C1.lt
          have lC2 := C2.lt
          go_wp2_with fail
          clear cBA lBA cBB lBB cC1 lC1 cC2 lC2
          refine (g1 _).mono ?_
          rintro e w8 ⟨rfl, hb8⟩
          replace BA := BA.step hb8
          replace BB := BB.step hb8
          replace C1 := C1.step hb8
          replace C2 := C2.step hb8
          replace hb := hb.trans (hb8.mono hb.size)
          have cBA := BA.cell
          have cBB := BB.cell
          have cC1 := C1.cell
          have cC2 := C2.cell
          have lBA := BA.lt
          have lBB := BB.lt
          have lC1 := C1.lt
          have lC2 := C2.lt
          go_wp2_with fail
          clear cBA lBA cBB lBB cC1 lC1 cC2 lC2
          refine (g4 _).mono ?_
          rintro e w9 ⟨rfl, hb9⟩
          replace BA := BA.step hb9
          replace BB := BB.step hb9
          replace C1 := C1.step hb9
          replace C2 := C2.step hb9
          replace hb := hb.trans (hb9.mono hb.size)
          have cBA := BA.cell
          have cBB := BB.cell
          have cC1 := C1.cell
          have cC2 := C2.cell
          have lBA := BA.lt
          have lBB := BB.lt
          have lC1 := C1.lt
          have lC2 := C2.lt
          go_wp2_with (go_at_call 17; refine (awake_any _).mono ?_; rintro e wa ⟨rfl, hba⟩)
          all_goals go_ret
          all_goals first
            | (exfalso; have z1 := K4.out; have z2 := K5.out; simp at *; omega)
            | exact ⟨by simp, hb.trans (hba.mono hb.size)⟩
    · cases p with
      | false => cases q with
        | false =>
          clear q2
          clear q3
          go_enter Try.func11, Try.ntmps11
          go_wp2_with fail
          refine (h1 _).mono ?_
          rintro e w1 ⟨rfl, hb1⟩
          replace BA := BA.step hb1
          replace BB := BB.step hb1
          replace hb := hb.trans (hb1.mono hb.size)
          have cBA := BA.cell
          have cBB := BB.cell
          have lBA := BA.lt
          have lBB := BB.lt
          go_wp2_with fail
          clear cBA lBA cBB lBB
          have C1 := Blk.new w1 23 #[.int .i64 S1.lo, .int .i64 S1.hi]
          replace BA := BA.alloc (.cells #[.int .i64 S1.lo, .int .i64 S1.hi] 23)
          replace BB := BB.alloc (.cells #[.int .i64 S1.lo, .int .i64 S1.hi] 23)
          replace hb := hb.alloc hb.size (.cells #[.int .i64 S1.lo, .int .i64 S1.hi] 23)
          refine (h2 _).mono ?_
          rintro e w2 ⟨rfl, hb2⟩
          replace BA := BA.step hb2
          replace BB := BB.step hb2
          replace C1 := C1.step hb2
          replace hb := hb.trans (hb2.mono hb.size)
          have cBA := BA.cell
          have cBB := BB.cell
          have cC1 := C1.cell
          have lBA := BA.lt
          have lBB := BB.lt
          have lC1 := C1.lt
          go_wp2_with fail
          clear cBA lBA cBB lBB cC1 lC1
          have C2 := Blk.new w2 23 #[.int .i64 S2.lo, .int .i64 S2.hi]
          replace BA := BA.alloc (.cells #[.int .i64 S2.lo, .int .i64 S2.hi] 23)
          replace BB := BB.alloc (.cells #[.int .i64 S2.lo, .int .i64 S2.hi] 23)
          replace C1 := C1.alloc (.cells #[.int .i64 S2.lo, .int .i64 S2.hi] 23)
          replace hb := hb.alloc hb.size (.cells #[.int .i64 S2.lo, .int .i64 S2.hi] 23)
          refine (hva _).mono ?_
          rintro e w3 ⟨rfl, hb3⟩
          replace BA := BA.step hb3
          replace BB := BB.step hb3
          replace C1 := C1.step hb3
          replace C2 := C2.step hb3
          replace hb := hb.trans (hb3.mono hb.size)
          have cBA := BA.cell
          have cBB := BB.cell
          have cC1 := C1.cell
          have cC2 := C2.cell
          have lBA := BA.lt
          have lBB := BB.lt
          have lC1 := C1.lt
          have lC2 := C2.lt
          go_wp2_with fail
          clear cBA lBA cBB lBB cC1 lC1 cC2 lC2
          refine (hvb _).mono ?_
          rintro e w4 ⟨rfl, hb4⟩
          replace BA := BA.step hb4
          replace BB := BB.step hb4
          replace C1 := C1.step hb4
          replace C2 := C2.step hb4
          replace hb := hb.trans (hb4.mono hb.size)
          have cBA := BA.cell
          have cBB := BB.cell
          have cC1 := C1.cell
          have cC2 := C2.cell
          have lBA := BA.lt
          have lBB := BB.lt
          have lC1 := C1.lt
          have lC2 := C2.lt
          go_wp2_with fail
          clear cBA lBA cBB lBB cC1 lC1 cC2 lC2
          refine (g1 _).mono ?_
          rintro e w5 ⟨rfl, hb5⟩
          replace BA := BA.step hb5
          replace BB := BB.step hb5
          replace C1 := C1.step hb5
          replace C2 := C2.step hb5
          replace hb := hb.trans (hb5.mono hb.size)
          have cBA := BA.cell
          have cBB := BB.cell
          have cC1 := C1.cell
          have cC2 := C2.cell
          have lBA := BA.lt
          have lBB := BB.lt
          have lC1 := C1.lt
          have lC2 := C2.lt
          go_wp2_with fail
          clear cBA lBA cBB lBB cC1 lC1 cC2 lC2
          refine (g1 _).mono ?_
          rintro e w6 ⟨rfl, hb6⟩
          replace BA := BA.step hb6
          replace BB := BB.step hb6
          replace C1 := C1.step hb6
          replace C2 := C2.step hb6
          replace hb := hb.trans (hb6.mono hb.size)
          have cBA := BA.cell
          have cBB := BB.cell
          have cC1 := C1.cell
          have cC2 := C2.cell
          have lBA := BA.lt
          have lBB := BB.lt
          have lC1 := C1.lt
          have lC2 := C2.lt
          go_wp2_with fail
          clear cBA lBA cBB lBB cC1 lC1 cC2 lC2
          refine (g2 _).mono ?_
          rintro e w7 ⟨rfl, hb7⟩
          replace BA := BA.step hb7
          replace BB := BB.step hb7
          replace C1 := C1.step hb7
          replace C2 := C2.step hb7
          replace hb := hb.trans (hb7.mono hb.size)
          have cBA := BA.cell
          have cBB := BB.cell
          have cC1 := C1.cell
          have cC2 := C2.cell
          have lBA := BA.lt
          have lBB := BB.lt
          have lC1 := C1.lt
          have lC2 := C2.lt
          go_wp2_with fail
          clear cBA lBA cBB lBB cC1 lC1 cC2 lC2
          have cBA := BA.cell
          have cBB := BB.cell
          have cC1 := C1.cell
          have cC2 := C2.cell
          have lBA := BA.lt
          have lBB := BB.lt
          have lC1 := C1.lt
          have lC2 := C2.lt
          go_wp2_with (go_at_call 17; refine (awake_any _).mono ?_; rintro e wa ⟨rfl, hba⟩)
          all_goals go_ret
          all_goals first
            | (exfalso; have z1 := K4.out; have z2 := K5.out; simp at *; omega)
            | exact ⟨by simp, hb.trans (hba.mono hb.size)⟩
        | true =>
          clear q2
          obtain rfl : t = true := q3 rfl
          clear q3
          go_enter Try.func11, Try.ntmps11
          go_wp2_with fail
          refine (h1 _).mono ?_
          rintro e w1 ⟨rfl, hb1⟩
          replace BA := BA.step hb1
          replace BB := BB.step hb1
          replace hb := hb.trans (hb1.mono hb.size)
          have cBA := BA.cell
          have cBB := BB.cell
          have lBA := BA.lt
          have lBB := BB.lt
          go_wp2_with fail
          clear cBA lBA cBB lBB
          have C1 := Blk.new w1 23 #[.int .i64 S1.lo, .int .i64 S1.hi]
          replace BA := BA.alloc (.cells #[.int .i64 S1.lo, .int .i64 S1.hi] 23)
          replace BB := BB.alloc (.cells #[.int .i64 S1.lo, .int .i64 S1.hi] 23)
          replace hb := hb.alloc hb.size (.cells #[.int .i64 S1.lo, .int .i64 S1.hi] 23)
          refine (h2 _).mono ?_
          rintro e w2 ⟨rfl, hb2⟩
          replace BA := BA.step hb2
          replace BB := BB.step hb2
          replace C1 := C1.step hb2
          replace hb := hb.trans (hb2.mono hb.size)
          have cBA := BA.cell
          have cBB := BB.cell
          have cC1 := C1.cell
          have lBA := BA.lt
          have lBB := BB.lt
          have lC1 := C1.lt
          go_wp2_with fail
          clear cBA lBA cBB lBB cC1 lC1
          have C2 := Blk.new w2 23 #[.int .i64 S2.lo, .int .i64 S2.hi]
          replace BA := BA.alloc (.cells #[.int .i64 S2.lo, .int .i64 S2.hi] 23)
          replace BB := BB.alloc (.cells #[.int .i64 S2.lo, .int .i64 S2.hi] 23)
          replace C1 := C1.alloc (.cells #[.int .i64 S2.lo, .int .i64 S2.hi] 23)
          replace hb := hb.alloc hb.size (.cells #[.int .i64 S2.lo, .int .i64 S2.hi] 23)
          refine (hva _).mono ?_
          rintro e w3 ⟨rfl, hb3⟩
          replace BA := BA.step hb3
          replace BB := BB.step hb3
          replace C1 := C1.step hb3
          replace C2 := C2.step hb3
          replace hb := hb.trans (hb3.mono hb.size)
          have cBA := BA.cell
          have cBB := BB.cell
          have cC1 := C1.cell
          have cC2 := C2.cell
          have lBA := BA.lt
          have lBB := BB.lt
          have lC1 := C1.lt
          have lC2 := C2.lt
          go_wp2_with fail
          clear cBA lBA cBB lBB cC1 lC1 cC2 lC2
          refine (hvb _).mono ?_
          rintro e w4 ⟨rfl, hb4⟩
          replace BA := BA.step hb4
          replace BB := BB.step hb4
          replace C1 := C1.step hb4
          replace C2 := C2.step hb4
          replace hb := hb.trans (hb4.mono hb.size)
          have cBA := BA.cell
          have cBB := BB.cell
          have cC1 := C1.cell
          have cC2 := C2.cell
          have lBA := BA.lt
          have lBB := BB.lt
          have lC1 := C1.lt
          have lC2 := C2.lt
          go_wp2_with fail
          clear cBA lBA cBB lBB cC1 lC1 cC2 lC2
          refine (g1 _).mono ?_
          rintro e w5 ⟨rfl, hb5⟩
          replace BA := BA.step hb5
          replace BB := BB.step hb5
          replace C1 := C1.step hb5
          replace C2 := C2.step hb5
          replace hb := hb.trans (hb5.mono hb.size)
          have cBA := BA.cell
          have cBB := BB.cell
          have cC1 := C1.cell
          have cC2 := C2.cell
          have lBA := BA.lt
          have lBB := BB.lt
          have lC1 := C1.lt
          have lC2 := C2.lt
          go_wp2_with fail
          clear cBA lBA cBB lBB cC1 lC1 cC2 lC2
          refine (g1 _).mono ?_
          rintro e w6 ⟨rfl, hb6⟩
          replace BA := BA.step hb6
          replace BB := BB.step hb6
          replace C1 := C1.step hb6
          replace C2 := C2.step hb6
          replace hb := hb.trans (hb6.mono hb.size)
          have cBA := BA.cell
          have cBB := BB.cell
          have cC1 := C1.cell
          have cC2 := C2.cell
          have lBA := BA.lt
          have lBB := BB.lt
          have lC1 := C1.lt
          have lC2 := C2.lt
          go_wp2_with fail
          clear cBA lBA cBB lBB cC1 lC1 cC2 lC2
          refine (g2 _).mono ?_
          rintro e w7 ⟨rfl, hb7⟩
          replace BA := BA.step hb7
          replace BB := BB.step hb7
          replace C1 := C1.step hb7
          replace C2 := C2.step hb7
          replace hb := hb.trans (hb7.mono hb.size)
          have cBA := BA.cell
          have cBB := BB.cell
          have cC1 := C1.cell
          have cC2 := C2.cell
          have lBA := BA.lt
          have lBB := BB.lt
          have lC1 := C1.lt
          have lC2 := C2.lt
          go_wp2_with fail
          clear cBA lBA cBB lBB cC1 lC1 cC2 lC2
          refine (g4 _).mono ?_
          rintro e w8 ⟨rfl, hb8⟩
          replace BA := BA.step hb8
          replace BB := BB.step hb8
          replace C1 := C1.step hb8
          replace C2 := C2.step hb8
          replace hb := hb.trans (hb8.mono hb.size)
          have cBA := BA.cell
          have cBB := BB.cell
          have cC1 := C1.cell
          have cC2 := C2.cell
          have lBA := BA.lt
          have lBB := BB.lt
          have lC1 := C1.lt
          have lC2 := C2.lt
          go_wp2_with (go_at_call 17; refine (awake_any _).mono ?_; rintro e wa ⟨rfl, hba⟩)
          all_goals go_ret
          all_goals first
            | (exfalso; have z1 := K4.out; have z2 := K5.out; simp at *; omega)
            | exact ⟨by simp, hb.trans (hba.mono hb.size)⟩
      | true => cases q with
        | false =>
          clear q2
          obtain rfl : t = true := q3 rfl
          clear q3
          go_enter Try.func11, Try.ntmps11
          go_wp2_with fail
          refine (h1 _).mono ?_
          rintro e w1 ⟨rfl, hb1⟩
          replace BA := BA.step hb1
          replace BB := BB.step hb1
          replace hb := hb.trans (hb1.mono hb.size)
          have cBA := BA.cell
          have cBB := BB.cell
          have lBA := BA.lt
          have lBB := BB.lt
          go_wp2_with fail
          clear cBA lBA cBB lBB
          have C1 := Blk.new w1 23 #[.int .i64 S1.lo, .int .i64 S1.hi]
          replace BA := BA.alloc (.cells #[.int .i64 S1.lo, .int .i64 S1.hi] 23)
          replace BB := BB.alloc (.cells #[.int .i64 S1.lo, .int .i64 S1.hi] 23)
          replace hb := hb.alloc hb.size (.cells #[.int .i64 S1.lo, .int .i64 S1.hi] 23)
          refine (h2 _).mono ?_
          rintro e w2 ⟨rfl, hb2⟩
          replace BA := BA.step hb2
          replace BB := BB.step hb2
          replace C1 := C1.step hb2
          replace hb := hb.trans (hb2.mono hb.size)
          have cBA := BA.cell
          have cBB := BB.cell
          have cC1 := C1.cell
          have lBA := BA.lt
          have lBB := BB.lt
          have lC1 := C1.lt
          go_wp2_with fail
          clear cBA lBA cBB lBB cC1 lC1
          have C2 := Blk.new w2 23 #[.int .i64 S2.lo, .int .i64 S2.hi]
          replace BA := BA.alloc (.cells #[.int .i64 S2.lo, .int .i64 S2.hi] 23)
          replace BB := BB.alloc (.cells #[.int .i64 S2.lo, .int .i64 S2.hi] 23)
          replace C1 := C1.alloc (.cells #[.int .i64 S2.lo, .int .i64 S2.hi] 23)
          replace hb := hb.alloc hb.size (.cells #[.int .i64 S2.lo, .int .i64 S2.hi] 23)
          refine (hva _).mono ?_
          rintro e w3 ⟨rfl, hb3⟩
          replace BA := BA.step hb3
          replace BB := BB.step hb3
          replace C1 := C1.step hb3
          replace C2 := C2.step hb3
          replace hb := hb.trans (hb3.mono hb.size)
          have cBA := BA.cell
          have cBB := BB.cell
          have cC1 := C1.cell
          have cC2 := C2.cell
          have lBA := BA.lt
          have lBB := BB.lt
          have lC1 := C1.lt
          have lC2 := C2.lt
          go_wp2_with fail
          clear cBA lBA cBB lBB cC1 lC1 cC2 lC2
          refine (hvb _).mono ?_
          rintro e w4 ⟨rfl, hb4⟩
          replace BA := BA.step hb4
          replace BB := BB.step hb4
          replace C1 := C1.step hb4
          replace C2 := C2.step hb4
          replace hb := hb.trans (hb4.mono hb.size)
          have cBA := BA.cell
          have cBB := BB.cell
          have cC1 := C1.cell
          have cC2 := C2.cell
          have lBA := BA.lt
          have lBB := BB.lt
          have lC1 := C1.lt
          have lC2 := C2.lt
          go_wp2_with fail
          clear cBA lBA cBB lBB cC1 lC1 cC2 lC2
          refine (g1 _).mono ?_
          rintro e w5 ⟨rfl, hb5⟩
          replace BA := BA.step hb5
          replace BB := BB.step hb5
          replace C1 := C1.step hb5
          replace C2 := C2.step hb5
          replace hb := hb.trans (hb5.mono hb.size)
          have cBA := BA.cell
          have cBB := BB.cell
          have cC1 := C1.cell
          have cC2 := C2.cell
          have lBA := BA.lt
          have lBB := BB.lt
          have lC1 := C1.lt
          have lC2 := C2.lt
          go_wp2_with fail
          clear cBA lBA cBB lBB cC1 lC1 cC2 lC2
          refine (g2 _).mono ?_
          rintro e w6 ⟨rfl, hb6⟩
          replace BA := BA.step hb6
          replace BB := BB.step hb6
          replace C1 := C1.step hb6
          replace C2 := C2.step hb6
          replace hb := hb.trans (hb6.mono hb.size)
          have cBA := BA.cell
          have cBB := BB.cell
          have cC1 := C1.cell
          have cC2 := C2.cell
          have lBA := BA.lt
          have lBB := BB.lt
          have lC1 := C1.lt
          have lC2 := C2.lt
          go_wp2_with fail
          clear cBA lBA cBB lBB cC1 lC1 cC2 lC2
          refine (g1 _).mono ?_
          rintro e w7 ⟨rfl, hb7⟩
          replace BA := BA.step hb7
          replace BB := BB.step hb7
          replace C1 := C1.step hb7
          replace C2 := C2.step hb7
          replace hb := hb.trans (hb7.mono hb.size)
          have cBA := BA.cell
          have cBB := BB.cell
          have cC1 := C1.cell
          have cC2 := C2.cell
          have lBA := BA.lt
          have lBB := BB.lt
          have lC1 := C1.lt
          have lC2 := C2.lt
          go_wp2_with fail
          clear cBA lBA cBB lBB cC1 lC1 cC2 lC2
          refine (g4 _).mono ?_
          rintro e w8 ⟨rfl, hb8⟩
          replace BA := BA.step hb8
          replace BB := BB.step hb8
          replace C1 := C1.step hb8
          replace C2 := C2.step hb8
          replace hb := hb.trans (hb8.mono hb.size)
          have cBA := BA.cell
          have cBB := BB.cell
          have cC1 := C1.cell
          have cC2 := C2.cell
          have lBA := BA.lt
          have lBB := BB.lt
          have lC1 := C1.lt
          have lC2 := C2.lt
          go_wp2_with (go_at_call 17; refine (awake_any _).mono ?_; rintro e wa ⟨rfl, hba⟩)
          all_goals go_ret
          all_goals first
            | (exfalso; have z1 := K4.out; have z2 := K5.out; simp at *; omega)
            | exact ⟨by simp, hb.trans (hba.mono hb.size)⟩
        | true =>
          cases q2
set_option maxRecDepth 100000 in
theorem spanCommon_lifted (os : Os) (started : os.Started) (H : Type) (enc : TypeId × Value → H) :
    ReturnsInHanded {} Try.checked os 11 .any (Rows.spanCommonSpec.pre6 enc Try.prog Try.f11 Rows.spanCommonRow.domain false) (Rows.spanCommonSpec.post enc Try.prog Try.f11 false true false false) := by
  refine law_of_walk (C := Try.checked) (by kernel_rfl) started (by kernel_rfl) Try.func11
    (ChangeSpec.witness6 (enc := enc) (C := Try.checked) false ⟨#[], #[.agg #[.int .i64 0, .int .i64 0], .agg #[.int .i64 0, .int .i64 0], .int .i64 0], []⟩ 8 (by kernel_rfl) (by kernel_rfl) (by kernel_rfl) (by kernel_rfl))
    (by kernel_rfl) ?_ rfl ?_ rfl Try.underlying4 ?_
  · rw [Try.params11]
    intro t ht
    simp at ht
    rcases ht with rfl | rfl
    · exact ⟨by kernel_rfl, of_decide_eq_true (by kernel_rfl)⟩
    · exact ⟨by kernel_rfl, of_decide_eq_true (by kernel_rfl)⟩
  · rw [Try.params11]
    intro ds hds
    match ds, hds with
    | [d0, d1, d2], _ => rfl
  · intro W base args ds ps hval hA hlt
    rw [Try.params11] at hA hval
    obtain ⟨v0, vs0, d0, ds0, p0, q0, hargs, rfl, rfl, h0, r0⟩ := trodAll_cons hA
    obtain ⟨v1, vs1, d1, ds1, p1, q1, rfl, rfl, rfl, h1, r1⟩ := trodAll_cons r0
    obtain ⟨v2, vs2, d2, ds2, p2, q2, rfl, rfl, rfl, h2, r2⟩ := trodAll_cons r1
    obtain ⟨rfl, rfl, rfl⟩ := trodAll_nil r2
    obtain rfl : args = #[v0, v1, v2] := by cases args; simp_all
    obtain ⟨zs0, rfl, hz0, hh0⟩ := okWide_cells (k := .i64) (hval 0 23 v0 rfl rfl) (.inl ⟨_, Try.underlying23⟩) (show Try.prog.cellTypes Try.prog.depth 23 = some [3, 3] by kernel_rfl) (by intro u hu; simp at hu; subst hu; exact Try.underlying3)
    replace hz0 : zs0.length = 2 := hz0.trans (by kernel_rfl)
    obtain ⟨a0, a1, rfl⟩ := len2 hz0
    obtain ⟨zs1, rfl, hz1, hh1⟩ := okWide_cells (k := .i64) (hval 1 23 v1 rfl rfl) (.inl ⟨_, Try.underlying23⟩) (show Try.prog.cellTypes Try.prog.depth 23 = some [3, 3] by kernel_rfl) (by intro u hu; simp at hu; subst hu; exact Try.underlying3)
    replace hz1 : zs1.length = 2 := hz1.trans (by kernel_rfl)
    obtain ⟨b0, b1, rfl⟩ := len2 hz1
    obtain ⟨x, rfl, hx⟩ := okWide_int1 (hval 2 3 v2 rfl rfl) Try.underlying3
    exact law9 ⟨a0, a1⟩ ⟨b0, b1⟩ x W

theorem spanCommon_holds : Rows.SpanCommonSaid :=
  OpenClaim.holds_of_wide 11 Try.f11 rfl rfl rfl rfl rfl rfl rfl ⟨rfl, rfl, rfl, rfl, rfl⟩ rfl rfl rfl rfl rfl (by kernel_rfl) Try.func11 (by kernel_rfl)
    (of_decide_eq_true (by kernel_rfl)) (by unfold Func.isWrapper; first | (rw [if_pos (by decide +kernel)]; kernel_rfl) | (rw [if_neg (by decide +kernel)]; exact ⟨rfl, rfl⟩))
    (fun os started H enc _ => spanCommon_lifted os started H enc)
#print axioms spanCommon_holds

end Go.Proofs.Ytpclhjkamplmbaa
