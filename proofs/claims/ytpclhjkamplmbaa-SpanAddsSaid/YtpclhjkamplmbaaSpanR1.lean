/- SpanValid, SpanAdds, SpanSums, SpanMeets, SpanWidens: for every input the program and its reference agree. -/
import Derived.Test.YtpclhjkamplmbaaSpanS
namespace Go.Proofs.Ytpclhjkamplmbaa
set_option linter.unusedVariables false
set_option linter.unusedSimpArgs false
open Go.ChangeShapes Go.WideShapes Go.ChangeAt Go.RowKit

set_option maxHeartbeats 1000000 in
theorem law1 (s : Sp) (x : Int) (w : World) : Calls Try.prog 3 #[.agg #[.int .i64 (s).lo, .int .i64 (s).hi], .int .i64 x] w fun e w' => e = .returned (.bool true) ∧ Below w.heap.size w w' := by
  have ha := fun w => valid1_any s w
  have hb := fun w => rvalid_any s w
  have hc := fun w => has_any s x w
  have hd := fun w => rhas_any s x w
  generalize sval s = b at *
  generalize hasV s x = c at *
  have BS := Blk.new w 23 #[.int .i64 s.lo, .int .i64 s.hi]
  have hb0 : Below w.heap.size w (w.alloc (.cells #[.int .i64 s.lo, .int .i64 s.hi] 23)) := by repeat (first | (with_reducible exact Below.refl _ _) | (with_reducible assumption) | (with_reducible refine Below.drew ?_) | ((with_reducible refine Below.alloc ?_ ?_ _); rotate_left; (first | (with_reducible exact Nat.zero_le _) | (with_reducible exact Nat.le_refl _) | omega | (dsimp only; omega) | (simp only [World.size_alloc, World.size_setCell, World.size_drew]; omega))) | ((with_reducible refine Below.setCell ?_ ?_ _); rotate_left; (first | (with_reducible exact Nat.zero_le _) | (with_reducible exact Nat.le_refl _) | omega | (dsimp only; omega) | (simp only [World.size_alloc, World.size_setCell, World.size_drew]; omega))))
  go_enter Try.func3, Try.ntmps3
  go_wp2_with fail
  generalize w.alloc (.cells #[.int .i64 s.lo, .int .i64 s.hi] 23) = w1 at *
  have c2 : ∀ y : BW w1, ∀ j, y.w.cell? ⟨w.heap.size, j, none⟩ = #[.int .i64 s.lo, .int .i64 s.hi][j]? := fun y => (BS.bw y).cell
  refine wp_region_calm (by kernel_rfl) (by kernel_rfl) ?_
  repeat (go_big_quiet_step (fail))
  go_big_quiet_want; go_big_quiet_op; go_big_quiet_call (exact calls_bw ha _)
  repeat (go_big_quiet_step (fail))
  go_big_quiet_want; go_big_quiet_op; go_big_quiet_call (exact calls_bw hb _)
  repeat (go_big_quiet_step (fail))
  go_big_quiet_want; go_big_quiet_op; go_big_quiet_call (exact calls_bw hc _)
  repeat (go_big_quiet_step (fail))
  go_big_quiet_want; go_big_quiet_op; go_big_quiet_call (exact calls_bw hd _)
  repeat (go_big_quiet_step (fail))
  go_big_quiet_want; go_big_quiet_op; go_big_quiet_call (exact calls_bw awake_any _)
  repeat (go_big_quiet_step (fail))
  refine wpQuiet_nil ?_
  intro w2 hb2
  go_wp2_with fail
  go_ret
  exact ⟨by simp, hb0.trans (hb2.mono hb0.size)⟩

set_option maxRecDepth 100000 in
theorem spanValid_lifted (os : Os) (started : os.Started) (H : Type) (enc : TypeId × Value → H) :
    ReturnsInHanded {} Try.checked os 3 .any (Rows.spanValidSpec.pre6 enc Try.prog Try.f3 Rows.spanValidRow.domain false) (Rows.spanValidSpec.post enc Try.prog Try.f3 false true false false) := by
  refine law_of_walk (C := Try.checked) (by kernel_rfl) started (by kernel_rfl) Try.func3
    (ChangeSpec.witness6 (enc := enc) (C := Try.checked) false ⟨#[], #[.agg #[.int .i64 0, .int .i64 0], .int .i64 0], []⟩ 8 (by kernel_rfl) (by kernel_rfl) (by kernel_rfl) (by kernel_rfl))
    (by kernel_rfl) ?_ rfl ?_ rfl Try.underlying4 ?_
  · rw [Try.params3]
    intro t ht
    simp at ht
    rcases ht with rfl | rfl
    · exact ⟨by kernel_rfl, of_decide_eq_true (by kernel_rfl)⟩
    · exact ⟨by kernel_rfl, of_decide_eq_true (by kernel_rfl)⟩
  · rw [Try.params3]
    intro ds hds
    match ds, hds with
    | [d0, d1], _ => rfl
  · intro W base args ds ps hval hA hlt
    rw [Try.params3] at hA hval
    obtain ⟨v0, vs0, d0, ds0, p0, q0, hargs, rfl, rfl, h0, r0⟩ := trodAll_cons hA
    obtain ⟨v1, vs1, d1, ds1, p1, q1, rfl, rfl, rfl, h1, r1⟩ := trodAll_cons r0
    obtain ⟨rfl, rfl, rfl⟩ := trodAll_nil r1
    obtain rfl : args = #[v0, v1] := by cases args; simp_all
    obtain ⟨zs0, rfl, hz0, hh0⟩ := okWide_cells (k := .i64) (hval 0 23 v0 rfl rfl) (.inl ⟨_, Try.underlying23⟩) (show Try.prog.cellTypes Try.prog.depth 23 = some [3, 3] by kernel_rfl) (by intro u hu; simp at hu; subst hu; exact Try.underlying3)
    replace hz0 : zs0.length = 2 := hz0.trans (by kernel_rfl)
    obtain ⟨lo, hi, rfl⟩ := len2 hz0
    obtain ⟨x, rfl, hx⟩ := okWide_int1 (hval 1 3 v1 rfl rfl) Try.underlying3
    exact law1 ⟨lo, hi⟩ x W

theorem spanValid_holds : Rows.SpanValidSaid :=
  OpenClaim.holds_of_wide 3 Try.f3 rfl rfl rfl rfl rfl rfl rfl ⟨rfl, rfl, rfl, rfl, rfl⟩ rfl rfl rfl rfl rfl (by kernel_rfl) Try.func3 (by kernel_rfl)
    (of_decide_eq_true (by kernel_rfl)) (by unfold Func.isWrapper; first | (rw [if_pos (by decide +kernel)]; kernel_rfl) | (rw [if_neg (by decide +kernel)]; exact ⟨rfl, rfl⟩))
    (fun os started H enc _ => spanValid_lifted os started H enc)
#print axioms spanValid_holds

set_option maxHeartbeats 4000000 in
theorem law2 (a b : Sp) (k1 : IntKind.i64.has b.lo) (k2 : IntKind.i64.has b.hi) (w : World) : Calls Try.prog 4 #[.agg #[.int .i64 (a).lo, .int .i64 (a).hi], .agg #[.int .i64 (b).lo, .int .i64 (b).hi]] w fun e w' => e = .returned (.bool true) ∧ Below w.heap.size w w' := by
  have h1 := fun w => calls2 (add_any a b w) (add_same a b).1 (add_same a b).2
  have h2 := fun w => radd_any a b w
  have h3 := fun w => calls2 (sub_any a b w) (sub_same k1 k2).1 (sub_same k1 k2).2
  have h4 := fun w => rsub_any a b w
  have BA : Blk ((w.alloc (.cells #[.int .i64 a.lo, .int .i64 a.hi] 23)).alloc (.cells #[.int .i64 b.lo, .int .i64 b.hi] 23)) w.heap.size 23 #[.int .i64 a.lo, .int .i64 a.hi] := (Blk.new w 23 #[.int .i64 a.lo, .int .i64 a.hi]).alloc _
  have BB : Blk ((w.alloc (.cells #[.int .i64 a.lo, .int .i64 a.hi] 23)).alloc (.cells #[.int .i64 b.lo, .int .i64 b.hi] 23)) (w.heap.size + 1) 23 #[.int .i64 b.lo, .int .i64 b.hi] := by
    have := Blk.new (w.alloc (.cells #[.int .i64 a.lo, .int .i64 a.hi] 23)) 23 #[.int .i64 b.lo, .int .i64 b.hi]
    simpa using this
  have hb : Below w.heap.size w ((w.alloc (.cells #[.int .i64 a.lo, .int .i64 a.hi] 23)).alloc (.cells #[.int .i64 b.lo, .int .i64 b.hi] 23)) := by repeat (first | (with_reducible exact Below.refl _ _) | (with_reducible assumption) | (with_reducible refine Below.drew ?_) | ((with_reducible refine Below.alloc ?_ ?_ _); rotate_left; (first | (with_reducible exact Nat.zero_le _) | (with_reducible exact Nat.le_refl _) | omega | (dsimp only; omega) | (simp only [World.size_alloc, World.size_setCell, World.size_drew]; omega))) | ((with_reducible refine Below.setCell ?_ ?_ _); rotate_left; (first | (with_reducible exact Nat.zero_le _) | (with_reducible exact Nat.le_refl _) | omega | (dsimp only; omega) | (simp only [World.size_alloc, World.size_setCell, World.size_drew]; omega))))
  generalize raddS a b = S1 at *
  generalize raddE a b = E1 at *
  generalize rsubS a b = S2 at *
  generalize rsubE a b = E2 at *
  go_enter Try.func4, Try.ntmps4
  go_wp2_with fail
  refine (h1 _).mono ?_
  rintro e w1 ⟨rfl, hb1⟩
  replace BA := BA.step hb1
  replace BB := BB.step hb1
  replace hb := hb.trans (hb1.mono hb.size)
  have cBA := BA.cell
  have cBB := BB.cell
  have lBA := BA.lt
  have lBB := BB.lt
  go_wp2_with fail
  clear cBA lBA cBB lBB
  have C1 := Blk.new w1 23 #[.int .i64 S1.lo, .int .i64 S1.hi]
  replace BA := BA.alloc (.cells #[.int .i64 S1.lo, .int .i64 S1.hi] 23)
  replace BB := BB.alloc (.cells #[.int .i64 S1.lo, .int .i64 S1.hi] 23)
  replace hb := hb.alloc hb.size (.cells #[.int .i64 S1.lo, .int .i64 S1.hi] 23)
  refine (h2 _).mono ?_
  rintro e w2 ⟨rfl, hb2⟩
  replace BA := BA.step hb2
  replace BB := BB.step hb2
  replace C1 := C1.step hb2
  replace hb := hb.trans (hb2.mono hb.size)
  have cBA := BA.cell
  have cBB := BB.cell
  have cC1 := C1.cell
  have lBA := BA.lt
  have lBB := BB.lt
  have lC1 := C1.lt
  go_wp2_with fail
  clear cBA lBA cBB lBB cC1 lC1
  have C2 := Blk.new w2 23 #[.int .i64 S1.lo, .int .i64 S1.hi]
  replace BA := BA.alloc (.cells #[.int .i64 S1.lo, .int .i64 S1.hi] 23)
  replace BB := BB.alloc (.cells #[.int .i64 S1.lo, .int .i64 S1.hi] 23)
  replace C1 := C1.alloc (.cells #[.int .i64 S1.lo, .int .i64 S1.hi] 23)
  replace hb := hb.alloc hb.size (.cells #[.int .i64 S1.lo, .int .i64 S1.hi] 23)
  refine (h3 _).mono ?_
  rintro e w3 ⟨rfl, hb3⟩
  replace BA := BA.step hb3
  replace BB := BB.step hb3
  replace C1 := C1.step hb3
  replace C2 := C2.step hb3
  replace hb := hb.trans (hb3.mono hb.size)
  have cBA := BA.cell
  have cBB := BB.cell
  have cC1 := C1.cell
  have cC2 := C2.cell
  have lBA := BA.lt
  have lBB := BB.lt
  have lC1 := C1.lt
  have lC2 := C2.lt
  go_wp2_with fail
  clear cBA lBA cBB lBB cC1 lC1 cC2 lC2
  have C3 := Blk.new w3 23 #[.int .i64 S2.lo, .int .i64 S2.hi]
  replace BA := BA.alloc (.cells #[.int .i64 S2.lo, .int .i64 S2.hi] 23)
  replace BB := BB.alloc (.cells #[.int .i64 S2.lo, .int .i64 S2.hi] 23)
  replace C1 := C1.alloc (.cells #[.int .i64 S2.lo, .int .i64 S2.hi] 23)
  replace C2 := C2.alloc (.cells #[.int .i64 S2.lo, .int .i64 S2.hi] 23)
  replace hb := hb.alloc hb.size (.cells #[.int .i64 S2.lo, .int .i64 S2.hi] 23)
  refine (h4 _).mono ?_
  rintro e w4 ⟨rfl, hb4⟩
  replace BA := BA.step hb4
  replace BB := BB.step hb4
  replace C1 := C1.step hb4
  replace C2 := C2.step hb4
  replace C3 := C3.step hb4
  replace hb := hb.trans (hb4.mono hb.size)
  have cBA := BA.cell
  have cBB := BB.cell
  have cC1 := C1.cell
  have cC2 := C2.cell
  have cC3 := C3.cell
  have lBA := BA.lt
  have lBB := BB.lt
  have lC1 := C1.lt
  have lC2 := C2.lt
  have lC3 := C3.lt
  go_wp2_with fail
  clear cBA lBA cBB lBB cC1 lC1 cC2 lC2 cC3 lC3
  replace hb := hb.alloc hb.size (.cells #[.int .i64 S2.lo, .int .i64 S2.hi] 23)
  refine (awake_any _).mono ?_
  rintro e wa ⟨rfl, hba⟩
  go_wp2_with fail
  go_ret
  exact ⟨by simp, hb.trans (hba.mono hb.size)⟩
set_option maxRecDepth 100000 in
theorem spanAdds_lifted (os : Os) (started : os.Started) (H : Type) (enc : TypeId × Value → H) :
    ReturnsInHanded {} Try.checked os 4 .any (Rows.spanAddsSpec.pre6 enc Try.prog Try.f4 Rows.spanAddsRow.domain false) (Rows.spanAddsSpec.post enc Try.prog Try.f4 false true false false) := by
  refine law_of_walk (C := Try.checked) (by kernel_rfl) started (by kernel_rfl) Try.func4
    (ChangeSpec.witness6 (enc := enc) (C := Try.checked) false ⟨#[], #[.agg #[.int .i64 0, .int .i64 0], .agg #[.int .i64 0, .int .i64 0]], []⟩ 8 (by kernel_rfl) (by kernel_rfl) (by kernel_rfl) (by kernel_rfl))
    (by kernel_rfl) ?_ rfl ?_ rfl Try.underlying4 ?_
  · rw [Try.params4]
    intro t ht
    simp at ht
    subst ht
    exact ⟨by kernel_rfl, of_decide_eq_true (by kernel_rfl)⟩
  · rw [Try.params4]
    intro ds hds
    match ds, hds with
    | [d0, d1], _ => rfl
  · intro W base args ds ps hval hA hlt
    rw [Try.params4] at hA hval
    obtain ⟨v0, vs0, d0, ds0, p0, q0, hargs, rfl, rfl, h0, r0⟩ := trodAll_cons hA
    obtain ⟨v1, vs1, d1, ds1, p1, q1, rfl, rfl, rfl, h1, r1⟩ := trodAll_cons r0
    obtain ⟨rfl, rfl, rfl⟩ := trodAll_nil r1
    obtain rfl : args = #[v0, v1] := by cases args; simp_all
    obtain ⟨zs0, rfl, hz0, hh0⟩ := okWide_cells (k := .i64) (hval 0 23 v0 rfl rfl) (.inl ⟨_, Try.underlying23⟩) (show Try.prog.cellTypes Try.prog.depth 23 = some [3, 3] by kernel_rfl) (by intro u hu; simp at hu; subst hu; exact Try.underlying3)
    replace hz0 : zs0.length = 2 := hz0.trans (by kernel_rfl)
    obtain ⟨a0, a1, rfl⟩ := len2 hz0
    obtain ⟨zs1, rfl, hz1, hh1⟩ := okWide_cells (k := .i64) (hval 1 23 v1 rfl rfl) (.inl ⟨_, Try.underlying23⟩) (show Try.prog.cellTypes Try.prog.depth 23 = some [3, 3] by kernel_rfl) (by intro u hu; simp at hu; subst hu; exact Try.underlying3)
    replace hz1 : zs1.length = 2 := hz1.trans (by kernel_rfl)
    obtain ⟨b0, b1, rfl⟩ := len2 hz1
    exact law2 ⟨a0, a1⟩ ⟨b0, b1⟩ (hh1 _ (by simp)) (hh1 _ (by simp)) W

theorem spanAdds_holds : Rows.SpanAddsSaid :=
  OpenClaim.holds_of_wide 4 Try.f4 rfl rfl rfl rfl rfl rfl rfl ⟨rfl, rfl, rfl, rfl, rfl⟩ rfl rfl rfl rfl rfl (by kernel_rfl) Try.func4 (by kernel_rfl)
    (of_decide_eq_true (by kernel_rfl)) (by unfold Func.isWrapper; first | (rw [if_pos (by decide +kernel)]; kernel_rfl) | (rw [if_neg (by decide +kernel)]; exact ⟨rfl, rfl⟩))
    (fun os started H enc _ => spanAdds_lifted os started H enc)
#print axioms spanAdds_holds
set_option maxHeartbeats 4000000 in
theorem law5 (a b : Sp) (w : World) : Calls Try.prog 7 #[.agg #[.int .i64 (a).lo, .int .i64 (a).hi], .agg #[.int .i64 (b).lo, .int .i64 (b).hi]] w fun e w' => e = .returned (.bool true) ∧ Below w.heap.size w w' := by
  have h1 := fun w => calls2 (meet_any a b w) (meet_same a b).1 (meet_same a b).2
  have h2 := fun w => rmeet_any a b w
  have h3 := fun w => calls2 (hull_any a b w) (hull_same a b).1 (hull_same a b).2
  have h4 := fun w => rhull_any a b w
  have BA : Blk ((w.alloc (.cells #[.int .i64 a.lo, .int .i64 a.hi] 23)).alloc (.cells #[.int .i64 b.lo, .int .i64 b.hi] 23)) w.heap.size 23 #[.int .i64 a.lo, .int .i64 a.hi] := (Blk.new w 23 #[.int .i64 a.lo, .int .i64 a.hi]).alloc _
  have BB : Blk ((w.alloc (.cells #[.int .i64 a.lo, .int .i64 a.hi] 23)).alloc (.cells #[.int .i64 b.lo, .int .i64 b.hi] 23)) (w.heap.size + 1) 23 #[.int .i64 b.lo, .int .i64 b.hi] := by
    have := Blk.new (w.alloc (.cells #[.int .i64 a.lo, .int .i64 a.hi] 23)) 23 #[.int .i64 b.lo, .int .i64 b.hi]
    simpa using this
  have hb : Below w.heap.size w ((w.alloc (.cells #[.int .i64 a.lo, .int .i64 a.hi] 23)).alloc (.cells #[.int .i64 b.lo, .int .i64 b.hi] 23)) := by repeat (first | (with_reducible exact Below.refl _ _) | (with_reducible assumption) | (with_reducible refine Below.drew ?_) | ((with_reducible refine Below.alloc ?_ ?_ _); rotate_left; (first | (with_reducible exact Nat.zero_le _) | (with_reducible exact Nat.le_refl _) | omega | (dsimp only; omega) | (simp only [World.size_alloc, World.size_setCell, World.size_drew]; omega))) | ((with_reducible refine Below.setCell ?_ ?_ _); rotate_left; (first | (with_reducible exact Nat.zero_le _) | (with_reducible exact Nat.le_refl _) | omega | (dsimp only; omega) | (simp only [World.size_alloc, World.size_setCell, World.size_drew]; omega))))
  generalize rmeetS a b = S1 at *
  generalize rmeetE a b = E1 at *
  generalize rhullS a b = S2 at *
  generalize rhullE a b = E2 at *
  go_enter Try.func7, Try.ntmps7
  go_wp2_with fail
  refine (h1 _).mono ?_
  rintro e w1 ⟨rfl, hb1⟩
  replace BA := BA.step hb1
  replace BB := BB.step hb1
  replace hb := hb.trans (hb1.mono hb.size)
  have cBA := BA.cell
  have cBB := BB.cell
  have lBA := BA.lt
  have lBB := BB.lt
  go_wp2_with fail
  clear cBA lBA cBB lBB
  have C1 := Blk.new w1 23 #[.int .i64 S1.lo, .int .i64 S1.hi]
  replace BA := BA.alloc (.cells #[.int .i64 S1.lo, .int .i64 S1.hi] 23)
  replace BB := BB.alloc (.cells #[.int .i64 S1.lo, .int .i64 S1.hi] 23)
  replace hb := hb.alloc hb.size (.cells #[.int .i64 S1.lo, .int .i64 S1.hi] 23)
  refine (h2 _).mono ?_
  rintro e w2 ⟨rfl, hb2⟩
  replace BA := BA.step hb2
  replace BB := BB.step hb2
  replace C1 := C1.step hb2
  replace hb := hb.trans (hb2.mono hb.size)
  have cBA := BA.cell
  have cBB := BB.cell
  have cC1 := C1.cell
  have lBA := BA.lt
  have lBB := BB.lt
  have lC1 := C1.lt
  go_wp2_with fail
  clear cBA lBA cBB lBB cC1 lC1
  have C2 := Blk.new w2 23 #[.int .i64 S1.lo, .int .i64 S1.hi]
  replace BA := BA.alloc (.cells #[.int .i64 S1.lo, .int .i64 S1.hi] 23)
  replace BB := BB.alloc (.cells #[.int .i64 S1.lo, .int .i64 S1.hi] 23)
  replace C1 := C1.alloc (.cells #[.int .i64 S1.lo, .int .i64 S1.hi] 23)
  replace hb := hb.alloc hb.size (.cells #[.int .i64 S1.lo, .int .i64 S1.hi] 23)
  refine (h3 _).mono ?_
  rintro e w3 ⟨rfl, hb3⟩
  replace BA := BA.step hb3
  replace BB := BB.step hb3
  replace C1 := C1.step hb3
  replace C2 := C2.step hb3
  replace hb := hb.trans (hb3.mono hb.size)
  have cBA := BA.cell
  have cBB := BB.cell
  have cC1 := C1.cell
  have cC2 := C2.cell
  have lBA := BA.lt
  have lBB := BB.lt
  have lC1 := C1.lt
  have lC2 := C2.lt
  go_wp2_with fail
  clear cBA lBA cBB lBB cC1 lC1 cC2 lC2
  have C3 := Blk.new w3 23 #[.int .i64 S2.lo, .int .i64 S2.hi]
  replace BA := BA.alloc (.cells #[.int .i64 S2.lo, .int .i64 S2.hi] 23)
  replace BB := BB.alloc (.cells #[.int .i64 S2.lo, .int .i64 S2.hi] 23)
  replace C1 := C1.alloc (.cells #[.int .i64 S2.lo, .int .i64 S2.hi] 23)
  replace C2 := C2.alloc (.cells #[.int .i64 S2.lo, .int .i64 S2.hi] 23)
  replace hb := hb.alloc hb.size (.cells #[.int .i64 S2.lo, .int .i64 S2.hi] 23)
  refine (h4 _).mono ?_
  rintro e w4 ⟨rfl, hb4⟩
  replace BA := BA.step hb4
  replace BB := BB.step hb4
  replace C1 := C1.step hb4
  replace C2 := C2.step hb4
  replace C3 := C3.step hb4
  replace hb := hb.trans (hb4.mono hb.size)
  have cBA := BA.cell
  have cBB := BB.cell
  have cC1 := C1.cell
  have cC2 := C2.cell
  have cC3 := C3.cell
  have lBA := BA.lt
  have lBB := BB.lt
  have lC1 := C1.lt
  have lC2 := C2.lt
  have lC3 := C3.lt
  go_wp2_with fail
  clear cBA lBA cBB lBB cC1 lC1 cC2 lC2 cC3 lC3
  replace hb := hb.alloc hb.size (.cells #[.int .i64 S2.lo, .int .i64 S2.hi] 23)
  refine (awake_any _).mono ?_
  rintro e wa ⟨rfl, hba⟩
  go_wp2_with fail
  go_ret
  exact ⟨by simp, hb.trans (hba.mono hb.size)⟩
set_option maxRecDepth 100000 in
theorem spanMeets_lifted (os : Os) (started : os.Started) (H : Type) (enc : TypeId × Value → H) :
    ReturnsInHanded {} Try.checked os 7 .any (Rows.spanMeetsSpec.pre6 enc Try.prog Try.f7 Rows.spanMeetsRow.domain false) (Rows.spanMeetsSpec.post enc Try.prog Try.f7 false true false false) := by
  refine law_of_walk (C := Try.checked) (by kernel_rfl) started (by kernel_rfl) Try.func7
    (ChangeSpec.witness6 (enc := enc) (C := Try.checked) false ⟨#[], #[.agg #[.int .i64 0, .int .i64 0], .agg #[.int .i64 0, .int .i64 0]], []⟩ 8 (by kernel_rfl) (by kernel_rfl) (by kernel_rfl) (by kernel_rfl))
    (by kernel_rfl) ?_ rfl ?_ rfl Try.underlying4 ?_
  · rw [Try.params7]
    intro t ht
    simp at ht
    subst ht
    exact ⟨by kernel_rfl, of_decide_eq_true (by kernel_rfl)⟩
  · rw [Try.params7]
    intro ds hds
    match ds, hds with
    | [d0, d1], _ => rfl
  · intro W base args ds ps hval hA hlt
    rw [Try.params7] at hA hval
    obtain ⟨v0, vs0, d0, ds0, p0, q0, hargs, rfl, rfl, h0, r0⟩ := trodAll_cons hA
    obtain ⟨v1, vs1, d1, ds1, p1, q1, rfl, rfl, rfl, h1, r1⟩ := trodAll_cons r0
    obtain ⟨rfl, rfl, rfl⟩ := trodAll_nil r1
    obtain rfl : args = #[v0, v1] := by cases args; simp_all
    obtain ⟨zs0, rfl, hz0, hh0⟩ := okWide_cells (k := .i64) (hval 0 23 v0 rfl rfl) (.inl ⟨_, Try.underlying23⟩) (show Try.prog.cellTypes Try.prog.depth 23 = some [3, 3] by kernel_rfl) (by intro u hu; simp at hu; subst hu; exact Try.underlying3)
    replace hz0 : zs0.length = 2 := hz0.trans (by kernel_rfl)
    obtain ⟨a0, a1, rfl⟩ := len2 hz0
    obtain ⟨zs1, rfl, hz1, hh1⟩ := okWide_cells (k := .i64) (hval 1 23 v1 rfl rfl) (.inl ⟨_, Try.underlying23⟩) (show Try.prog.cellTypes Try.prog.depth 23 = some [3, 3] by kernel_rfl) (by intro u hu; simp at hu; subst hu; exact Try.underlying3)
    replace hz1 : zs1.length = 2 := hz1.trans (by kernel_rfl)
    obtain ⟨b0, b1, rfl⟩ := len2 hz1
    exact law5 ⟨a0, a1⟩ ⟨b0, b1⟩ W

theorem spanMeets_holds : Rows.SpanMeetsSaid :=
  OpenClaim.holds_of_wide 7 Try.f7 rfl rfl rfl rfl rfl rfl rfl ⟨rfl, rfl, rfl, rfl, rfl⟩ rfl rfl rfl rfl rfl (by kernel_rfl) Try.func7 (by kernel_rfl)
    (of_decide_eq_true (by kernel_rfl)) (by unfold Func.isWrapper; first | (rw [if_pos (by decide +kernel)]; kernel_rfl) | (rw [if_neg (by decide +kernel)]; exact ⟨rfl, rfl⟩))
    (fun os started H enc _ => spanMeets_lifted os started H enc)
#print axioms spanMeets_holds
set_option maxHeartbeats 4000000 in
theorem law6 (s : Sp) (y n d : Int) (w : World) : Calls Try.prog 8 #[.agg #[.int .i64 (s).lo, .int .i64 (s).hi], .int .i64 y, .agg #[.int .i64 n, .int .i64 d]] w fun e w' => e = .returned (.bool true) ∧ Below w.heap.size w w' := by
  have h1 := fun w => widen_any s y w
  have h2 := fun w => rwiden_any s y w
  have h3 := fun w => part_any s n d w
  have h4 := fun w => rpart_any s n d w
  have BA : Blk ((w.alloc (.cells #[.int .i64 s.lo, .int .i64 s.hi] 23)).alloc (.cells #[.int .i64 n, .int .i64 d] 35)) w.heap.size 23 #[.int .i64 s.lo, .int .i64 s.hi] := (Blk.new w 23 #[.int .i64 s.lo, .int .i64 s.hi]).alloc _
  have BB : Blk ((w.alloc (.cells #[.int .i64 s.lo, .int .i64 s.hi] 23)).alloc (.cells #[.int .i64 n, .int .i64 d] 35)) (w.heap.size + 1) 35 #[.int .i64 n, .int .i64 d] := by
    have := Blk.new (w.alloc (.cells #[.int .i64 s.lo, .int .i64 s.hi] 23)) 35 #[.int .i64 n, .int .i64 d]
    simpa using this
  have hb : Below w.heap.size w ((w.alloc (.cells #[.int .i64 s.lo, .int .i64 s.hi] 23)).alloc (.cells #[.int .i64 n, .int .i64 d] 35)) := by repeat (first | (with_reducible exact Below.refl _ _) | (with_reducible assumption) | (with_reducible refine Below.drew ?_) | ((with_reducible refine Below.alloc ?_ ?_ _); rotate_left; (first | (with_reducible exact Nat.zero_le _) | (with_reducible exact Nat.le_refl _) | omega | (dsimp only; omega) | (simp only [World.size_alloc, World.size_setCell, World.size_drew]; omega))) | ((with_reducible refine Below.setCell ?_ ?_ _); rotate_left; (first | (with_reducible exact Nat.zero_le _) | (with_reducible exact Nat.le_refl _) | omega | (dsimp only; omega) | (simp only [World.size_alloc, World.size_setCell, World.size_drew]; omega))))
  generalize widS s y = S1 at *
  generalize widE s y = E1 at *
  generalize partS s n d = S2 at *
  generalize partE s n d = E2 at *
  go_enter Try.func8, Try.ntmps8
  go_wp2_with fail
  refine (h1 _).mono ?_
  rintro e w1 ⟨rfl, hb1⟩
  replace BA := BA.step hb1
  replace BB := BB.step hb1
  replace hb := hb.trans (hb1.mono hb.size)
  have cBA := BA.cell
  have cBB := BB.cell
  have lBA := BA.lt
  have lBB := BB.lt
  go_wp2_with fail
  clear cBA lBA cBB lBB
  have C1 := Blk.new w1 23 #[.int .i64 S1.lo, .int .i64 S1.hi]
  replace BA := BA.alloc (.cells #[.int .i64 S1.lo, .int .i64 S1.hi] 23)
  replace BB := BB.alloc (.cells #[.int .i64 S1.lo, .int .i64 S1.hi] 23)
  replace hb := hb.alloc hb.size (.cells #[.int .i64 S1.lo, .int .i64 S1.hi] 23)
  refine (h2 _).mono ?_
  rintro e w2 ⟨rfl, hb2⟩
  replace BA := BA.step hb2
  replace BB := BB.step hb2
  replace C1 := C1.step hb2
  replace hb := hb.trans (hb2.mono hb.size)
  have cBA := BA.cell
  have cBB := BB.cell
  have cC1 := C1.cell
  have lBA := BA.lt
  have lBB := BB.lt
  have lC1 := C1.lt
  go_wp2_with fail
  clear cBA lBA cBB lBB cC1 lC1
  have C2 := Blk.new w2 23 #[.int .i64 S1.lo, .int .i64 S1.hi]
  replace BA := BA.alloc (.cells #[.int .i64 S1.lo, .int .i64 S1.hi] 23)
  replace BB := BB.alloc (.cells #[.int .i64 S1.lo, .int .i64 S1.hi] 23)
  replace C1 := C1.alloc (.cells #[.int .i64 S1.lo, .int .i64 S1.hi] 23)
  replace hb := hb.alloc hb.size (.cells #[.int .i64 S1.lo, .int .i64 S1.hi] 23)
  refine (h3 _).mono ?_
  rintro e w3 ⟨rfl, hb3⟩
  replace BA := BA.step hb3
  replace BB := BB.step hb3
  replace C1 := C1.step hb3
  replace C2 := C2.step hb3
  replace hb := hb.trans (hb3.mono hb.size)
  have cBA := BA.cell
  have cBB := BB.cell
  have cC1 := C1.cell
  have cC2 := C2.cell
  have lBA := BA.lt
  have lBB := BB.lt
  have lC1 := C1.lt
  have lC2 := C2.lt
  go_wp2_with fail
  clear cBA lBA cBB lBB cC1 lC1 cC2 lC2
  have C3 := Blk.new w3 23 #[.int .i64 S2.lo, .int .i64 S2.hi]
  replace BA := BA.alloc (.cells #[.int .i64 S2.lo, .int .i64 S2.hi] 23)
  replace BB := BB.alloc (.cells #[.int .i64 S2.lo, .int .i64 S2.hi] 23)
  replace C1 := C1.alloc (.cells #[.int .i64 S2.lo, .int .i64 S2.hi] 23)
  replace C2 := C2.alloc (.cells #[.int .i64 S2.lo, .int .i64 S2.hi] 23)
  replace hb := hb.alloc hb.size (.cells #[.int .i64 S2.lo, .int .i64 S2.hi] 23)
  refine (h4 _).mono ?_
  rintro e w4 ⟨rfl, hb4⟩
  replace BA := BA.step hb4
  replace BB := BB.step hb4
  replace C1 := C1.step hb4
  replace C2 := C2.step hb4
  replace C3 := C3.step hb4
  replace hb := hb.trans (hb4.mono hb.size)
  have cBA := BA.cell
  have cBB := BB.cell
  have cC1 := C1.cell
  have cC2 := C2.cell
  have cC3 := C3.cell
  have lBA := BA.lt
  have lBB := BB.lt
  have lC1 := C1.lt
  have lC2 := C2.lt
  have lC3 := C3.lt
  go_wp2_with fail
  clear cBA lBA cBB lBB cC1 lC1 cC2 lC2 cC3 lC3
  replace hb := hb.alloc hb.size (.cells #[.int .i64 S2.lo, .int .i64 S2.hi] 23)
  refine (awake_any _).mono ?_
  rintro e wa ⟨rfl, hba⟩
  go_wp2_with fail
  go_ret
  exact ⟨by simp, hb.trans (hba.mono hb.size)⟩
set_option maxRecDepth 100000 in
theorem spanWidens_lifted (os : Os) (started : os.Started) (H : Type) (enc : TypeId × Value → H) :
    ReturnsInHanded {} Try.checked os 8 .any (Rows.spanWidensSpec.pre6 enc Try.prog Try.f8 Rows.spanWidensRow.domain false) (Rows.spanWidensSpec.post enc Try.prog Try.f8 false true false false) := by
  refine law_of_walk (C := Try.checked) (by kernel_rfl) started (by kernel_rfl) Try.func8
    (ChangeSpec.witness6 (enc := enc) (C := Try.checked) false ⟨#[], #[.agg #[.int .i64 0, .int .i64 0], .int .i64 0, .agg #[.int .i64 0, .int .i64 0]], []⟩ 8 (by kernel_rfl) (by kernel_rfl) (by kernel_rfl) (by kernel_rfl))
    (by kernel_rfl) ?_ rfl ?_ rfl Try.underlying4 ?_
  · rw [Try.params8]
    intro t ht
    simp at ht
    rcases ht with rfl | rfl | rfl
    · exact ⟨by kernel_rfl, of_decide_eq_true (by kernel_rfl)⟩
    · exact ⟨by kernel_rfl, of_decide_eq_true (by kernel_rfl)⟩
    · exact ⟨by kernel_rfl, of_decide_eq_true (by kernel_rfl)⟩
  · rw [Try.params8]
    intro ds hds
    match ds, hds with
    | [d0, d1, d2], _ => rfl
  · intro W base args ds ps hval hA hlt
    rw [Try.params8] at hA hval
    obtain ⟨v0, vs0, d0, ds0, p0, q0, hargs, rfl, rfl, h0, r0⟩ := trodAll_cons hA
    obtain ⟨v1, vs1, d1, ds1, p1, q1, rfl, rfl, rfl, h1, r1⟩ := trodAll_cons r0
    obtain ⟨v2, vs2, d2, ds2, p2, q2, rfl, rfl, rfl, h2, r2⟩ := trodAll_cons r1
    obtain ⟨rfl, rfl, rfl⟩ := trodAll_nil r2
    obtain rfl : args = #[v0, v1, v2] := by cases args; simp_all
    obtain ⟨zs0, rfl, hz0, hh0⟩ := okWide_cells (k := .i64) (hval 0 23 v0 rfl rfl) (.inl ⟨_, Try.underlying23⟩) (show Try.prog.cellTypes Try.prog.depth 23 = some [3, 3] by kernel_rfl) (by intro u hu; simp at hu; subst hu; exact Try.underlying3)
    replace hz0 : zs0.length = 2 := hz0.trans (by kernel_rfl)
    obtain ⟨a0, a1, rfl⟩ := len2 hz0
    obtain ⟨y, rfl, hy⟩ := okWide_int1 (hval 1 3 v1 rfl rfl) Try.underlying3
    obtain ⟨zs2, rfl, hz2, hh2⟩ := okWide_cells (k := .i64) (hval 2 35 v2 rfl rfl) (.inr ⟨_, _, Try.underlying35⟩) (show Try.prog.cellTypes Try.prog.depth 35 = some [3, 3] by kernel_rfl) (by intro u hu; simp at hu; subst hu; exact Try.underlying3)
    replace hz2 : zs2.length = 2 := hz2.trans (by kernel_rfl)
    obtain ⟨n, d, rfl⟩ := len2 hz2
    exact law6 ⟨a0, a1⟩ y n d W

theorem spanWidens_holds : Rows.SpanWidensSaid :=
  OpenClaim.holds_of_wide 8 Try.f8 rfl rfl rfl rfl rfl rfl rfl ⟨rfl, rfl, rfl, rfl, rfl⟩ rfl rfl rfl rfl rfl (by kernel_rfl) Try.func8 (by kernel_rfl)
    (of_decide_eq_true (by kernel_rfl)) (by unfold Func.isWrapper; first | (rw [if_pos (by decide +kernel)]; kernel_rfl) | (rw [if_neg (by decide +kernel)]; exact ⟨rfl, rfl⟩))
    (fun os started H enc _ => spanWidens_lifted os started H enc)
#print axioms spanWidens_holds
set_option maxHeartbeats 4000000 in
theorem law3 {w : World} {v : Value} {l : List Sp} (hl : RowIn w v 2 encP l) : Calls Try.prog 5 #[v] w fun e w' => e = .returned (.bool true) ∧ Below w.heap.size w w' := by
  obtain ⟨oa, cap, rfl, hlc1, hlc2, _, _⟩ := hl.at_
  unfold maxLen at hlc2
  have hb : Below w.heap.size w w := Below.refl _ _
  by_cases hn : l.length > 1000
  · have hn2 : (l.length : Int) > 1000 := by omega
    go_enter Try.func5, Try.ntmps5
    go_wp2_with fail
    refine (awake_any _).mono ?_
    rintro e wa ⟨rfl, hba⟩
    go_wp2_with fail
    go_ret
    exact ⟨by simp, hba⟩
  · have hn2 : ¬ (l.length : Int) > 1000 := by omega
    have h1 := fun w h => sumL_any (w := w) (v := .slice oa l.length cap) (l := l) h
    have h2 := fun w h => rsumL_any (w := w) (v := .slice oa l.length cap) (l := l) h
    generalize sumS l = S1 at *
    generalize sumE l = E1 at *
    go_enter Try.func5, Try.ntmps5
    go_wp2_with fail
    refine (h1 _ hl).mono ?_
    rintro e w1 ⟨rfl, hb1⟩
    replace hl := hl.step hb1
    replace hb := hb.trans (hb1.mono hb.size)
    go_wp2_with fail
    have C1 := Blk.new w1 23 #[.int .i64 S1.lo, .int .i64 S1.hi]
    replace hl := hl.step (Below.alloc (Below.refl _ _) (Nat.le_refl _) (.cells #[.int .i64 S1.lo, .int .i64 S1.hi] 23))
    replace hb := hb.alloc hb.size (.cells #[.int .i64 S1.lo, .int .i64 S1.hi] 23)
    refine (h2 _ hl).mono ?_
    rintro e w2 ⟨rfl, hb2⟩
    replace C1 := C1.step hb2
    replace hl := hl.step hb2
    replace hb := hb.trans (hb2.mono hb.size)
    have cC1 := C1.cell
    have lC1 := C1.lt
    go_wp2_with fail
    clear cC1 lC1
    replace hb := hb.alloc hb.size (.cells #[.int .i64 S1.lo, .int .i64 S1.hi] 23)
    refine (awake_any _).mono ?_
    rintro e wa ⟨rfl, hba⟩
    go_wp2_with fail
    go_ret
    exact ⟨by simp, hb.trans (hba.mono hb.size)⟩
set_option maxRecDepth 100000 in
theorem spanSums_lifted (os : Os) (started : os.Started) (H : Type) (enc : TypeId × Value → H) :
    ReturnsInHanded {} Try.checked os 5 .any (Rows.spanSumsSpec.pre6 enc Try.prog Try.f5 Rows.spanSumsRow.domain false) (Rows.spanSumsSpec.post enc Try.prog Try.f5 false true false false) := by
  refine law_of_walk (C := Try.checked) (by kernel_rfl) started (by kernel_rfl) Try.func5
    (ChangeSpec.witness6 (enc := enc) (C := Try.checked) false ⟨#[], #[.slice none 0 0], []⟩ 8 (by kernel_rfl) (by kernel_rfl) (by kernel_rfl) (by kernel_rfl))
    (by kernel_rfl) ?_ rfl ?_ rfl Try.underlying4 ?_
  · rw [Try.params5]
    intro t ht
    simp at ht
    subst ht
    exact ⟨by kernel_rfl, of_decide_eq_true (by kernel_rfl)⟩
  · rw [Try.params5]
    intro ds hds
    match ds, hds with
    | [d0], _ => rfl
  · intro W base args ds ps hval hA hlt
    rw [Try.params5] at hA hval
    obtain ⟨v0, vs0, d0, ds0, p0, q0, hargs, rfl, rfl, h0, r0⟩ := trodAll_cons hA
    obtain ⟨rfl, rfl, rfl⟩ := trodAll_nil r0
    obtain rfl : args = #[v0] := by cases args; simp_all
    obtain ⟨l, hl, ql⟩ := open_rowin (k := .i64) Try.underlying31 (show Try.prog.cellsOf 23 = 2 by kernel_rfl) (by decide) 6 (by kernel_rfl) decP encP decP_enc (hval 0 31 v0 rfl rfl) h0
    exact law3 hl

theorem spanSums_holds : Rows.SpanSumsSaid :=
  OpenClaim.holds_of_wide 5 Try.f5 rfl rfl rfl rfl rfl rfl rfl ⟨rfl, rfl, rfl, rfl, rfl⟩ rfl rfl rfl rfl rfl (by kernel_rfl) Try.func5 (by kernel_rfl)
    (of_decide_eq_true (by kernel_rfl)) (by unfold Func.isWrapper; first | (rw [if_pos (by decide +kernel)]; kernel_rfl) | (rw [if_neg (by decide +kernel)]; exact ⟨rfl, rfl⟩))
    (fun os started H enc _ => spanSums_lifted os started H enc)
#print axioms spanSums_holds

end Go.Proofs.Ytpclhjkamplmbaa
