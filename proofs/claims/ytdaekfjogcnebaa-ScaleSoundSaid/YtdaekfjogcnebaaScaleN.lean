/- The walks of the statements about scales without the reference. -/
import Derived.Test.YtdaekfjogcnebaaScaleL
import Derived.Test.YtdaekfjogcnebaaScaleQ
namespace Go.Proofs.Ytdaekfjogcnebaa
set_option linter.unusedVariables false
set_option linter.unusedSimpArgs false
open Go.RowKit

set_option maxHeartbeats 2000000 in
theorem law6_no (sa sb sc sd se sf m n t : Int) (w : World) (h0 : trn sa sb sc sd se sf n t ≠ 0) : Calls Try.prog 8 #[.agg #[.int .i64 sa, .int .i64 sb, .int .i64 sc, .int .i64 sd, .int .i64 se, .int .i64 sf, .int .i64 m, .int .i64 n, .int .i64 t]] w fun e w' => e = .returned (.bool true) ∧ Below w.heap.size w w' := by
  have hc : cld sa sb sc sd se sf m n t = false := cld_trn h0
  have e1 : trlo sa sb sc sd se sf n t = 0 := by simp [trlo, h0]
  have e2 : trhi sa sb sc sd se sf n t = 0 := by simp [trhi, h0]
  have B0 := Blk.new w 29 #[.int .i64 sa, .int .i64 sb, .int .i64 sc, .int .i64 sd, .int .i64 se, .int .i64 sf, .int .i64 m, .int .i64 n, .int .i64 t]
  have c0 := B0.cell
  go_enter Try.func8, Try.ntmps8
  go_wp2_with (first
    | (go_at_call 18; refine (true_any _ _ _ _ _ _ _ _ _).mono ?_; rintro e w1 ⟨rfl, hb1⟩; replace B0 := B0.step hb1; clear c0; have c0 := B0.cell; have l0 := B0.lt)
    | (go_at_call 16; refine (could_any _ _ _ _ _ _ _ _ _ _).mono ?_; rintro e w2 ⟨rfl, hb2⟩; replace B0 := (B0.alloc (.cells #[.int .i64 0, .int .i64 0] 35)).step hb2; clear c0; have c0 := B0.cell; have B1 := (Blk.new w1 35 #[.int .i64 0, .int .i64 0]).step hb2; have c1 := B1.cell)
    | (go_at_call 20; refine (shows_any _ _ _ _ _ _ _ _ _).mono ?_; rintro e w3 ⟨rfl, hb3⟩; replace B1 := B1.step hb3; have l1 := B1.lt; clear c1; have c1 := B1.cell)
    | (go_at_call 13; refine (awake_any _).mono ?_; rintro e w4 ⟨rfl, hb4⟩))
  go_ret
  refine ⟨by simp, ?_⟩
  have z1 := hb1.size; (try simp only [World.size_alloc, World.size_setCell] at z1); have z2 := hb2.size; (try simp only [World.size_alloc, World.size_setCell] at z2); have z3 := hb3.size; (try simp only [World.size_alloc, World.size_setCell] at z3); have z4 := hb4.size; (try simp only [World.size_alloc, World.size_setCell] at z4); skip
  (repeat (first | exact Below.refl _ _ | refine Below.setCell ?_ (by first | omega | (simp; done) | (simp; omega) | (simp only [World.size_alloc, World.size_setCell] at *; omega)) _ | refine Below.alloc ?_ (by first | omega | (simp; done) | (simp; omega) | (simp only [World.size_alloc, World.size_setCell] at *; omega)) _ | refine Below.trans ?_ (Below.mono (by assumption) (by first | omega | (simp; done) | (simp; omega) | (simp only [World.size_alloc, World.size_setCell] at *; omega)))))

set_option maxHeartbeats 4000000 in
theorem law6_ok (sa sb sc sd se sf m n t : Int) (w : World) (h0 : trn sa sb sc sd se sf n t = 0) : Calls Try.prog 8 #[.agg #[.int .i64 sa, .int .i64 sb, .int .i64 sc, .int .i64 sd, .int .i64 se, .int .i64 sf, .int .i64 m, .int .i64 n, .int .i64 t]] w fun e w' => e = .returned (.bool true) ∧ Below w.heap.size w w' := by
  obtain ⟨s1, s2, s3, s4, s5, s6, s7⟩ := sound_ok (m := m) h0
  have ha := fun w => true_any sa sb sc sd se sf n t w
  have hb := fun w => could_any sa sb sc sd se sf m n t w
  have hc := fun w => shows_any sa sb sc sd se sf m t w
  have hd := fun w => could_any sa sb sc sd se sf n n t w
  rw [h0] at ha
  rw [s5] at hd
  generalize trlo sa sb sc sd se sf n t = lo at *
  generalize trhi sa sb sc sd se sf n t = hi at *
  generalize cld sa sb sc sd se sf m n t = C at *
  generalize shlo sa sb sc sd se sf m t = x at *
  generalize shhi sa sb sc sd se sf m t = y at *
  generalize shn sa sb sc sd se sf m t = z at *
  have HA := Lib.hid ha
  have HB := Lib.hid hb
  have HC := Lib.hid hc
  have HD := Lib.hid hd
  clear ha hb hc hd h0 s5
  have B0 := Blk.new w 29 #[.int .i64 sa, .int .i64 sb, .int .i64 sc, .int .i64 sd, .int .i64 se, .int .i64 sf, .int .i64 m, .int .i64 n, .int .i64 t]
  have c0 := B0.cell
  subst s6
  have S7 := Lib.hid s7
  clear s7
  go_enter Try.func8, Try.ntmps8
  go_wp2_with fail
  refine (HA.out _).mono ?_
  rintro e w1 ⟨rfl, hb1⟩; replace B0 := B0.step hb1; clear c0; have c0 := B0.cell
  have l0 := B0.lt
  go_wp2_with fail
  refine (HB.out _).mono ?_
  rintro e w2 ⟨rfl, hb2⟩
  replace B0 := (B0.alloc (.cells #[.int .i64 lo, .int .i64 hi] 35)).step hb2
  clear c0 l0
  have c0 := B0.cell
  have l0 := B0.lt
  have B1 := (Blk.new w1 35 #[.int .i64 lo, .int .i64 hi]).step hb2
  have c1 := B1.cell
  go_wp2_with fail
  refine (HC.out _).mono ?_
  rintro e w3 ⟨rfl, hb3⟩
  replace B0 := B0.step hb3
  clear c0 l0 c1
  have c0 := B0.cell
  have l0 := B0.lt
  replace B1 := B1.step hb3
  have c1 := B1.cell
  have l1 := B1.lt
  go_wp2_with fail
  refine (HD.out _).mono ?_
  rintro e w4 ⟨rfl, hb4⟩
  replace B0 := (B0.alloc (.cells #[.int .i64 x, .int .i64 y] 35)).step hb4
  replace B1 := (B1.alloc (.cells #[.int .i64 x, .int .i64 y] 35)).step hb4
  have B2 := (Blk.new w3 35 #[.int .i64 x, .int .i64 y]).step hb4
  clear c0 l0 c1 l1
  have c0 := B0.cell
  have c1 := B1.cell
  have c2 := B2.cell
  go_wp2_with (go_at_call 13; refine (awake_any _).mono ?_; rintro e w5 ⟨rfl, hb5⟩)
  all_goals go_ret
  all_goals first
    | (exfalso; have q := S7.out; rw [Bool.eq_iff_iff] at q; simp only [Bool.and_eq_true, decide_eq_true_eq] at q; omega)
    | (refine ⟨?_, ?_⟩; (simp <;> omega); have z1 := hb1.size; (try simp only [World.size_alloc, World.size_setCell] at z1); have z2 := hb2.size; (try simp only [World.size_alloc, World.size_setCell] at z2); have z3 := hb3.size; (try simp only [World.size_alloc, World.size_setCell] at z3); have z4 := hb4.size; (try simp only [World.size_alloc, World.size_setCell] at z4); have z5 := hb5.size; (try simp only [World.size_alloc, World.size_setCell] at z5); skip; (repeat (first | exact Below.refl _ _ | refine Below.setCell ?_ (by first | omega | (simp; done) | (simp; omega) | (simp only [World.size_alloc, World.size_setCell] at *; omega)) _ | refine Below.alloc ?_ (by first | omega | (simp; done) | (simp; omega) | (simp only [World.size_alloc, World.size_setCell] at *; omega)) _ | refine Below.trans ?_ (Below.mono (by assumption) (by first | omega | (simp; done) | (simp; omega) | (simp only [World.size_alloc, World.size_setCell] at *; omega))))))
end Go.Proofs.Ytdaekfjogcnebaa
