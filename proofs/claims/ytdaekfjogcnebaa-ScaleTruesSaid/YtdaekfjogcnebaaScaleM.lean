/- The walks of the statements about checks, errors, numbers and masses: each returns true. -/
import Derived.Test.YtdaekfjogcnebaaScaleL
import Derived.Test.YtdaekfjogcnebaaScaleK
namespace Go.Proofs.Ytdaekfjogcnebaa
set_option linter.unusedVariables false
set_option linter.unusedSimpArgs false
open Go.RowKit

set_option maxHeartbeats 1000000 in
theorem law1 (sa sb sc sd se sf : Int) (w : World) : Calls Try.prog 3 #[.agg #[.int .i64 sa, .int .i64 sb, .int .i64 sc, .int .i64 sd, .int .i64 se, .int .i64 sf]] w fun e w' => e = .returned (.bool true) ∧ Below w.heap.size w w' := by
  have B0 := Blk.new w 23 #[.int .i64 sa, .int .i64 sb, .int .i64 sc, .int .i64 sd, .int .i64 se, .int .i64 sf]
  go_enter Try.func3, Try.ntmps3
  go_wp2_with fail
  have hx : ∀ x : BW (w.alloc (.cells #[.int .i64 sa, .int .i64 sb, .int .i64 sc, .int .i64 sd, .int .i64 se, .int .i64 sf] 23)), ∀ o, x.w.cell? ⟨w.heap.size, o, none⟩ = #[.int .i64 sa, .int .i64 sb, .int .i64 sc, .int .i64 sd, .int .i64 se, .int .i64 sf][o]? := fun x => (B0.bw x).cell
  refine wp_region_calm (by kernel_rfl) (by kernel_rfl) ?_
  repeat (go_big_quiet_step (fail))
  go_big_quiet_want; go_big_quiet_op; go_big_quiet_call (exact calls_bw (fun w => check_any _ _ _ _ _ _ w) _)
  repeat (go_big_quiet_step (fail))
  go_big_quiet_want; go_big_quiet_op; go_big_quiet_call (exact calls_bw (fun w => rcheck_any _ _ _ _ _ _ w) _)
  repeat (go_big_quiet_step (fail))
  go_big_quiet_want; go_big_quiet_op; go_big_quiet_call (exact calls_bw (fun w => awake_any w) _)
  repeat (go_big_quiet_step (fail))
  refine wpQuiet_nil ?_
  intro w1 hb1
  go_wp2
  go_ret
  refine ⟨by simp, ?_⟩
  have z1 := hb1.size; (try simp only [World.size_alloc, World.size_setCell] at z1); skip
  (repeat (first | exact Below.refl _ _ | refine Below.setCell ?_ (by first | omega | (simp; done) | (simp; omega) | (simp only [World.size_alloc, World.size_setCell] at *; omega)) _ | refine Below.alloc ?_ (by first | omega | (simp; done) | (simp; omega) | (simp only [World.size_alloc, World.size_setCell] at *; omega)) _ | refine Below.trans ?_ (Below.mono (by assumption) (by first | omega | (simp; done) | (simp; omega) | (simp only [World.size_alloc, World.size_setCell] at *; omega)))))


set_option maxHeartbeats 2000000 in
theorem law2 (sa sb sc sd se sf m n t : Int) (w : World) : Calls Try.prog 4 #[.agg #[.int .i64 sa, .int .i64 sb, .int .i64 sc, .int .i64 sd, .int .i64 se, .int .i64 sf, .int .i64 m, .int .i64 n, .int .i64 t]] w fun e w' => e = .returned (.bool true) ∧ Below w.heap.size w w' := by
  have B0 := Blk.new w 29 #[.int .i64 sa, .int .i64 sb, .int .i64 sc, .int .i64 sd, .int .i64 se, .int .i64 sf, .int .i64 m, .int .i64 n, .int .i64 t]
  have c0 := B0.cell
  go_enter Try.func4, Try.ntmps4
  go_wp2_with (first
    | (go_at_call 14; refine (error_any _ _ _ _ _ _ _ _ _).mono ?_; rintro e w1 ⟨rfl, hb1⟩; replace B0 := B0.step hb1; clear c0; have c0 := B0.cell)
    | (go_at_call 15; refine (rerror_any _ _ _ _ _ _ _ _ _).mono ?_; rintro e w2 ⟨rfl, hb2⟩; replace B0 := B0.step hb2; clear c0; have c0 := B0.cell)
    | (go_at_call 13; refine (awake_any _).mono ?_; rintro e w3 ⟨rfl, hb3⟩; replace B0 := B0.step hb3; clear c0; have c0 := B0.cell))
  go_ret
  refine ⟨by simp, ?_⟩
  have z1 := hb1.size; (try simp only [World.size_alloc, World.size_setCell] at z1); have z2 := hb2.size; (try simp only [World.size_alloc, World.size_setCell] at z2); have z3 := hb3.size; (try simp only [World.size_alloc, World.size_setCell] at z3); skip
  (repeat (first | exact Below.refl _ _ | refine Below.setCell ?_ (by first | omega | (simp; done) | (simp; omega) | (simp only [World.size_alloc, World.size_setCell] at *; omega)) _ | refine Below.alloc ?_ (by first | omega | (simp; done) | (simp; omega) | (simp only [World.size_alloc, World.size_setCell] at *; omega)) _ | refine Below.trans ?_ (Below.mono (by assumption) (by first | omega | (simp; done) | (simp; omega) | (simp only [World.size_alloc, World.size_setCell] at *; omega)))))

set_option maxHeartbeats 2000000 in
theorem law3 (sa sb sc sd se sf m n t : Int) (w : World) : Calls Try.prog 5 #[.agg #[.int .i64 sa, .int .i64 sb, .int .i64 sc, .int .i64 sd, .int .i64 se, .int .i64 sf, .int .i64 m, .int .i64 n, .int .i64 t]] w fun e w' => e = .returned (.bool true) ∧ Below w.heap.size w w' := by
  have B0 := Blk.new w 29 #[.int .i64 sa, .int .i64 sb, .int .i64 sc, .int .i64 sd, .int .i64 se, .int .i64 sf, .int .i64 m, .int .i64 n, .int .i64 t]
  go_enter Try.func5, Try.ntmps5
  go_wp2_with fail
  have hx : ∀ x : BW (w.alloc (.cells #[.int .i64 sa, .int .i64 sb, .int .i64 sc, .int .i64 sd, .int .i64 se, .int .i64 sf, .int .i64 m, .int .i64 n, .int .i64 t] 29)), ∀ o, x.w.cell? ⟨w.heap.size, o, none⟩ = #[.int .i64 sa, .int .i64 sb, .int .i64 sc, .int .i64 sd, .int .i64 se, .int .i64 sf, .int .i64 m, .int .i64 n, .int .i64 t][o]? := fun x => (B0.bw x).cell
  refine wp_region_calm (by kernel_rfl) (by kernel_rfl) ?_
  repeat (go_big_quiet_step (fail))
  go_big_quiet_want; go_big_quiet_op; go_big_quiet_call (exact calls_bw (fun w => could_any _ _ _ _ _ _ _ _ _ w) _)
  repeat (go_big_quiet_step (fail))
  go_big_quiet_want; go_big_quiet_op; go_big_quiet_call (exact calls_bw (fun w => rcould_any _ _ _ _ _ _ _ _ _ w) _)
  repeat (go_big_quiet_step (fail))
  go_big_quiet_want; go_big_quiet_op; go_big_quiet_call (exact calls_bw (fun w => awake_any w) _)
  repeat (go_big_quiet_step (fail))
  refine wpQuiet_nil ?_
  intro w1 hb1
  go_wp2
  go_ret
  refine ⟨by simp, ?_⟩
  have z1 := hb1.size; (try simp only [World.size_alloc, World.size_setCell] at z1); skip
  (repeat (first | exact Below.refl _ _ | refine Below.setCell ?_ (by first | omega | (simp; done) | (simp; omega) | (simp only [World.size_alloc, World.size_setCell] at *; omega)) _ | refine Below.alloc ?_ (by first | omega | (simp; done) | (simp; omega) | (simp only [World.size_alloc, World.size_setCell] at *; omega)) _ | refine Below.trans ?_ (Below.mono (by assumption) (by first | omega | (simp; done) | (simp; omega) | (simp only [World.size_alloc, World.size_setCell] at *; omega)))))


set_option maxHeartbeats 2000000 in
theorem law4 (sa sb sc sd se sf m n t : Int) (w : World) : Calls Try.prog 6 #[.agg #[.int .i64 sa, .int .i64 sb, .int .i64 sc, .int .i64 sd, .int .i64 se, .int .i64 sf, .int .i64 m, .int .i64 n, .int .i64 t]] w fun e w' => e = .returned (.bool true) ∧ Below w.heap.size w w' := by
  have B0 := Blk.new w 29 #[.int .i64 sa, .int .i64 sb, .int .i64 sc, .int .i64 sd, .int .i64 se, .int .i64 sf, .int .i64 m, .int .i64 n, .int .i64 t]
  have c0 := B0.cell
  go_enter Try.func6, Try.ntmps6
  go_wp2_with (first
    | (go_at_call 18; refine (true_any _ _ _ _ _ _ _ _ _).mono ?_; rintro e w1 ⟨rfl, hb1⟩; replace B0 := B0.step hb1; clear c0; have c0 := B0.cell; have l0 := B0.lt)
    | (go_at_call 19; refine (rtrue_any _ _ _ _ _ _ _ _ _).mono ?_; rintro e w2 ⟨rfl, hb2⟩; have B1 := (Blk.new w1 35 #[.int .i64 (trlo sa sb sc sd se sf n t), .int .i64 (trhi sa sb sc sd se sf n t)]).step hb2; have c1 := B1.cell; have l1 := B1.lt)
    | (go_at_call 13; refine (awake_any _).mono ?_; rintro e w3 ⟨rfl, hb3⟩))
  go_ret
  refine ⟨by simp, ?_⟩
  have z1 := hb1.size; (try simp only [World.size_alloc, World.size_setCell] at z1); have z2 := hb2.size; (try simp only [World.size_alloc, World.size_setCell] at z2); have z3 := hb3.size; (try simp only [World.size_alloc, World.size_setCell] at z3); skip
  (repeat (first | exact Below.refl _ _ | refine Below.setCell ?_ (by first | omega | (simp; done) | (simp; omega) | (simp only [World.size_alloc, World.size_setCell] at *; omega)) _ | refine Below.alloc ?_ (by first | omega | (simp; done) | (simp; omega) | (simp only [World.size_alloc, World.size_setCell] at *; omega)) _ | refine Below.trans ?_ (Below.mono (by assumption) (by first | omega | (simp; done) | (simp; omega) | (simp only [World.size_alloc, World.size_setCell] at *; omega)))))

set_option maxHeartbeats 2000000 in
theorem law5 (sa sb sc sd se sf m n t : Int) (w : World) : Calls Try.prog 7 #[.agg #[.int .i64 sa, .int .i64 sb, .int .i64 sc, .int .i64 sd, .int .i64 se, .int .i64 sf, .int .i64 m, .int .i64 n, .int .i64 t]] w fun e w' => e = .returned (.bool true) ∧ Below w.heap.size w w' := by
  have B0 := Blk.new w 29 #[.int .i64 sa, .int .i64 sb, .int .i64 sc, .int .i64 sd, .int .i64 se, .int .i64 sf, .int .i64 m, .int .i64 n, .int .i64 t]
  have c0 := B0.cell
  go_enter Try.func7, Try.ntmps7
  go_wp2_with (first
    | (go_at_call 20; refine (shows_any _ _ _ _ _ _ _ _ _).mono ?_; rintro e w1 ⟨rfl, hb1⟩; replace B0 := B0.step hb1; clear c0; have c0 := B0.cell; have l0 := B0.lt)
    | (go_at_call 21; refine (rshows_any _ _ _ _ _ _ _ _ _).mono ?_; rintro e w2 ⟨rfl, hb2⟩; have B1 := (Blk.new w1 35 #[.int .i64 (shlo sa sb sc sd se sf m t), .int .i64 (shhi sa sb sc sd se sf m t)]).step hb2; have c1 := B1.cell; have l1 := B1.lt)
    | (go_at_call 13; refine (awake_any _).mono ?_; rintro e w3 ⟨rfl, hb3⟩))
  go_ret
  refine ⟨by simp, ?_⟩
  have z1 := hb1.size; (try simp only [World.size_alloc, World.size_setCell] at z1); have z2 := hb2.size; (try simp only [World.size_alloc, World.size_setCell] at z2); have z3 := hb3.size; (try simp only [World.size_alloc, World.size_setCell] at z3); skip
  (repeat (first | exact Below.refl _ _ | refine Below.setCell ?_ (by first | omega | (simp; done) | (simp; omega) | (simp only [World.size_alloc, World.size_setCell] at *; omega)) _ | refine Below.alloc ?_ (by first | omega | (simp; done) | (simp; omega) | (simp only [World.size_alloc, World.size_setCell] at *; omega)) _ | refine Below.trans ?_ (Below.mono (by assumption) (by first | omega | (simp; done) | (simp; omega) | (simp only [World.size_alloc, World.size_setCell] at *; omega)))))

end Go.Proofs.Ytdaekfjogcnebaa
