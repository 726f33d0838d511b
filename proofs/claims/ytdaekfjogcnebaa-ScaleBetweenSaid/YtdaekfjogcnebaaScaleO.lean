/- The walks of the statements about scales without the reference: ScaleBetween, ScaleGrows. -/
import Derived.Test.YtdaekfjogcnebaaScaleL
import Derived.Test.YtdaekfjogcnebaaScaleQ
namespace Go.Proofs.Ytdaekfjogcnebaa
set_option linter.unusedVariables false
set_option linter.unusedSimpArgs false
open Go.RowKit

set_option maxHeartbeats 2000000 in
theorem law7_bad (sa sb sc sd se sf m n t : Int) (w : World) (h0 : chk sa sb sc sd se sf ≠ 0) : Calls Try.prog 9 #[.agg #[.int .i64 sa, .int .i64 sb, .int .i64 sc, .int .i64 sd, .int .i64 se, .int .i64 sf, .int .i64 m, .int .i64 n, .int .i64 t]] w fun e w' => e = .returned (.bool true) ∧ Below w.heap.size w w' := by
  have hn : errn sa sb sc sd se sf m t ≠ 0 := fun h => h0 (chk_ok.2 (errn_ok.1 h).1)
  have hs : shn sa sb sc sd se sf m t = 1 := by
    have : errn sa sb sc sd se sf m t = 1 := by simp only [errn]; rw [if_pos (.inl h0)]
    simp [shn, this]
  have hk := (chk_01 sa sb sc sd se sf).resolve_left h0
  clear h0 hn
  have B0 := Blk.new w 29 #[.int .i64 sa, .int .i64 sb, .int .i64 sc, .int .i64 sd, .int .i64 se, .int .i64 sf, .int .i64 m, .int .i64 n, .int .i64 t]
  have c0 := B0.cell
  go_enter Try.func9, Try.ntmps9
  go_wp2_with (first
    | (go_at_call 20; refine (shows_any _ _ _ _ _ _ _ _ _).mono ?_; rintro e w1 ⟨rfl, hb1⟩; replace B0 := B0.step hb1; clear c0; have c0 := B0.cell; have l0 := B0.lt)
    | (go_at_call 11; refine (check_any _ _ _ _ _ _ _).mono ?_; rintro e w2 ⟨rfl, hb2⟩)
    | (go_at_call 13; refine (awake_any _).mono ?_; rintro e w3 ⟨rfl, hb3⟩))
  go_ret
  refine ⟨by simp, ?_⟩
  have z1 := hb1.size; (try simp only [World.size_alloc, World.size_setCell] at z1); have z2 := hb2.size; (try simp only [World.size_alloc, World.size_setCell] at z2); have z3 := hb3.size; (try simp only [World.size_alloc, World.size_setCell] at z3); skip
  (repeat (first | exact Below.refl _ _ | refine Below.setCell ?_ (by first | omega | (simp; done) | (simp; omega) | (simp only [World.size_alloc, World.size_setCell] at *; omega)) _ | refine Below.alloc ?_ (by first | omega | (simp; done) | (simp; omega) | (simp only [World.size_alloc, World.size_setCell] at *; omega)) _ | refine Below.trans ?_ (Below.mono (by assumption) (by first | omega | (simp; done) | (simp; omega) | (simp only [World.size_alloc, World.size_setCell] at *; omega)))))

set_option maxHeartbeats 2000000 in
theorem law7_no (sa sb sc sd se sf m n t : Int) (w : World) (hk : chk sa sb sc sd se sf = 0) (h0 : shn sa sb sc sd se sf m t ≠ 0) : Calls Try.prog 9 #[.agg #[.int .i64 sa, .int .i64 sb, .int .i64 sc, .int .i64 sd, .int .i64 se, .int .i64 sf, .int .i64 m, .int .i64 n, .int .i64 t]] w fun e w' => e = .returned (.bool true) ∧ Below w.heap.size w w' := by
  have hc : cld sa sb sc sd se sf m n t = false := between_no h0
  have e1 : shlo sa sb sc sd se sf m t = 0 := by simp [shlo, h0]
  have e2 : shhi sa sb sc sd se sf m t = 0 := by simp [shhi, h0]
  have B0 := Blk.new w 29 #[.int .i64 sa, .int .i64 sb, .int .i64 sc, .int .i64 sd, .int .i64 se, .int .i64 sf, .int .i64 m, .int .i64 n, .int .i64 t]
  have c0 := B0.cell
  go_enter Try.func9, Try.ntmps9
  go_wp2_with (first
    | (go_at_call 20; refine (shows_any _ _ _ _ _ _ _ _ _).mono ?_; rintro e w1 ⟨rfl, hb1⟩; replace B0 := B0.step hb1; clear c0; have c0 := B0.cell; have l0 := B0.lt)
    | (go_at_call 11; refine (check_any _ _ _ _ _ _ _).mono ?_; rintro e w2 ⟨rfl, hb2⟩; replace B0 := (B0.alloc (.cells #[.int .i64 0, .int .i64 0] 35)).step hb2; clear c0; have c0 := B0.cell; have B1 := (Blk.new w1 35 #[.int .i64 0, .int .i64 0]).step hb2; have c1 := B1.cell)
    | (go_at_call 16; refine (could_any _ _ _ _ _ _ _ _ _ _).mono ?_; rintro e w3 ⟨rfl, hb3⟩)
    | (go_at_call 13; refine (awake_any _).mono ?_; rintro e w4 ⟨rfl, hb4⟩))
  go_ret
  refine ⟨by simp, ?_⟩
  have z1 := hb1.size; (try simp only [World.size_alloc, World.size_setCell] at z1); have z2 := hb2.size; (try simp only [World.size_alloc, World.size_setCell] at z2); have z3 := hb3.size; (try simp only [World.size_alloc, World.size_setCell] at z3); have z4 := hb4.size; (try simp only [World.size_alloc, World.size_setCell] at z4); skip
  (repeat (first | exact Below.refl _ _ | refine Below.setCell ?_ (by first | omega | (simp; done) | (simp; omega) | (simp only [World.size_alloc, World.size_setCell] at *; omega)) _ | refine Below.alloc ?_ (by first | omega | (simp; done) | (simp; omega) | (simp only [World.size_alloc, World.size_setCell] at *; omega)) _ | refine Below.trans ?_ (Below.mono (by assumption) (by first | omega | (simp; done) | (simp; omega) | (simp only [World.size_alloc, World.size_setCell] at *; omega)))))

set_option maxHeartbeats 2000000 in
theorem law7_ok (sa sb sc sd se sf m n t : Int) (w : World) (h0 : shn sa sb sc sd se sf m t = 0) : Calls Try.prog 9 #[.agg #[.int .i64 sa, .int .i64 sb, .int .i64 sc, .int .i64 sd, .int .i64 se, .int .i64 sf, .int .i64 m, .int .i64 n, .int .i64 t]] w fun e w' => e = .returned (.bool true) ∧ Below w.heap.size w w' := by
  obtain ⟨s1, s2, s3, s4, s5, s6, s7, s8, s9, hV⟩ := between_ok h0
  have hk : chk sa sb sc sd se sf = 0 := chk_ok.2 hV
  have a1 := hV.a1
  have a2 := hV.a2
  have b2 := hV.b2
  have ha := fun w => shows_any sa sb sc sd se sf m t w
  have hb := fun w => check_any sa sb sc sd se sf w
  have hc := fun w => could_any sa sb sc sd se sf m (shlo sa sb sc sd se sf m t) t w
  have hd := fun w => could_any sa sb sc sd se sf m (shhi sa sb sc sd se sf m t) t w
  have he := fun w => could_any sa sb sc sd se sf m (shlo sa sb sc sd se sf m t - sa) t w
  have hf := fun w => could_any sa sb sc sd se sf m (shhi sa sb sc sd se sf m t + sa) t w
  rw [h0] at ha
  rw [hk] at hb
  rw [s6] at hc
  rw [s7] at hd
  rw [s8] at he
  rw [s9] at hf
  clear hk hV s6 s7 s8 s9 h0
  generalize shlo sa sb sc sd se sf m t = x at *
  generalize shhi sa sb sc sd se sf m t = y at *
  have g4 : (x % sa != 0) = false := by simp [s4]
  have g5 : (y % sa != 0) = false := by simp [s5]
  clear s4 s5
  have x0 : 0 ≤ y := by omega
  have HA := Lib.hid ha
  have HB := Lib.hid hb
  have HC := Lib.hid hc
  have HD := Lib.hid hd
  have HE := Lib.hid he
  have HF := Lib.hid hf
  clear ha hb hc hd he hf
  have B0 := Blk.new w 29 #[.int .i64 sa, .int .i64 sb, .int .i64 sc, .int .i64 sd, .int .i64 se, .int .i64 sf, .int .i64 m, .int .i64 n, .int .i64 t]
  have c0 := B0.cell
  go_enter Try.func9, Try.ntmps9
  go_wp2_with fail
  refine (HA.out _).mono ?_
  rintro e w1 ⟨rfl, hb1⟩; replace B0 := B0.step hb1; clear c0; have c0 := B0.cell
  have l0 := B0.lt
  go_wp2_with fail
  refine (HB.out _).mono ?_
  rintro e w2 ⟨rfl, hb2⟩
  replace B0 := (B0.alloc (.cells #[.int .i64 x, .int .i64 y] 35)).step hb2
  clear c0 l0
  have c0 := B0.cell
  have l0 := B0.lt
  have B1 := (Blk.new w1 35 #[.int .i64 x, .int .i64 y]).step hb2
  have c1 := B1.cell
  have l1 := B1.lt
  go_wp2_with fail
  clear c0 l0 c1 l1
  replace B0 := B0.alloc (.cells #[.int .i64 sa, .int .i64 sb, .int .i64 sc, .int .i64 sd, .int .i64 se, .int .i64 sf] 23)
  replace B1 := B1.alloc (.cells #[.int .i64 sa, .int .i64 sb, .int .i64 sc, .int .i64 sd, .int .i64 se, .int .i64 sf] 23)
  have B2 := Blk.new w2 23 #[.int .i64 sa, .int .i64 sb, .int .i64 sc, .int .i64 sd, .int .i64 se, .int .i64 sf]
  refine (HC.out _).mono ?_
  rintro e w3 ⟨rfl, hb3⟩
  replace B0 := B0.step hb3; have c0 := B0.cell; have l0 := B0.lt
  replace B1 := B1.step hb3; have c1 := B1.cell; have l1 := B1.lt
  replace B2 := B2.step hb3; have c2 := B2.cell; have l2 := B2.lt
  go_wp2_with fail
  clear c0 l0
  clear c1 l1
  clear c2 l2
  skip
  refine (HD.out _).mono ?_
  rintro e w4 ⟨rfl, hb4⟩
  replace B0 := B0.step hb4; have c0 := B0.cell; have l0 := B0.lt
  replace B1 := B1.step hb4; have c1 := B1.cell; have l1 := B1.lt
  replace B2 := B2.step hb4; have c2 := B2.cell; have l2 := B2.lt
  go_wp2_with fail
  clear c0 l0
  clear c1 l1
  clear c2 l2
  skip
  refine (HE.out _).mono ?_
  rintro e w5 ⟨rfl, hb5⟩
  replace B0 := B0.step hb5; have c0 := B0.cell; have l0 := B0.lt
  replace B1 := B1.step hb5; have c1 := B1.cell; have l1 := B1.lt
  replace B2 := B2.step hb5; have c2 := B2.cell; have l2 := B2.lt
  go_wp2_with fail
  clear c0 l0
  clear c1 l1
  clear c2 l2
  skip
  refine (HF.out _).mono ?_
  rintro e w6 ⟨rfl, hb6⟩
  replace B0 := B0.step hb6; have c0 := B0.cell; have l0 := B0.lt
  replace B1 := B1.step hb6; have c1 := B1.cell; have l1 := B1.lt
  replace B2 := B2.step hb6; have c2 := B2.cell; have l2 := B2.lt
  go_wp2_with fail
  clear c0 l0
  clear c1 l1
  clear c2 l2
  skip
  refine (awake_any _).mono ?_
  rintro e w7 ⟨rfl, hb7⟩
  replace B0 := B0.step hb7; have c0 := B0.cell; have l0 := B0.lt
  replace B1 := B1.step hb7; have c1 := B1.cell; have l1 := B1.lt
  replace B2 := B2.step hb7; have c2 := B2.cell; have l2 := B2.lt
  go_wp2_with fail
  clear c0 l0
  clear c1 l1
  clear c2 l2
  skip
  go_ret
  refine ⟨by simp, ?_⟩
  have z1 := hb1.size; (try simp only [World.size_alloc, World.size_setCell] at z1); have z2 := hb2.size; (try simp only [World.size_alloc, World.size_setCell] at z2); have z3 := hb3.size; (try simp only [World.size_alloc, World.size_setCell] at z3); have z4 := hb4.size; (try simp only [World.size_alloc, World.size_setCell] at z4); have z5 := hb5.size; (try simp only [World.size_alloc, World.size_setCell] at z5); have z6 := hb6.size; (try simp only [World.size_alloc, World.size_setCell] at z6); have z7 := hb7.size; (try simp only [World.size_alloc, World.size_setCell] at z7); skip
  (repeat (first | exact Below.refl _ _ | refine Below.setCell ?_ (by first | omega | (simp; done) | (simp; omega) | (simp only [World.size_alloc, World.size_setCell] at *; omega)) _ | refine Below.alloc ?_ (by first | omega | (simp; done) | (simp; omega) | (simp only [World.size_alloc, World.size_setCell] at *; omega)) _ | refine Below.trans ?_ (Below.mono (by assumption) (by first | omega | (simp; done) | (simp; omega) | (simp only [World.size_alloc, World.size_setCell] at *; omega)))))

end Go.Proofs.Ytdaekfjogcnebaa
