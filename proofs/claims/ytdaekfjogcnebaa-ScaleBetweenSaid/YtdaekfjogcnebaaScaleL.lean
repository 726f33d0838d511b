/- Contract: the fixed example of the statements about scales. -/
import Derived.Test.YtdaekfjogcnebaaScaleI
import Derived.Test.YtdaekfjogcnebaaScaleJ
namespace Go.Proofs.Ytdaekfjogcnebaa
set_option linter.unusedVariables false
set_option linter.unusedSimpArgs false
open Go.RowKit

theorem ex_true1 : TrueIs 500 200 0 0 0 12000 0 11550 12450 := by
  refine ⟨by omega, by omega, by omega, by omega, fun m h0 h1 => ?_⟩
  rw [nearB_iff]
  unfold bnd begun
  omega
theorem ex_t1 : trn 500 30000 200 0 0 0 12000 0 = 0 := by decide
theorem ex_t2 : trlo 500 30000 200 0 0 0 12000 0 = 11550 := by rw [trlo, if_pos ex_t1, (tSpan_eq ex_true1).1]
theorem ex_t3 : trhi 500 30000 200 0 0 0 12000 0 = 12450 := by rw [trhi, if_pos ex_t1, (tSpan_eq ex_true1).2]
theorem ex_s1 : shn 500 30000 200 0 0 0 12300 0 = 0 := by decide
theorem ex_s2 : shlo 500 30000 200 0 0 0 12300 0 = 12000 := by decide
theorem ex_s3 : shhi 500 30000 200 0 0 0 12300 0 = 12500 := by decide
theorem ex_s4 : shn 500 30000 200 0 0 0 30451 0 = 10 := by decide
theorem ex_e1 : errn 500 30000 200 10 5 0 101 86401 = 0 := by decide
theorem ex_e2 : errv 500 30000 200 10 5 0 101 86401 = 212 := by decide
theorem ex_t4 : trn 500 30000 200 10 5 0 250 0 = 1 := by decide
theorem ex_c1 : chk 500 30000 200 10 5 0 = 0 := by decide
theorem ex_c2 : chk 500 30000 200 101 0 0 = 1 := by decide
theorem ex_d1 : cld 500 30000 200 10 5 0 12000 12000 0 = true := by decide
theorem ex_d2 : cld 500 30000 200 10 5 0 12000 14000 0 = false := by decide

theorem ex_s5 : shlo 500 30000 200 0 0 0 30451 0 = 0 := by decide
theorem ex_s6 : shhi 500 30000 200 0 0 0 30451 0 = 0 := by decide
theorem ex_t5 : trlo 500 30000 200 10 5 0 250 0 = 0 := by rw [trlo, if_neg (by rw [ex_t4]; decide)]
theorem ex_t6 : trhi 500 30000 200 10 5 0 250 0 = 0 := by rw [trhi, if_neg (by rw [ex_t4]; decide)]
theorem aw1 (w : World) : Calls Try.prog 18 #[.agg #[.int .i64 500, .int .i64 30000, .int .i64 200, .int .i64 0, .int .i64 0, .int .i64 0], .int .i64 12000, .int .i64 0] w fun e w' => e = .returned (.tuple #[.agg #[.int .i64 11550, .int .i64 12450], .int .i64 0]) ∧ Below w.heap.size w w' := by
  have h := true_any 500 30000 200 0 0 0 12000 0 w
  rwa [ex_t1, ex_t2, ex_t3] at h
theorem aw2 (w : World) : Calls Try.prog 20 #[.agg #[.int .i64 500, .int .i64 30000, .int .i64 200, .int .i64 0, .int .i64 0, .int .i64 0], .int .i64 12300, .int .i64 0] w fun e w' => e = .returned (.tuple #[.agg #[.int .i64 12000, .int .i64 12500], .int .i64 0]) ∧ Below w.heap.size w w' := by
  have h := shows_any 500 30000 200 0 0 0 12300 0 w
  rwa [ex_s1, ex_s2, ex_s3] at h
theorem aw3 (w : World) : Calls Try.prog 20 #[.agg #[.int .i64 500, .int .i64 30000, .int .i64 200, .int .i64 0, .int .i64 0, .int .i64 0], .int .i64 30451, .int .i64 0] w fun e w' => e = .returned (.tuple #[.agg #[.int .i64 0, .int .i64 0], .int .i64 10]) ∧ Below w.heap.size w w' := by
  have h := shows_any 500 30000 200 0 0 0 30451 0 w
  rwa [ex_s4, ex_s5, ex_s6] at h
theorem aw4 (w : World) : Calls Try.prog 14 #[.agg #[.int .i64 500, .int .i64 30000, .int .i64 200, .int .i64 10, .int .i64 5, .int .i64 0], .int .i64 101, .int .i64 86401] w fun e w' => e = .returned (.tuple #[.int .i64 212, .int .i64 0]) ∧ Below w.heap.size w w' := by
  have h := error_any 500 30000 200 10 5 0 101 86401 w
  rwa [ex_e1, ex_e2] at h
theorem aw5 (w : World) : Calls Try.prog 18 #[.agg #[.int .i64 500, .int .i64 30000, .int .i64 200, .int .i64 10, .int .i64 5, .int .i64 0], .int .i64 250, .int .i64 0] w fun e w' => e = .returned (.tuple #[.agg #[.int .i64 0, .int .i64 0], .int .i64 1]) ∧ Below w.heap.size w w' := by
  have h := true_any 500 30000 200 10 5 0 250 0 w
  rwa [ex_t4, ex_t5, ex_t6] at h
theorem aw6 (w : World) : Calls Try.prog 11 #[.agg #[.int .i64 500, .int .i64 30000, .int .i64 200, .int .i64 10, .int .i64 5, .int .i64 0]] w fun e w' => e = .returned (.int .i64 0) ∧ Below w.heap.size w w' := by
  have h := check_any 500 30000 200 10 5 0 w
  rwa [ex_c1] at h
theorem aw7 (w : World) : Calls Try.prog 11 #[.agg #[.int .i64 500, .int .i64 30000, .int .i64 200, .int .i64 101, .int .i64 0, .int .i64 0]] w fun e w' => e = .returned (.int .i64 1) ∧ Below w.heap.size w w' := by
  have h := check_any 500 30000 200 101 0 0 w
  rwa [ex_c2] at h
theorem aw8 (w : World) : Calls Try.prog 16 #[.agg #[.int .i64 500, .int .i64 30000, .int .i64 200, .int .i64 10, .int .i64 5, .int .i64 0], .int .i64 12000, .int .i64 12000, .int .i64 0] w fun e w' => e = .returned (.bool true) ∧ Below w.heap.size w w' := by
  have h := could_any 500 30000 200 10 5 0 12000 12000 0 w
  rwa [ex_d1] at h
theorem aw9 (w : World) : Calls Try.prog 16 #[.agg #[.int .i64 500, .int .i64 30000, .int .i64 200, .int .i64 10, .int .i64 5, .int .i64 0], .int .i64 12000, .int .i64 14000, .int .i64 0] w fun e w' => e = .returned (.bool false) ∧ Below w.heap.size w w' := by
  have h := could_any 500 30000 200 10 5 0 12000 14000 0 w
  rwa [ex_d2] at h

set_option maxHeartbeats 2000000 in
theorem awake_any (w : World) : Calls Try.prog 13 #[] w fun e w' => e = .returned (.bool true) ∧ Below w.heap.size w w' := by
  have B0 := (Blk.new w 23 #[.int .i64 500, .int .i64 30000, .int .i64 200, .int .i64 0, .int .i64 0, .int .i64 0]).alloc (.cells #[.int .i64 500, .int .i64 30000, .int .i64 200, .int .i64 101, .int .i64 0, .int .i64 0] 23)
  have B1 := Blk.new (w.alloc (.cells #[.int .i64 500, .int .i64 30000, .int .i64 200, .int .i64 0, .int .i64 0, .int .i64 0] 23)) 23 #[.int .i64 500, .int .i64 30000, .int .i64 200, .int .i64 101, .int .i64 0, .int .i64 0]
  simp only [World.size_alloc] at B1
  go_enter Try.func13, Try.ntmps13
  go_wp2_with fail
  refine (aw1 _).mono ?_
  rintro e w1 ⟨rfl, hb1⟩
  replace B0 := B0.step hb1; have c0 := B0.cell; have f0 := B0.free; have l0 := B0.lt
  replace B1 := B1.step hb1; have c1 := B1.cell; have f1 := B1.free; have l1 := B1.lt
  go_wp2_with fail
  clear c0 f0 l0
  clear c1 f1 l1
  skip
  have B2 := Blk.new w1 35 #[.int .i64 11550, .int .i64 12450]
  replace B0 := B0.alloc (.cells #[.int .i64 11550, .int .i64 12450] 35)
  replace B1 := B1.alloc (.cells #[.int .i64 11550, .int .i64 12450] 35)
  skip
  refine (aw2 _).mono ?_
  rintro e w2 ⟨rfl, hb2⟩
  replace B0 := B0.step hb2; have c0 := B0.cell; have f0 := B0.free; have l0 := B0.lt
  replace B1 := B1.step hb2; have c1 := B1.cell; have f1 := B1.free; have l1 := B1.lt
  replace B2 := B2.step hb2; have c2 := B2.cell; have f2 := B2.free; have l2 := B2.lt
  go_wp2_with fail
  clear c0 f0 l0
  clear c1 f1 l1
  clear c2 f2 l2
  skip
  have B3 := Blk.new w2 35 #[.int .i64 12000, .int .i64 12500]
  replace B0 := B0.alloc (.cells #[.int .i64 12000, .int .i64 12500] 35)
  replace B1 := B1.alloc (.cells #[.int .i64 12000, .int .i64 12500] 35)
  replace B2 := B2.alloc (.cells #[.int .i64 12000, .int .i64 12500] 35)
  skip
  refine (aw3 _).mono ?_
  rintro e w3 ⟨rfl, hb3⟩
  replace B0 := B0.step hb3; have c0 := B0.cell; have f0 := B0.free; have l0 := B0.lt
  replace B1 := B1.step hb3; have c1 := B1.cell; have f1 := B1.free; have l1 := B1.lt
  replace B2 := B2.step hb3; have c2 := B2.cell; have f2 := B2.free; have l2 := B2.lt
  replace B3 := B3.step hb3; have c3 := B3.cell; have f3 := B3.free; have l3 := B3.lt
  go_wp2_with fail
  clear c0 f0 l0
  clear c1 f1 l1
  clear c2 f2 l2
  clear c3 f3 l3
  skip
  have z1 := hb1.size; (try simp only [World.size_alloc, World.size_setCell] at z1); have z2 := hb2.size; (try simp only [World.size_alloc, World.size_setCell] at z2); have z3 := hb3.size; (try simp only [World.size_alloc, World.size_setCell] at z3); skip
  replace B0 := ((B0.put 3 (.int .i64 10)).put 4 (.int .i64 5)).alloc (.cells #[.int .i64 0, .int .i64 0] 35)
  change Blk _ _ _ #[.int .i64 500, .int .i64 30000, .int .i64 200, .int .i64 10, .int .i64 5, .int .i64 0] at B0
  replace B1 := ((B1.far (p := ⟨w.heap.size, 3, none⟩) (by show _ ≠ w.heap.size; omega) (.int .i64 10)).far (p := ⟨w.heap.size, 4, none⟩) (by show _ ≠ w.heap.size; omega) (.int .i64 5)).alloc (.cells #[.int .i64 0, .int .i64 0] 35)
  replace B2 := ((B2.far (p := ⟨w.heap.size, 3, none⟩) (by show _ ≠ w.heap.size; omega) (.int .i64 10)).far (p := ⟨w.heap.size, 4, none⟩) (by show _ ≠ w.heap.size; omega) (.int .i64 5)).alloc (.cells #[.int .i64 0, .int .i64 0] 35)
  replace B3 := ((B3.far (p := ⟨w.heap.size, 3, none⟩) (by show _ ≠ w.heap.size; omega) (.int .i64 10)).far (p := ⟨w.heap.size, 4, none⟩) (by show _ ≠ w.heap.size; omega) (.int .i64 5)).alloc (.cells #[.int .i64 0, .int .i64 0] 35)
  clear z1 z2 z3
  refine (aw4 _).mono ?_
  rintro e w4 ⟨rfl, hb4⟩
  replace B0 := B0.step hb4; have c0 := B0.cell; have f0 := B0.free; have l0 := B0.lt
  replace B1 := B1.step hb4; have c1 := B1.cell; have f1 := B1.free; have l1 := B1.lt
  replace B2 := B2.step hb4; have c2 := B2.cell; have f2 := B2.free; have l2 := B2.lt
  replace B3 := B3.step hb4; have c3 := B3.cell; have f3 := B3.free; have l3 := B3.lt
  go_wp2_with fail
  clear c0 f0 l0
  clear c1 f1 l1
  clear c2 f2 l2
  clear c3 f3 l3
  skip
  refine (aw5 _).mono ?_
  rintro e w5 ⟨rfl, hb5⟩
  replace B0 := B0.step hb5; have c0 := B0.cell; have f0 := B0.free; have l0 := B0.lt
  replace B1 := B1.step hb5; have c1 := B1.cell; have f1 := B1.free; have l1 := B1.lt
  replace B2 := B2.step hb5; have c2 := B2.cell; have f2 := B2.free; have l2 := B2.lt
  replace B3 := B3.step hb5; have c3 := B3.cell; have f3 := B3.free; have l3 := B3.lt
  go_wp2_with fail
  clear c0 f0 l0
  clear c1 f1 l1
  clear c2 f2 l2
  clear c3 f3 l3
  skip
  replace B0 := B0.alloc (.cells #[.int .i64 0, .int .i64 0] 35)
  replace B1 := B1.alloc (.cells #[.int .i64 0, .int .i64 0] 35)
  replace B2 := B2.alloc (.cells #[.int .i64 0, .int .i64 0] 35)
  replace B3 := B3.alloc (.cells #[.int .i64 0, .int .i64 0] 35)
  skip
  refine (aw6 _).mono ?_
  rintro e w6 ⟨rfl, hb6⟩
  replace B0 := B0.step hb6; have c0 := B0.cell; have f0 := B0.free; have l0 := B0.lt
  replace B1 := B1.step hb6; have c1 := B1.cell; have f1 := B1.free; have l1 := B1.lt
  replace B2 := B2.step hb6; have c2 := B2.cell; have f2 := B2.free; have l2 := B2.lt
  replace B3 := B3.step hb6; have c3 := B3.cell; have f3 := B3.free; have l3 := B3.lt
  go_wp2_with fail
  clear c0 f0 l0
  clear c1 f1 l1
  clear c2 f2 l2
  clear c3 f3 l3
  skip
  refine (aw7 _).mono ?_
  rintro e w7 ⟨rfl, hb7⟩
  replace B0 := B0.step hb7; have c0 := B0.cell; have f0 := B0.free; have l0 := B0.lt
  replace B1 := B1.step hb7; have c1 := B1.cell; have f1 := B1.free; have l1 := B1.lt
  replace B2 := B2.step hb7; have c2 := B2.cell; have f2 := B2.free; have l2 := B2.lt
  replace B3 := B3.step hb7; have c3 := B3.cell; have f3 := B3.free; have l3 := B3.lt
  go_wp2_with fail
  clear c0 f0 l0
  clear c1 f1 l1
  clear c2 f2 l2
  clear c3 f3 l3
  skip
  refine (aw8 _).mono ?_
  rintro e w8 ⟨rfl, hb8⟩
  replace B0 := B0.step hb8; have c0 := B0.cell; have f0 := B0.free; have l0 := B0.lt
  replace B1 := B1.step hb8; have c1 := B1.cell; have f1 := B1.free; have l1 := B1.lt
  replace B2 := B2.step hb8; have c2 := B2.cell; have f2 := B2.free; have l2 := B2.lt
  replace B3 := B3.step hb8; have c3 := B3.cell; have f3 := B3.free; have l3 := B3.lt
  go_wp2_with fail
  clear c0 f0 l0
  clear c1 f1 l1
  clear c2 f2 l2
  clear c3 f3 l3
  skip
  refine (aw9 _).mono ?_
  rintro e w9 ⟨rfl, hb9⟩
  replace B0 := B0.step hb9; have c0 := B0.cell; have f0 := B0.free; have l0 := B0.lt
  replace B1 := B1.step hb9; have c1 := B1.cell; have f1 := B1.free; have l1 := B1.lt
  replace B2 := B2.step hb9; have c2 := B2.cell; have f2 := B2.free; have l2 := B2.lt
  replace B3 := B3.step hb9; have c3 := B3.cell; have f3 := B3.free; have l3 := B3.lt
  go_wp2_with fail
  clear c0 f0 l0
  clear c1 f1 l1
  clear c2 f2 l2
  clear c3 f3 l3
  skip
  go_ret
  refine ⟨by simp, ?_⟩
  have z1 := hb1.size; (try simp only [World.size_alloc, World.size_setCell] at z1); have z2 := hb2.size; (try simp only [World.size_alloc, World.size_setCell] at z2); have z3 := hb3.size; (try simp only [World.size_alloc, World.size_setCell] at z3); have z4 := hb4.size; (try simp only [World.size_alloc, World.size_setCell] at z4); have z5 := hb5.size; (try simp only [World.size_alloc, World.size_setCell] at z5); have z6 := hb6.size; (try simp only [World.size_alloc, World.size_setCell] at z6); have z7 := hb7.size; (try simp only [World.size_alloc, World.size_setCell] at z7); have z8 := hb8.size; (try simp only [World.size_alloc, World.size_setCell] at z8); have z9 := hb9.size; (try simp only [World.size_alloc, World.size_setCell] at z9); skip
  (repeat (first | exact Below.refl _ _ | refine Below.setCell ?_ (by first | omega | (simp; done) | (simp; omega) | (simp only [World.size_alloc, World.size_setCell] at *; omega)) _ | refine Below.alloc ?_ (by first | omega | (simp; done) | (simp; omega) | (simp only [World.size_alloc, World.size_setCell] at *; omega)) _ | refine Below.trans ?_ (Below.mono (by assumption) (by first | omega | (simp; done) | (simp; omega) | (simp only [World.size_alloc, World.size_setCell] at *; omega)))))

end Go.Proofs.Ytdaekfjogcnebaa
