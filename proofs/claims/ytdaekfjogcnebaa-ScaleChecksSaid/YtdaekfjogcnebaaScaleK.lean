/- Contracts: Shows of the reference. -/
import Derived.Test.YtdaekfjogcnebaaScaleD
namespace Go.Proofs.Ytdaekfjogcnebaa
set_option linter.unusedVariables false
set_option linter.unusedSimpArgs false
open Go.RowKit


set_option maxHeartbeats 1000000 in
theorem rshows_no (sa sb sc sd se sf m t : Int) (w : World) (hn : errn sa sb sc sd se sf m t ≠ 0) :
    Calls Try.prog 21 #[.agg #[.int .i64 sa, .int .i64 sb, .int .i64 sc, .int .i64 sd, .int .i64 se, .int .i64 sf], .int .i64 m, .int .i64 t] w fun e w' => e = .returned (.tuple #[.agg #[.int .i64 0, .int .i64 0], .int .i64 (errn sa sb sc sd se sf m t)]) ∧ Below w.heap.size w w' := by
  have B1 := Blk.new (w.alloc (.cells #[.int .i64 sa, .int .i64 sb, .int .i64 sc, .int .i64 sd, .int .i64 se, .int .i64 sf] 23)) 35 #[.int .i64 0, .int .i64 0]
  have c1 := B1.cell
  simp only [World.size_alloc] at B1 c1
  have he : errv sa sb sc sd se sf m t = 0 := by simp [errv, hn]
  go_enter Try.func21, Try.ntmps21
  go_wp2_with (go_at_call 15; refine (rerror_any _ _ _ _ _ _ _ _ _).mono ?_; rintro e w1 ⟨rfl, hb1⟩; replace B1 := B1.step hb1; clear c1; have c1 := B1.cell; have f1 := B1.free)
  refine bodyPost_ret (v := .tuple #[.agg #[.int .i64 0, .int .i64 0], .int .i64 (errn sa sb sc sd se sf m t)]) (by simp only [results, Try.results21]; go_simp) rfl ⟨rfl, ?_⟩
  have z1 := hb1.size; (try simp only [World.size_alloc, World.size_setCell] at z1); skip
  (repeat (first | exact Below.refl _ _ | refine Below.setCell ?_ (by first | omega | (simp; done) | (simp; omega) | (simp only [World.size_alloc, World.size_setCell] at *; omega)) _ | refine Below.alloc ?_ (by first | omega | (simp; done) | (simp; omega) | (simp only [World.size_alloc, World.size_setCell] at *; omega)) _ | refine Below.trans ?_ (Below.mono (by assumption) (by first | omega | (simp; done) | (simp; omega) | (simp only [World.size_alloc, World.size_setCell] at *; omega)))))

set_option maxHeartbeats 4000000 in
theorem rshows_core (sa sb sc sd se sf m t E L H : Int) (w : World) (hE0 : 0 ≤ E) (hE : E ≤ 3860000000) (he : ∀ w, Calls Try.prog 15 #[.agg #[.int .i64 sa, .int .i64 sb, .int .i64 sc, .int .i64 sd, .int .i64 se, .int .i64 sf], .int .i64 m, .int .i64 t] w fun e w' => e = .returned (.tuple #[.int .i64 E, .int .i64 0]) ∧ Below w.heap.size w w')
    (hm : 0 ≤ m) (hm' : m ≤ 1073741824) (a1 : 1 ≤ sa) (a2 : sa ≤ 10000) (b1 : sa ≤ sb) (b2 : sb ≤ 1073741824) (hL : rsLo sa E m = L) (hH : rsHi sa sb E m = H) :
    Calls Try.prog 21 #[.agg #[.int .i64 sa, .int .i64 sb, .int .i64 sc, .int .i64 sd, .int .i64 se, .int .i64 sf], .int .i64 m, .int .i64 t] w fun e w' => e = .returned (.tuple #[.agg #[.int .i64 (if L > H then 0 else L), .int .i64 (if L > H then 0 else H)], .int .i64 (if L > H then 10 else 0)]) ∧ Below w.heap.size w w' := by
  have HE := Lib.hid he
  have HL := Lib.hid hL
  have HH := Lib.hid hH
  clear he hL hH
  have B0 := (Blk.new w 23 #[.int .i64 sa, .int .i64 sb, .int .i64 sc, .int .i64 sd, .int .i64 se, .int .i64 sf]).alloc (.cells #[.int .i64 0, .int .i64 0] 35)
  have B1 := Blk.new (w.alloc (.cells #[.int .i64 sa, .int .i64 sb, .int .i64 sc, .int .i64 sd, .int .i64 se, .int .i64 sf] 23)) 35 #[.int .i64 0, .int .i64 0]
  have c0 := B0.cell
  have c1 := B1.cell
  simp only [World.size_alloc] at B1 c1
  have hcase : (L > H ∧ (if L > H then (0 : Int) else L) = 0 ∧ (if L > H then (0 : Int) else H) = 0 ∧ (if L > H then (10 : Int) else 0) = 10) ∨ (¬ L > H ∧ (if L > H then (0 : Int) else L) = L ∧ (if L > H then (0 : Int) else H) = H ∧ (if L > H then (10 : Int) else 0) = 0) := by
    by_cases h : L > H
    · exact .inl ⟨h, if_pos h, if_pos h, if_pos h⟩
    · exact .inr ⟨h, if_neg h, if_neg h, if_neg h⟩
  generalize (if L > H then (0 : Int) else L) = x1 at *
  generalize (if L > H then (0 : Int) else H) = x2 at *
  generalize (if L > H then (10 : Int) else 0) = x3 at *
  have HC := Lib.hid hcase
  clear hcase
  have hl := HL.out
  unfold rsLo at hl
  have hh := HH.out
  unfold rsHi at hh
  clear HL HH
  obtain ⟨d5, d6, d7, d8⟩ := dm2 (x := 2 * m + (2 * E + sa)) (a := sa) (by omega) a1
  obtain ⟨d9, d10, d11, d12⟩ := dm (x := sb) (a := sa) (by omega) a1
  have GH := Lib.hid hh
  clear hh
  by_cases g1 : 2 * m - (2 * E + sa) < 0
  · rw [if_pos g1, Int.zero_add] at hl
    obtain ⟨d1, d2, d3, d4⟩ := dm2 (x := 2 * sa - 1) (a := sa) (by omega) a1
    have GL := Lib.hid hl
    clear hl
    go_enter Try.func21, Try.ntmps21
    go_wp2_with (go_at_call 15; refine (HE.out _).mono ?_; rintro e w1 ⟨rfl, hb1⟩; replace B0 := B0.step hb1; clear c0; have c0 := B0.cell; replace B1 := B1.step hb1; clear c1; have c1 := B1.cell)
    have hx : ∀ x : BW w1, ∀ o, x.w.cell? ⟨w.heap.size, o, none⟩ = #[.int .i64 sa, .int .i64 sb, .int .i64 sc, .int .i64 sd, .int .i64 se, .int .i64 sf][o]? := fun x => (B0.bw x).cell
    refine wp_region_calm (by kernel_rfl) (by kernel_rfl) ?_
    repeat (go_big_quiet_step (fail))
    refine wpQuiet_nil ?_
    intro w2 hb2
    have l0 : 0 ≤ L ∧ L ≤ 3000000000 := by have := GL.out; omega
    rw [GL.out]
    replace B0 := B0.step hb2; clear c0; have c0 := B0.cell
    replace B1 := B1.step hb2; clear c1; have c1 := B1.cell
    clear GL hx d1 d2 d3 d4
    obtain ⟨l0, l1⟩ := l0
    have hx : ∀ x : BW w2, ∀ o, x.w.cell? ⟨w.heap.size, o, none⟩ = #[.int .i64 sa, .int .i64 sb, .int .i64 sc, .int .i64 sd, .int .i64 se, .int .i64 sf][o]? := fun x => (B0.bw x).cell
    go_wp2_with fail
    refine wp_region_calm (by kernel_rfl) (by kernel_rfl) ?_
    repeat (go_big_quiet_step (fail))
    refine wpQuiet_nil ?_
    intro w3 hb3
    replace B0 := B0.step hb3; clear c0; have c0 := B0.cell
    replace B1 := B1.step hb3; clear c1; have c1 := B1.cell
    clear hx
    have hx : ∀ x : BW w3, ∀ o, x.w.cell? ⟨w.heap.size, o, none⟩ = #[.int .i64 sa, .int .i64 sb, .int .i64 sc, .int .i64 sd, .int .i64 se, .int .i64 sf][o]? := fun x => (B0.bw x).cell
    go_wp2_with fail
    by_cases g2 : (2 * m + (2 * E + sa)) / (2 * sa) * sa > sb / sa * sa
    · have hh := GH.out
      rw [if_pos g2] at hh
      have GH2 := Lib.hid hh
      clear hh GH
      refine wp_region_calm (by kernel_rfl) (by kernel_rfl) ?_
      repeat (go_big_quiet_step (fail))
      refine wpQuiet_nil ?_
      intro w4 hb4
      replace B0 := B0.step hb4; clear c0; have c0 := B0.cell
      replace B1 := B1.step hb4; clear c1; have c1 := B1.cell
      clear hx
      have hx : ∀ x : BW w4, ∀ o, x.w.cell? ⟨w.heap.size, o, none⟩ = #[.int .i64 sa, .int .i64 sb, .int .i64 sc, .int .i64 sd, .int .i64 se, .int .i64 sf][o]? := fun x => (B0.bw x).cell
      go_wp2_with fail
      refine wp_region_calm (by kernel_rfl) (by kernel_rfl) ?_
      repeat (go_big_quiet_step (fail))
      refine wpQuiet_nil ?_
      intro w5 hb5
      replace B0 := B0.step hb5; clear c0; have c0 := B0.cell
      replace B1 := B1.step hb5; clear c1; have c1 := B1.cell
      have f1 := B1.free
      rw [GH2.out]
      clear hx GH2
      rcases HC.out with ⟨h, r1, r2, r3⟩ | ⟨h, r1, r2, r3⟩
      · have R1 := Lib.hid r1
        have R2 := Lib.hid r2
        have R3 := Lib.hid r3
        clear r1 r2 r3
        go_wp2
        refine bodyPost_ret (v := .tuple #[.agg #[.int .i64 0, .int .i64 0], .int .i64 10]) (by simp only [results, Try.results21]; go_simp) rfl ⟨by rw [R1.out, R2.out, R3.out], ?_⟩
        have z1 := hb1.size; (try simp only [World.size_alloc, World.size_setCell] at z1); have z2 := hb2.size; (try simp only [World.size_alloc, World.size_setCell] at z2); have z3 := hb3.size; (try simp only [World.size_alloc, World.size_setCell] at z3); have z4 := hb4.size; (try simp only [World.size_alloc, World.size_setCell] at z4); have z5 := hb5.size; (try simp only [World.size_alloc, World.size_setCell] at z5); skip
        (repeat (first | exact Below.refl _ _ | refine Below.setCell ?_ (by first | omega | (simp; done) | (simp; omega) | (simp only [World.size_alloc, World.size_setCell] at *; omega)) _ | refine Below.alloc ?_ (by first | omega | (simp; done) | (simp; omega) | (simp only [World.size_alloc, World.size_setCell] at *; omega)) _ | refine Below.trans ?_ (Below.mono (by assumption) (by first | omega | (simp; done) | (simp; omega) | (simp only [World.size_alloc, World.size_setCell] at *; omega)))))
      · have R1 := Lib.hid r1
        have R2 := Lib.hid r2
        have R3 := Lib.hid r3
        clear r1 r2 r3
        go_wp2
        refine bodyPost_ret (v := .tuple #[.agg #[.int .i64 L, .int .i64 H], .int .i64 0]) (by simp only [results, Try.results21]; go_simp) rfl ⟨by rw [R1.out, R2.out, R3.out], ?_⟩
        have z1 := hb1.size; (try simp only [World.size_alloc, World.size_setCell] at z1); have z2 := hb2.size; (try simp only [World.size_alloc, World.size_setCell] at z2); have z3 := hb3.size; (try simp only [World.size_alloc, World.size_setCell] at z3); have z4 := hb4.size; (try simp only [World.size_alloc, World.size_setCell] at z4); have z5 := hb5.size; (try simp only [World.size_alloc, World.size_setCell] at z5); skip
        (repeat (first | exact Below.refl _ _ | refine Below.setCell ?_ (by first | omega | (simp; done) | (simp; omega) | (simp only [World.size_alloc, World.size_setCell] at *; omega)) _ | refine Below.alloc ?_ (by first | omega | (simp; done) | (simp; omega) | (simp only [World.size_alloc, World.size_setCell] at *; omega)) _ | refine Below.trans ?_ (Below.mono (by assumption) (by first | omega | (simp; done) | (simp; omega) | (simp only [World.size_alloc, World.size_setCell] at *; omega)))))
    · have hh := GH.out
      rw [if_neg g2] at hh
      have GH2 := Lib.hid hh
      clear hh GH
      refine wp_region_calm (by kernel_rfl) (by kernel_rfl) ?_
      repeat (go_big_quiet_step (fail))
      refine wpQuiet_nil ?_
      intro w4 hb4
      replace B0 := B0.step hb4; clear c0; have c0 := B0.cell
      replace B1 := B1.step hb4; clear c1; have c1 := B1.cell
      have f1 := B1.free
      rw [GH2.out]
      clear hx GH2
      rcases HC.out with ⟨h, r1, r2, r3⟩ | ⟨h, r1, r2, r3⟩
      · have R1 := Lib.hid r1
        have R2 := Lib.hid r2
        have R3 := Lib.hid r3
        clear r1 r2 r3
        go_wp2
        refine bodyPost_ret (v := .tuple #[.agg #[.int .i64 0, .int .i64 0], .int .i64 10]) (by simp only [results, Try.results21]; go_simp) rfl ⟨by rw [R1.out, R2.out, R3.out], ?_⟩
        have z1 := hb1.size; (try simp only [World.size_alloc, World.size_setCell] at z1); have z2 := hb2.size; (try simp only [World.size_alloc, World.size_setCell] at z2); have z3 := hb3.size; (try simp only [World.size_alloc, World.size_setCell] at z3); have z4 := hb4.size; (try simp only [World.size_alloc, World.size_setCell] at z4); skip
        (repeat (first | exact Below.refl _ _ | refine Below.setCell ?_ (by first | omega | (simp; done) | (simp; omega) | (simp only [World.size_alloc, World.size_setCell] at *; omega)) _ | refine Below.alloc ?_ (by first | omega | (simp; done) | (simp; omega) | (simp only [World.size_alloc, World.size_setCell] at *; omega)) _ | refine Below.trans ?_ (Below.mono (by assumption) (by first | omega | (simp; done) | (simp; omega) | (simp only [World.size_alloc, World.size_setCell] at *; omega)))))
      · have R1 := Lib.hid r1
        have R2 := Lib.hid r2
        have R3 := Lib.hid r3
        clear r1 r2 r3
        go_wp2
        refine bodyPost_ret (v := .tuple #[.agg #[.int .i64 L, .int .i64 H], .int .i64 0]) (by simp only [results, Try.results21]; go_simp) rfl ⟨by rw [R1.out, R2.out, R3.out], ?_⟩
        have z1 := hb1.size; (try simp only [World.size_alloc, World.size_setCell] at z1); have z2 := hb2.size; (try simp only [World.size_alloc, World.size_setCell] at z2); have z3 := hb3.size; (try simp only [World.size_alloc, World.size_setCell] at z3); have z4 := hb4.size; (try simp only [World.size_alloc, World.size_setCell] at z4); skip
        (repeat (first | exact Below.refl _ _ | refine Below.setCell ?_ (by first | omega | (simp; done) | (simp; omega) | (simp only [World.size_alloc, World.size_setCell] at *; omega)) _ | refine Below.alloc ?_ (by first | omega | (simp; done) | (simp; omega) | (simp only [World.size_alloc, World.size_setCell] at *; omega)) _ | refine Below.trans ?_ (Below.mono (by assumption) (by first | omega | (simp; done) | (simp; omega) | (simp only [World.size_alloc, World.size_setCell] at *; omega)))))
  · rw [if_neg g1] at hl
    obtain ⟨d1, d2, d3, d4⟩ := dm2 (x := 2 * m - (2 * E + sa) + 2 * sa - 1) (a := sa) (by omega) a1
    have GL := Lib.hid hl
    clear hl
    go_enter Try.func21, Try.ntmps21
    go_wp2_with (go_at_call 15; refine (HE.out _).mono ?_; rintro e w1 ⟨rfl, hb1⟩; replace B0 := B0.step hb1; clear c0; have c0 := B0.cell; replace B1 := B1.step hb1; clear c1; have c1 := B1.cell)
    have hx : ∀ x : BW w1, ∀ o, x.w.cell? ⟨w.heap.size, o, none⟩ = #[.int .i64 sa, .int .i64 sb, .int .i64 sc, .int .i64 sd, .int .i64 se, .int .i64 sf][o]? := fun x => (B0.bw x).cell
    refine wp_region_calm (by kernel_rfl) (by kernel_rfl) ?_
    repeat (go_big_quiet_step (fail))
    refine wpQuiet_nil ?_
    intro w2 hb2
    have l0 : 0 ≤ L ∧ L ≤ 3000000000 := by have := GL.out; omega
    rw [GL.out]
    replace B0 := B0.step hb2; clear c0; have c0 := B0.cell
    replace B1 := B1.step hb2; clear c1; have c1 := B1.cell
    clear GL hx d1 d2 d3 d4
    obtain ⟨l0, l1⟩ := l0
    have hx : ∀ x : BW w2, ∀ o, x.w.cell? ⟨w.heap.size, o, none⟩ = #[.int .i64 sa, .int .i64 sb, .int .i64 sc, .int .i64 sd, .int .i64 se, .int .i64 sf][o]? := fun x => (B0.bw x).cell
    go_wp2_with fail
    refine wp_region_calm (by kernel_rfl) (by kernel_rfl) ?_
    repeat (go_big_quiet_step (fail))
    refine wpQuiet_nil ?_
    intro w3 hb3
    replace B0 := B0.step hb3; clear c0; have c0 := B0.cell
    replace B1 := B1.step hb3; clear c1; have c1 := B1.cell
    clear hx
    have hx : ∀ x : BW w3, ∀ o, x.w.cell? ⟨w.heap.size, o, none⟩ = #[.int .i64 sa, .int .i64 sb, .int .i64 sc, .int .i64 sd, .int .i64 se, .int .i64 sf][o]? := fun x => (B0.bw x).cell
    go_wp2_with fail
    by_cases g2 : (2 * m + (2 * E + sa)) / (2 * sa) * sa > sb / sa * sa
    · have hh := GH.out
      rw [if_pos g2] at hh
      have GH2 := Lib.hid hh
      clear hh GH
      refine wp_region_calm (by kernel_rfl) (by kernel_rfl) ?_
      repeat (go_big_quiet_step (fail))
      refine wpQuiet_nil ?_
      intro w4 hb4
      replace B0 := B0.step hb4; clear c0; have c0 := B0.cell
      replace B1 := B1.step hb4; clear c1; have c1 := B1.cell
      clear hx
      have hx : ∀ x : BW w4, ∀ o, x.w.cell? ⟨w.heap.size, o, none⟩ = #[.int .i64 sa, .int .i64 sb, .int .i64 sc, .int .i64 sd, .int .i64 se, .int .i64 sf][o]? := fun x => (B0.bw x).cell
      go_wp2_with fail
      refine wp_region_calm (by kernel_rfl) (by kernel_rfl) ?_
      repeat (go_big_quiet_step (fail))
      refine wpQuiet_nil ?_
      intro w5 hb5
      replace B0 := B0.step hb5; clear c0; have c0 := B0.cell
      replace B1 := B1.step hb5; clear c1; have c1 := B1.cell
      have f1 := B1.free
      rw [GH2.out]
      clear hx GH2
      rcases HC.out with ⟨h, r1, r2, r3⟩ | ⟨h, r1, r2, r3⟩
      · have R1 := Lib.hid r1
        have R2 := Lib.hid r2
        have R3 := Lib.hid r3
        clear r1 r2 r3
        go_wp2
        refine bodyPost_ret (v := .tuple #[.agg #[.int .i64 0, .int .i64 0], .int .i64 10]) (by simp only [results, Try.results21]; go_simp) rfl ⟨by rw [R1.out, R2.out, R3.out], ?_⟩
        have z1 := hb1.size; (try simp only [World.size_alloc, World.size_setCell] at z1); have z2 := hb2.size; (try simp only [World.size_alloc, World.size_setCell] at z2); have z3 := hb3.size; (try simp only [World.size_alloc, World.size_setCell] at z3); have z4 := hb4.size; (try simp only [World.size_alloc, World.size_setCell] at z4); have z5 := hb5.size; (try simp only [World.size_alloc, World.size_setCell] at z5); skip
        (repeat (first | exact Below.refl _ _ | refine Below.setCell ?_ (by first | omega | (simp; done) | (simp; omega) | (simp only [World.size_alloc, World.size_setCell] at *; omega)) _ | refine Below.alloc ?_ (by first | omega | (simp; done) | (simp; omega) | (simp only [World.size_alloc, World.size_setCell] at *; omega)) _ | refine Below.trans ?_ (Below.mono (by assumption) (by first | omega | (simp; done) | (simp; omega) | (simp only [World.size_alloc, World.size_setCell] at *; omega)))))
      · have R1 := Lib.hid r1
        have R2 := Lib.hid r2
        have R3 := Lib.hid r3
        clear r1 r2 r3
        go_wp2
        refine bodyPost_ret (v := .tuple #[.agg #[.int .i64 L, .int .i64 H], .int .i64 0]) (by simp only [results, Try.results21]; go_simp) rfl ⟨by rw [R1.out, R2.out, R3.out], ?_⟩
        have z1 := hb1.size; (try simp only [World.size_alloc, World.size_setCell] at z1); have z2 := hb2.size; (try simp only [World.size_alloc, World.size_setCell] at z2); have z3 := hb3.size; (try simp only [World.size_alloc, World.size_setCell] at z3); have z4 := hb4.size; (try simp only [World.size_alloc, World.size_setCell] at z4); have z5 := hb5.size; (try simp only [World.size_alloc, World.size_setCell] at z5); skip
        (repeat (first | exact Below.refl _ _ | refine Below.setCell ?_ (by first | omega | (simp; done) | (simp; omega) | (simp only [World.size_alloc, World.size_setCell] at *; omega)) _ | refine Below.alloc ?_ (by first | omega | (simp; done) | (simp; omega) | (simp only [World.size_alloc, World.size_setCell] at *; omega)) _ | refine Below.trans ?_ (Below.mono (by assumption) (by first | omega | (simp; done) | (simp; omega) | (simp only [World.size_alloc, World.size_setCell] at *; omega)))))
    · have hh := GH.out
      rw [if_neg g2] at hh
      have GH2 := Lib.hid hh
      clear hh GH
      refine wp_region_calm (by kernel_rfl) (by kernel_rfl) ?_
      repeat (go_big_quiet_step (fail))
      refine wpQuiet_nil ?_
      intro w4 hb4
      replace B0 := B0.step hb4; clear c0; have c0 := B0.cell
      replace B1 := B1.step hb4; clear c1; have c1 := B1.cell
      have f1 := B1.free
      rw [GH2.out]
      clear hx GH2
      rcases HC.out with ⟨h, r1, r2, r3⟩ | ⟨h, r1, r2, r3⟩
      · have R1 := Lib.hid r1
        have R2 := Lib.hid r2
        have R3 := Lib.hid r3
        clear r1 r2 r3
        go_wp2
        refine bodyPost_ret (v := .tuple #[.agg #[.int .i64 0, .int .i64 0], .int .i64 10]) (by simp only [results, Try.results21]; go_simp) rfl ⟨by rw [R1.out, R2.out, R3.out], ?_⟩
        have z1 := hb1.size; (try simp only [World.size_alloc, World.size_setCell] at z1); have z2 := hb2.size; (try simp only [World.size_alloc, World.size_setCell] at z2); have z3 := hb3.size; (try simp only [World.size_alloc, World.size_setCell] at z3); have z4 := hb4.size; (try simp only [World.size_alloc, World.size_setCell] at z4); skip
        (repeat (first | exact Below.refl _ _ | refine Below.setCell ?_ (by first | omega | (simp; done) | (simp; omega) | (simp only [World.size_alloc, World.size_setCell] at *; omega)) _ | refine Below.alloc ?_ (by first | omega | (simp; done) | (simp; omega) | (simp only [World.size_alloc, World.size_setCell] at *; omega)) _ | refine Below.trans ?_ (Below.mono (by assumption) (by first | omega | (simp; done) | (simp; omega) | (simp only [World.size_alloc, World.size_setCell] at *; omega)))))
      · have R1 := Lib.hid r1
        have R2 := Lib.hid r2
        have R3 := Lib.hid r3
        clear r1 r2 r3
        go_wp2
        refine bodyPost_ret (v := .tuple #[.agg #[.int .i64 L, .int .i64 H], .int .i64 0]) (by simp only [results, Try.results21]; go_simp) rfl ⟨by rw [R1.out, R2.out, R3.out], ?_⟩
        have z1 := hb1.size; (try simp only [World.size_alloc, World.size_setCell] at z1); have z2 := hb2.size; (try simp only [World.size_alloc, World.size_setCell] at z2); have z3 := hb3.size; (try simp only [World.size_alloc, World.size_setCell] at z3); have z4 := hb4.size; (try simp only [World.size_alloc, World.size_setCell] at z4); skip
        (repeat (first | exact Below.refl _ _ | refine Below.setCell ?_ (by first | omega | (simp; done) | (simp; omega) | (simp only [World.size_alloc, World.size_setCell] at *; omega)) _ | refine Below.alloc ?_ (by first | omega | (simp; done) | (simp; omega) | (simp only [World.size_alloc, World.size_setCell] at *; omega)) _ | refine Below.trans ?_ (Below.mono (by assumption) (by first | omega | (simp; done) | (simp; omega) | (simp only [World.size_alloc, World.size_setCell] at *; omega)))))

theorem rshows_any (sa sb sc sd se sf m t : Int) (w : World) :
    Calls Try.prog 21 #[.agg #[.int .i64 sa, .int .i64 sb, .int .i64 sc, .int .i64 sd, .int .i64 se, .int .i64 sf], .int .i64 m, .int .i64 t] w fun e w' => e = .returned (.tuple #[.agg #[.int .i64 (shlo sa sb sc sd se sf m t), .int .i64 (shhi sa sb sc sd se sf m t)], .int .i64 (shn sa sb sc sd se sf m t)]) ∧ Below w.heap.size w w' := by
  by_cases hn : errn sa sb sc sd se sf m t = 0
  · obtain ⟨hV, hm, hm', ht0, ht, hft⟩ := errn_ok.1 hn
    have hsn : shn sa sb sc sd se sf m t = if shLo sa (bnd sc sd se sf m t) m > shHi sa sb (bnd sc sd se sf m t) m then 10 else 0 := by simp [shn, hn]
    have e1 : shlo sa sb sc sd se sf m t = if shLo sa (bnd sc sd se sf m t) m > shHi sa sb (bnd sc sd se sf m t) m then 0 else shLo sa (bnd sc sd se sf m t) m := by
      unfold shlo; rw [hsn]; split <;> simp_all
    have e2 : shhi sa sb sc sd se sf m t = if shLo sa (bnd sc sd se sf m t) m > shHi sa sb (bnd sc sd se sf m t) m then 0 else shHi sa sb (bnd sc sd se sf m t) m := by
      unfold shhi; rw [hsn]; split <;> simp_all
    rw [hsn, e1, e2]
    have ⟨k1, k2⟩ := bnd_bd hV hm hm' ht hft
    exact rshows_core sa sb sc sd se sf m t _ _ _ w k1 k2 (fun w => rerror_ok sa sb sc sd se sf m t w hV hm hm' ht0 ht hft) hm hm' hV.a1 hV.a2 hV.b1 hV.b2 (rsLo_eq _ _ _ hV.a1) (rsHi_eq _ _ _ _ hV.a1)
  · have hsn : shn sa sb sc sd se sf m t = errn sa sb sc sd se sf m t := by simp [shn, hn]
    simp only [shlo, shhi, hsn, hn, if_false]
    exact rshows_no _ _ _ _ _ _ _ _ _ hn

end Go.Proofs.Ytdaekfjogcnebaa
