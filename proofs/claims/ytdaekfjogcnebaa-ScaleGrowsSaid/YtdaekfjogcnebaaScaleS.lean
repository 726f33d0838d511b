/- The walk of the last statement about scales: ScaleGrows. -/
import Derived.Test.YtdaekfjogcnebaaScaleL
import Derived.Test.YtdaekfjogcnebaaScaleQ
namespace Go.Proofs.Ytdaekfjogcnebaa
set_option linter.unusedVariables false
set_option linter.unusedSimpArgs false
open Go.RowKit


set_option maxHeartbeats 2000000 in
theorem law8_bad (sa sb sc sd se sf m n t ya yb yc yd : Int) (w : World) (h0 : ¬ (chk sa sb sc sd se sf = 0 ∧ 0 ≤ t ∧ t ≤ 3155759999)) : Calls Try.prog 10 #[.agg #[.int .i64 sa, .int .i64 sb, .int .i64 sc, .int .i64 sd, .int .i64 se, .int .i64 sf, .int .i64 m, .int .i64 n, .int .i64 t], .agg #[.int .u8 ya, .int .u8 yb, .int .u8 yc, .int .u8 yd]] w fun e w' => e = .returned (.bool true) ∧ Below w.heap.size w w' := by
  have B0 := ((Blk.new w 29 #[.int .i64 sa, .int .i64 sb, .int .i64 sc, .int .i64 sd, .int .i64 se, .int .i64 sf, .int .i64 m, .int .i64 n, .int .i64 t]).alloc (.cells #[.int .u8 ya, .int .u8 yb, .int .u8 yc, .int .u8 yd] 39)).alloc (.cells #[.int .i64 sa, .int .i64 sb, .int .i64 sc, .int .i64 sd, .int .i64 se, .int .i64 sf] 23)
  have B1 := (Blk.new (w.alloc (.cells #[.int .i64 sa, .int .i64 sb, .int .i64 sc, .int .i64 sd, .int .i64 se, .int .i64 sf, .int .i64 m, .int .i64 n, .int .i64 t] 29)) 39 #[.int .u8 ya, .int .u8 yb, .int .u8 yc, .int .u8 yd]).alloc (.cells #[.int .i64 sa, .int .i64 sb, .int .i64 sc, .int .i64 sd, .int .i64 se, .int .i64 sf] 23)
  have B2 := Blk.new ((w.alloc (.cells #[.int .i64 sa, .int .i64 sb, .int .i64 sc, .int .i64 sd, .int .i64 se, .int .i64 sf, .int .i64 m, .int .i64 n, .int .i64 t] 29)).alloc (.cells #[.int .u8 ya, .int .u8 yb, .int .u8 yc, .int .u8 yd] 39)) 23 #[.int .i64 sa, .int .i64 sb, .int .i64 sc, .int .i64 sd, .int .i64 se, .int .i64 sf]
  simp only [World.size_alloc] at B1 B2
  have c0 := B0.cell
  have HH := Lib.hid h0
  clear h0
  by_cases hk : chk sa sb sc sd se sf = 0
  case neg =>
    go_enter Try.func10, Try.ntmps10
    go_wp2_with (first
      | (go_at_call 12; refine (rcheck_any _ _ _ _ _ _ _).mono ?_; rintro e w1 ⟨rfl, hb1⟩; replace B0 := B0.step hb1; clear c0; have c0 := B0.cell)
      | (go_at_call 13; refine (awake_any _).mono ?_; rintro e w2 ⟨rfl, hb2⟩))
    go_ret
    refine ⟨by simp, ?_⟩
    have z1 := hb1.size; (try simp only [World.size_alloc, World.size_setCell] at z1); have z2 := hb2.size; (try simp only [World.size_alloc, World.size_setCell] at z2); skip
    (repeat (first | exact Below.refl _ _ | refine Below.setCell ?_ (by first | omega | (simp; done) | (simp; omega) | (simp only [World.size_alloc, World.size_setCell] at *; omega)) _ | refine Below.alloc ?_ (by first | omega | (simp; done) | (simp; omega) | (simp only [World.size_alloc, World.size_setCell] at *; omega)) _ | refine Below.trans ?_ (Below.mono (by assumption) (by first | omega | (simp; done) | (simp; omega) | (simp only [World.size_alloc, World.size_setCell] at *; omega)))))
  by_cases ht0 : 0 ≤ t
  case neg =>
    go_enter Try.func10, Try.ntmps10
    go_wp2_with (first
      | (go_at_call 12; refine (rcheck_any _ _ _ _ _ _ _).mono ?_; rintro e w1 ⟨rfl, hb1⟩; replace B0 := B0.step hb1; clear c0; have c0 := B0.cell)
      | (go_at_call 13; refine (awake_any _).mono ?_; rintro e w2 ⟨rfl, hb2⟩))
    go_ret
    refine ⟨by simp, ?_⟩
    have z1 := hb1.size; (try simp only [World.size_alloc, World.size_setCell] at z1); have z2 := hb2.size; (try simp only [World.size_alloc, World.size_setCell] at z2); skip
    (repeat (first | exact Below.refl _ _ | refine Below.setCell ?_ (by first | omega | (simp; done) | (simp; omega) | (simp only [World.size_alloc, World.size_setCell] at *; omega)) _ | refine Below.alloc ?_ (by first | omega | (simp; done) | (simp; omega) | (simp only [World.size_alloc, World.size_setCell] at *; omega)) _ | refine Below.trans ?_ (Below.mono (by assumption) (by first | omega | (simp; done) | (simp; omega) | (simp only [World.size_alloc, World.size_setCell] at *; omega)))))
  have ht : ¬ t ≤ 3155759999 := fun h => HH.out ⟨hk, ht0, h⟩
  · go_enter Try.func10, Try.ntmps10
    go_wp2_with (first
      | (go_at_call 12; refine (rcheck_any _ _ _ _ _ _ _).mono ?_; rintro e w1 ⟨rfl, hb1⟩; replace B0 := B0.step hb1; clear c0; have c0 := B0.cell)
      | (go_at_call 13; refine (awake_any _).mono ?_; rintro e w2 ⟨rfl, hb2⟩))
    go_ret
    refine ⟨by simp, ?_⟩
    have z1 := hb1.size; (try simp only [World.size_alloc, World.size_setCell] at z1); have z2 := hb2.size; (try simp only [World.size_alloc, World.size_setCell] at z2); skip
    (repeat (first | exact Below.refl _ _ | refine Below.setCell ?_ (by first | omega | (simp; done) | (simp; omega) | (simp only [World.size_alloc, World.size_setCell] at *; omega)) _ | refine Below.alloc ?_ (by first | omega | (simp; done) | (simp; omega) | (simp only [World.size_alloc, World.size_setCell] at *; omega)) _ | refine Below.trans ?_ (Below.mono (by assumption) (by first | omega | (simp; done) | (simp; omega) | (simp only [World.size_alloc, World.size_setCell] at *; omega)))))

set_option maxHeartbeats 4000000 in
theorem law8_ok (sa sb sc sd se sf m n t ya yb yc yd : Int) (w : World) (u1 : 0 ≤ ya) (u2 : ya ≤ 255) (u3 : 0 ≤ yb) (u4 : yb ≤ 255) (u5 : 0 ≤ yc) (u6 : yc ≤ 255) (u7 : 0 ≤ yd) (u8 : yd ≤ 255)
    (hV : SV sa sb sc sd se sf) (ht0 : 0 ≤ t) (ht : t ≤ 3155759999) : Calls Try.prog 10 #[.agg #[.int .i64 sa, .int .i64 sb, .int .i64 sc, .int .i64 sd, .int .i64 se, .int .i64 sf, .int .i64 m, .int .i64 n, .int .i64 t], .agg #[.int .u8 ya, .int .u8 yb, .int .u8 yc, .int .u8 yd]] w fun e w' => e = .returned (.bool true) ∧ Below w.heap.size w w' := by
  have hk : chk sa sb sc sd se sf = 0 := chk_ok.2 hV
  obtain ⟨a1, a2, b1, b2, k1, k2, d1, d2, e1, e2, f1, f2⟩ := hV
  have B0 := ((Blk.new w 29 #[.int .i64 sa, .int .i64 sb, .int .i64 sc, .int .i64 sd, .int .i64 se, .int .i64 sf, .int .i64 m, .int .i64 n, .int .i64 t]).alloc (.cells #[.int .u8 ya, .int .u8 yb, .int .u8 yc, .int .u8 yd] 39)).alloc (.cells #[.int .i64 sa, .int .i64 sb, .int .i64 sc, .int .i64 sd, .int .i64 se, .int .i64 sf] 23)
  have B1 := (Blk.new (w.alloc (.cells #[.int .i64 sa, .int .i64 sb, .int .i64 sc, .int .i64 sd, .int .i64 se, .int .i64 sf, .int .i64 m, .int .i64 n, .int .i64 t] 29)) 39 #[.int .u8 ya, .int .u8 yb, .int .u8 yc, .int .u8 yd]).alloc (.cells #[.int .i64 sa, .int .i64 sb, .int .i64 sc, .int .i64 sd, .int .i64 se, .int .i64 sf] 23)
  have B2 := Blk.new ((w.alloc (.cells #[.int .i64 sa, .int .i64 sb, .int .i64 sc, .int .i64 sd, .int .i64 se, .int .i64 sf, .int .i64 m, .int .i64 n, .int .i64 t] 29)).alloc (.cells #[.int .u8 ya, .int .u8 yb, .int .u8 yc, .int .u8 yd] 39)) 23 #[.int .i64 sa, .int .i64 sb, .int .i64 sc, .int .i64 sd, .int .i64 se, .int .i64 sf]
  simp only [World.size_alloc] at B1 B2
  go_enter Try.func10, Try.ntmps10
  go_wp2_with fail
  refine (rcheck_any sa sb sc sd se sf _).mono ?_
  rintro e w1 ⟨rfl, hb1⟩
  replace B0 := B0.step hb1; have c0 := B0.cell; have l0 := B0.lt; have f0 := B0.free
  replace B1 := B1.step hb1; have c1 := B1.cell; have l1 := B1.lt; have f1 := B1.free
  replace B2 := B2.step hb1; have c2 := B2.cell; have l2 := B2.lt; have f2 := B2.free
  go_wp2_with fail
  clear c0 l0 f0
  clear c1 l1 f1
  clear c2 l2 f2
  skip
  replace B2 := ((B2.put 2 (.int .i64 (sc + ya))).put 3 (.int .i64 (sd + yb))).put 4 (.int .i64 (se + yc))
  change Blk _ _ _ #[.int .i64 sa, .int .i64 sb, .int .i64 (sc + ya), .int .i64 (sd + yb), .int .i64 (se + yc), .int .i64 sf] at B2
  replace B0 := ((B0.far (p := ⟨w.heap.size + 1 + 1, 2, none⟩) (by show _ ≠ w.heap.size + 1 + 1; omega) (.int .i64 (sc + ya))).far (p := ⟨w.heap.size + 1 + 1, 3, none⟩) (by show _ ≠ w.heap.size + 1 + 1; omega) (.int .i64 (sd + yb))).far (p := ⟨w.heap.size + 1 + 1, 4, none⟩) (by show _ ≠ w.heap.size + 1 + 1; omega) (.int .i64 (se + yc))
  replace B1 := ((B1.far (p := ⟨w.heap.size + 1 + 1, 2, none⟩) (by show _ ≠ w.heap.size + 1 + 1; omega) (.int .i64 (sc + ya))).far (p := ⟨w.heap.size + 1 + 1, 3, none⟩) (by show _ ≠ w.heap.size + 1 + 1; omega) (.int .i64 (sd + yb))).far (p := ⟨w.heap.size + 1 + 1, 4, none⟩) (by show _ ≠ w.heap.size + 1 + 1; omega) (.int .i64 (se + yc))
  refine (true_any sa sb sc sd se sf n t _).mono ?_
  rintro e w2 ⟨rfl, hb2⟩
  replace B0 := B0.step hb2; have c0 := B0.cell; have l0 := B0.lt
  replace B1 := B1.step hb2; have c1 := B1.cell; have l1 := B1.lt
  replace B2 := B2.step hb2; have c2 := B2.cell; have l2 := B2.lt
  go_wp2_with fail
  clear c0 l0
  clear c1 l1
  clear c2 l2
  skip
  have B3 := Blk.new w2 35 #[.int .i64 (trlo sa sb sc sd se sf n t), .int .i64 (trhi sa sb sc sd se sf n t)]
  replace B0 := B0.alloc (.cells #[.int .i64 (trlo sa sb sc sd se sf n t), .int .i64 (trhi sa sb sc sd se sf n t)] 35)
  replace B1 := B1.alloc (.cells #[.int .i64 (trlo sa sb sc sd se sf n t), .int .i64 (trhi sa sb sc sd se sf n t)] 35)
  replace B2 := B2.alloc (.cells #[.int .i64 (trlo sa sb sc sd se sf n t), .int .i64 (trhi sa sb sc sd se sf n t)] 35)
  skip
  refine (error_any sa sb sc sd se sf m t _).mono ?_
  rintro e w3 ⟨rfl, hb3⟩
  replace B0 := B0.step hb3; have c0 := B0.cell; have l0 := B0.lt
  replace B1 := B1.step hb3; have c1 := B1.cell; have l1 := B1.lt
  replace B2 := B2.step hb3; have c2 := B2.cell; have l2 := B2.lt
  replace B3 := B3.step hb3; have c3 := B3.cell; have l3 := B3.lt
  go_wp2_with fail
  clear c0 l0
  clear c1 l1
  clear c2 l2
  clear c3 l3
  skip
  by_cases hk2 : chk sa sb (sc + ya) (sd + yb) (se + yc) sf = 0
  case neg =>
    refine (rcheck_any sa sb (sc + ya) (sd + yb) (se + yc) sf _).mono ?_
    rintro e w4 ⟨rfl, hb4⟩
    have c0 := (B0.step hb4).cell
    go_wp2_with fail
    refine (awake_any _).mono ?_
    rintro e w5 ⟨rfl, hb5⟩
    go_wp2_with fail
    go_ret
    refine ⟨by simp, ?_⟩
    have z1 := hb1.size; (try simp only [World.size_alloc, World.size_setCell] at z1); have z2 := hb2.size; (try simp only [World.size_alloc, World.size_setCell] at z2); have z3 := hb3.size; (try simp only [World.size_alloc, World.size_setCell] at z3); have z4 := hb4.size; (try simp only [World.size_alloc, World.size_setCell] at z4); have z5 := hb5.size; (try simp only [World.size_alloc, World.size_setCell] at z5); skip
    (repeat (first | exact Below.refl _ _ | refine Below.setCell ?_ (by first | omega | (simp; done) | (simp; omega) | (simp only [World.size_alloc, World.size_setCell] at *; omega)) _ | refine Below.alloc ?_ (by first | omega | (simp; done) | (simp; omega) | (simp only [World.size_alloc, World.size_setCell] at *; omega)) _ | refine Below.trans ?_ (Below.mono (by assumption) (by first | omega | (simp; done) | (simp; omega) | (simp only [World.size_alloc, World.size_setCell] at *; omega)))))
  by_cases hl : t + yd * 5000 ≤ 3155759999
  case neg =>
    refine (rcheck_any sa sb (sc + ya) (sd + yb) (se + yc) sf _).mono ?_
    rintro e w4 ⟨rfl, hb4⟩
    have c0 := (B0.step hb4).cell
    go_wp2_with fail
    refine (awake_any _).mono ?_
    rintro e w5 ⟨rfl, hb5⟩
    go_wp2_with fail
    go_ret
    refine ⟨by simp, ?_⟩
    have z1 := hb1.size; (try simp only [World.size_alloc, World.size_setCell] at z1); have z2 := hb2.size; (try simp only [World.size_alloc, World.size_setCell] at z2); have z3 := hb3.size; (try simp only [World.size_alloc, World.size_setCell] at z3); have z4 := hb4.size; (try simp only [World.size_alloc, World.size_setCell] at z4); have z5 := hb5.size; (try simp only [World.size_alloc, World.size_setCell] at z5); skip
    (repeat (first | exact Below.refl _ _ | refine Below.setCell ?_ (by first | omega | (simp; done) | (simp; omega) | (simp only [World.size_alloc, World.size_setCell] at *; omega)) _ | refine Below.alloc ?_ (by first | omega | (simp; done) | (simp; omega) | (simp only [World.size_alloc, World.size_setCell] at *; omega)) _ | refine Below.trans ?_ (Below.mono (by assumption) (by first | omega | (simp; done) | (simp; omega) | (simp only [World.size_alloc, World.size_setCell] at *; omega)))))
  refine (rcheck_any sa sb (sc + ya) (sd + yb) (se + yc) sf _).mono ?_
  rintro e w4 ⟨rfl, hb4⟩
  replace B0 := B0.step hb4; have c0 := B0.cell; have l0 := B0.lt
  replace B1 := B1.step hb4; have c1 := B1.cell; have l1 := B1.lt
  replace B2 := B2.step hb4; have c2 := B2.cell; have l2 := B2.lt
  replace B3 := B3.step hb4; have c3 := B3.cell; have l3 := B3.lt
  go_wp2_with fail
  clear c0 l0
  clear c1 l1
  clear c2 l2
  clear c3 l3
  skip
  refine (true_any sa sb (sc + ya) (sd + yb) (se + yc) sf n (t + yd * 5000) _).mono ?_
  rintro e w5 ⟨rfl, hb5⟩
  replace B0 := B0.step hb5; have c0 := B0.cell; have l0 := B0.lt
  replace B1 := B1.step hb5; have c1 := B1.cell; have l1 := B1.lt
  replace B2 := B2.step hb5; have c2 := B2.cell; have l2 := B2.lt
  replace B3 := B3.step hb5; have c3 := B3.cell; have l3 := B3.lt
  go_wp2_with fail
  clear c0 l0
  clear c1 l1
  clear c2 l2
  clear c3 l3
  skip
  have B4 := Blk.new w5 35 #[.int .i64 (trlo sa sb (sc + ya) (sd + yb) (se + yc) sf n (t + yd * 5000)), .int .i64 (trhi sa sb (sc + ya) (sd + yb) (se + yc) sf n (t + yd * 5000))]
  replace B0 := B0.alloc (.cells #[.int .i64 (trlo sa sb (sc + ya) (sd + yb) (se + yc) sf n (t + yd * 5000)), .int .i64 (trhi sa sb (sc + ya) (sd + yb) (se + yc) sf n (t + yd * 5000))] 35)
  replace B1 := B1.alloc (.cells #[.int .i64 (trlo sa sb (sc + ya) (sd + yb) (se + yc) sf n (t + yd * 5000)), .int .i64 (trhi sa sb (sc + ya) (sd + yb) (se + yc) sf n (t + yd * 5000))] 35)
  replace B2 := B2.alloc (.cells #[.int .i64 (trlo sa sb (sc + ya) (sd + yb) (se + yc) sf n (t + yd * 5000)), .int .i64 (trhi sa sb (sc + ya) (sd + yb) (se + yc) sf n (t + yd * 5000))] 35)
  replace B3 := B3.alloc (.cells #[.int .i64 (trlo sa sb (sc + ya) (sd + yb) (se + yc) sf n (t + yd * 5000)), .int .i64 (trhi sa sb (sc + ya) (sd + yb) (se + yc) sf n (t + yd * 5000))] 35)
  skip
  refine (error_any sa sb (sc + ya) (sd + yb) (se + yc) sf m (t + yd * 5000) _).mono ?_
  rintro e w6 ⟨rfl, hb6⟩
  replace B3 := B3.step hb6
  replace B4 := B4.step hb6
  have c3 := B3.cell
  have c4 := B4.cell
  have hV2 := chk_ok.1 hk2
  have gT := fun h => grows_true (n := n) (t := t) hV2 (show sc ≤ sc + ya by omega) (show sd ≤ sd + yb by omega) (show se ≤ se + yc by omega) (show t ≤ t + yd * 5000 by omega) hl h
  have gE := fun h => grows_error (m := m) (t := t) hV2 (show sc ≤ sc + ya by omega) (show sd ≤ sd + yb by omega) (show se ≤ se + yc by omega) (show t ≤ t + yd * 5000 by omega) hl h
  clear B0 B1 B2 B3 B4 hV2 hk hk2
  generalize trn sa sb sc sd se sf n t = E1 at *
  generalize trn sa sb (sc + ya) (sd + yb) (se + yc) sf n (t + yd * 5000) = E2 at *
  generalize trlo sa sb sc sd se sf n t = L1 at *
  generalize trlo sa sb (sc + ya) (sd + yb) (se + yc) sf n (t + yd * 5000) = L2 at *
  generalize trhi sa sb sc sd se sf n t = H1 at *
  generalize trhi sa sb (sc + ya) (sd + yb) (se + yc) sf n (t + yd * 5000) = H2 at *
  generalize errn sa sb sc sd se sf m t = F1 at *
  generalize errn sa sb (sc + ya) (sd + yb) (se + yc) sf m (t + yd * 5000) = F2 at *
  generalize errv sa sb sc sd se sf m t = V1 at *
  generalize errv sa sb (sc + ya) (sd + yb) (se + yc) sf m (t + yd * 5000) = V2 at *
  by_cases q1 : E1 = 0
  · obtain ⟨r1, r2, r3⟩ := gT q1
    clear gT
    by_cases q2 : F1 = 0
    · obtain ⟨r4, r5⟩ := gE q2
      clear gE
      go_wp2_with (go_at_call 13; refine (awake_any _).mono ?_; rintro e w7 ⟨rfl, hb7⟩)
      go_ret
      refine ⟨by simp, ?_⟩
      have z1 := hb1.size; (try simp only [World.size_alloc, World.size_setCell] at z1); have z2 := hb2.size; (try simp only [World.size_alloc, World.size_setCell] at z2); have z3 := hb3.size; (try simp only [World.size_alloc, World.size_setCell] at z3); have z4 := hb4.size; (try simp only [World.size_alloc, World.size_setCell] at z4); have z5 := hb5.size; (try simp only [World.size_alloc, World.size_setCell] at z5); have z6 := hb6.size; (try simp only [World.size_alloc, World.size_setCell] at z6); have z7 := hb7.size; (try simp only [World.size_alloc, World.size_setCell] at z7); skip
      (repeat (first | exact Below.refl _ _ | refine Below.setCell ?_ (by first | omega | (simp; done) | (simp; omega) | (simp only [World.size_alloc, World.size_setCell] at *; omega)) _ | refine Below.alloc ?_ (by first | omega | (simp; done) | (simp; omega) | (simp only [World.size_alloc, World.size_setCell] at *; omega)) _ | refine Below.trans ?_ (Below.mono (by assumption) (by first | omega | (simp; done) | (simp; omega) | (simp only [World.size_alloc, World.size_setCell] at *; omega)))))
    · clear gE
      go_wp2_with (go_at_call 13; refine (awake_any _).mono ?_; rintro e w7 ⟨rfl, hb7⟩)
      go_ret
      refine ⟨by simp, ?_⟩
      have z1 := hb1.size; (try simp only [World.size_alloc, World.size_setCell] at z1); have z2 := hb2.size; (try simp only [World.size_alloc, World.size_setCell] at z2); have z3 := hb3.size; (try simp only [World.size_alloc, World.size_setCell] at z3); have z4 := hb4.size; (try simp only [World.size_alloc, World.size_setCell] at z4); have z5 := hb5.size; (try simp only [World.size_alloc, World.size_setCell] at z5); have z6 := hb6.size; (try simp only [World.size_alloc, World.size_setCell] at z6); have z7 := hb7.size; (try simp only [World.size_alloc, World.size_setCell] at z7); skip
      (repeat (first | exact Below.refl _ _ | refine Below.setCell ?_ (by first | omega | (simp; done) | (simp; omega) | (simp only [World.size_alloc, World.size_setCell] at *; omega)) _ | refine Below.alloc ?_ (by first | omega | (simp; done) | (simp; omega) | (simp only [World.size_alloc, World.size_setCell] at *; omega)) _ | refine Below.trans ?_ (Below.mono (by assumption) (by first | omega | (simp; done) | (simp; omega) | (simp only [World.size_alloc, World.size_setCell] at *; omega)))))
  · clear gT
    by_cases q2 : F1 = 0
    · obtain ⟨r4, r5⟩ := gE q2
      clear gE
      go_wp2_with (go_at_call 13; refine (awake_any _).mono ?_; rintro e w7 ⟨rfl, hb7⟩)
      go_ret
      refine ⟨by simp, ?_⟩
      have z1 := hb1.size; (try simp only [World.size_alloc, World.size_setCell] at z1); have z2 := hb2.size; (try simp only [World.size_alloc, World.size_setCell] at z2); have z3 := hb3.size; (try simp only [World.size_alloc, World.size_setCell] at z3); have z4 := hb4.size; (try simp only [World.size_alloc, World.size_setCell] at z4); have z5 := hb5.size; (try simp only [World.size_alloc, World.size_setCell] at z5); have z6 := hb6.size; (try simp only [World.size_alloc, World.size_setCell] at z6); have z7 := hb7.size; (try simp only [World.size_alloc, World.size_setCell] at z7); skip
      (repeat (first | exact Below.refl _ _ | refine Below.setCell ?_ (by first | omega | (simp; done) | (simp; omega) | (simp only [World.size_alloc, World.size_setCell] at *; omega)) _ | refine Below.alloc ?_ (by first | omega | (simp; done) | (simp; omega) | (simp only [World.size_alloc, World.size_setCell] at *; omega)) _ | refine Below.trans ?_ (Below.mono (by assumption) (by first | omega | (simp; done) | (simp; omega) | (simp only [World.size_alloc, World.size_setCell] at *; omega)))))
    · clear gE
      go_wp2_with (go_at_call 13; refine (awake_any _).mono ?_; rintro e w7 ⟨rfl, hb7⟩)
      go_ret
      refine ⟨by simp, ?_⟩
      have z1 := hb1.size; (try simp only [World.size_alloc, World.size_setCell] at z1); have z2 := hb2.size; (try simp only [World.size_alloc, World.size_setCell] at z2); have z3 := hb3.size; (try simp only [World.size_alloc, World.size_setCell] at z3); have z4 := hb4.size; (try simp only [World.size_alloc, World.size_setCell] at z4); have z5 := hb5.size; (try simp only [World.size_alloc, World.size_setCell] at z5); have z6 := hb6.size; (try simp only [World.size_alloc, World.size_setCell] at z6); have z7 := hb7.size; (try simp only [World.size_alloc, World.size_setCell] at z7); skip
      (repeat (first | exact Below.refl _ _ | refine Below.setCell ?_ (by first | omega | (simp; done) | (simp; omega) | (simp only [World.size_alloc, World.size_setCell] at *; omega)) _ | refine Below.alloc ?_ (by first | omega | (simp; done) | (simp; omega) | (simp only [World.size_alloc, World.size_setCell] at *; omega)) _ | refine Below.trans ?_ (Below.mono (by assumption) (by first | omega | (simp; done) | (simp; omega) | (simp only [World.size_alloc, World.size_setCell] at *; omega)))))

end Go.Proofs.Ytdaekfjogcnebaa
