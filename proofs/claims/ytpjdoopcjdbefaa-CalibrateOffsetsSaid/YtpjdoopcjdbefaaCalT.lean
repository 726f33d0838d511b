/- The walk of CalibrateTrue. -/
import Derived.Test.YtpjdoopcjdbefaaCalO
namespace Go.Proofs.Ytpjdoopcjdbefaa
set_option linter.unusedVariables false
set_option linter.unusedSimpArgs false
open Go.RowKit

theorem conTo_ok {S : List Sc} {l : List Pr} {i : Nat} (h : i ∈ conL S l) : i < l.length ∧ prC S (l.getD i pr0) = true := by
  unfold conL at h
  split at h
  · obtain ⟨h1, h2⟩ := conTo_mem h
    exact ⟨by omega, h2⟩
  · simp at h
def LtRel (w1 : World) (n : Nat) (i : Value) (wr : World) : Prop := ∃ k : Nat, k ≤ n ∧ i = .int .i64 k ∧ Below w1.heap.size w1 wr
set_option maxRecDepth 100000 in
set_option maxHeartbeats 8000000 in
theorem law_true {w : World} {vs vl : Value} {S : List Sc} {l : List Pr} (hs : RowIn w vs 6 encS S) (hl : RowIn w vl 5 encQ l) (m : Int) : Calls Try.prog 7 #[vs, vl, .int .i64 m] w fun e w' => e = .returned (.bool true) ∧ Below w.heap.size w w' := by
  have hs' := hs
  have hl' := hl
  obtain ⟨sa, cs, rfl, s1, s2, _, hs5⟩ := hs.at_
  obtain ⟨la, cl, rfl, l1, l2, _, hl5⟩ := hl.at_
  have hfew := fun w => few_any (w := w) (oa := sa) (ob := la) S.length l.length cs cl s1 s2 l1 l2
  unfold maxLen at s2 l2
  have HSR := Lib.hid hs5
  have HLR := Lib.hid hl5
  clear hs hl hs5 hl5
  by_cases hf : S.length ≤ 20 ∧ l.length ≤ 100
  case neg =>
    rw [decide_eq_false hf] at hfew
    clear hf
    have hb := Below.refl w.heap.size w
    go_enter Try.func7, Try.ntmps7
    go_wp2_with fail
    refine (hfew _).mono ?_
    rintro e w1 ⟨rfl, rfl⟩
    go_wp2_with fail
    refine (awake29_any _).mono ?_
    rintro e w9 ⟨rfl, hb9⟩
    go_wp2_with fail
    go_ret
    exact ⟨by first | rfl | simp, hb.trans (hb9.mono hb.size)⟩
  rw [decide_eq_true hf] at hfew
  have hc1 := fun w hs hl => conflicts_any (w := w) (vs := .slice sa S.length cs) (vl := .slice la l.length cl) (S := S) (l := l) hs hl
  clear hf
  have hb := Below.refl w.heap.size w
  by_cases h0 : conE S l = 0
  case neg =>
    have h0' : (conE S l != 0) = true := by simpa using h0
    clear h0
    generalize conE S l = E at *
    go_enter Try.func7, Try.ntmps7
    go_wp2_with fail
    refine (hfew _).mono ?_
    rintro e w1 ⟨rfl, rfl⟩
    go_wp2_with fail
    refine (hc1 _ hs' hl').mono ?_
    rintro e w2 ⟨v2, rfl, R2, hb2⟩
    replace hb := hb.trans (hb2.mono hb.size)
    go_wp2_with fail
    refine (awake29_any _).mono ?_
    rintro e w9 ⟨rfl, hb9⟩
    go_wp2_with fail
    go_ret
    exact ⟨by first | rfl | simp, hb.trans (hb9.mono hb.size)⟩
  rw [h0] at hc1
  have HC1 := Lib.hid fun i hi => conL_mem (S := S) (l := l) (i := i) hi
  have HC2 := Lib.hid fun i hi => conTo_ok (S := S) (l := l) (i := i) hi
  clear h0
  generalize conL S l = C at *
  go_enter Try.func7, Try.ntmps7
  go_wp2_with fail
  refine (hfew _).mono ?_
  rintro e w1 ⟨rfl, rfl⟩
  go_wp2_with fail
  refine (hc1 _ hs' hl').mono ?_
  rintro e w2 ⟨v2, rfl, R2, hb2⟩
  obtain ⟨ca, cc, rfl, c1, c2, _, hc5⟩ := R2.at_
  unfold maxLen at c2
  have HR := Lib.hid hc5
  clear hc5 R2 hs' hl' hc1 hfew hb
  have hz2 := hb2.size
  go_wp2_with fail
  go_loopw [28] (fun i wr => LtRel w2 C.length i wr) (fun i _ => (C.length - intOf i).toNat)
  case atStart => exact ⟨0, Nat.zero_le _, rfl, Below.refl _ _⟩
  case round =>
    obtain ⟨k, hk, rfl, hbr⟩ := hrel
    have hb := hb2.trans (hbr.mono hz2)
    have hwr := hb.size
    by_cases hkl : k < C.length
    · have hki : (k : Int) < C.length := by omega
      obtain ⟨ob, oo, rfl, hoz, hoc⟩ := HR.out (by rintro rfl; simp at hkl)
      have hx := getD_of (d := 0) hkl
      have e0 : World.cell? wr ⟨ob, oo + k, none⟩ = some (.int .i64 ((C.getD k 0 : Nat) : Int)) := by
        have := hoc k _ hx 0 (by omega)
        rw [Nat.mul_one, Nat.add_zero] at this
        exact (hbr.cell (p := ⟨ob, oo + k, none⟩) hoz).trans this
      obtain ⟨_, hil, hpe⟩ := HC1.out _ (List.mem_of_getElem? hx)
      obtain ⟨_, hpc⟩ := HC2.out _ (List.mem_of_getElem? hx)
      have hpr := prE_ok hpe
      have hno := fun m => no_conflict hpe (m := m)
      rw [hpc] at hno
      obtain ⟨lb, lo, rfl, hlz, hlc⟩ := HLR.out (by rintro rfl; simp at hil)
      generalize C.getD k 0 = q0 at *
      have hq := hlc q0 _ (getD_of (d := pr0) hil)
      have g0 : (q0 : Int) < l.length := by omega
      clear hx hoc hlc hpe hpc
      generalize l.getD q0 pr0 = x at *
      obtain ⟨pa, pb, ps, pt, tm⟩ := x
      dsimp only at *
      obtain ⟨p1, p2, p3, p4, _⟩ := hpr
      obtain ⟨A, rfl⟩ : ∃ A : Nat, pa = A := ⟨pa.toNat, by omega⟩
      obtain ⟨B, rfl⟩ : ∃ B : Nat, pb = B := ⟨pb.toNat, by omega⟩
      have hA : A < S.length := by omega
      have hB : B < S.length := by omega
      have m0 : World.cell? wr ⟨lb, lo + q0 * 5, none⟩ = some (.int .i64 (A : Int)) := (hb.cell (p := ⟨lb, lo + q0 * 5, none⟩) hlz).trans (hq 0 (by omega))
      have m1 : World.cell? wr ⟨lb, lo + q0 * 5 + 1, none⟩ = some (.int .i64 (B : Int)) := (hb.cell (p := ⟨lb, lo + q0 * 5 + 1, none⟩) hlz).trans (hq 1 (by omega))
      have m2 : World.cell? wr ⟨lb, lo + q0 * 5 + 2, none⟩ = some (.int .i64 ps) := (hb.cell (p := ⟨lb, lo + q0 * 5 + 2, none⟩) hlz).trans (hq 2 (by omega))
      have m3 : World.cell? wr ⟨lb, lo + q0 * 5 + 3, none⟩ = some (.int .i64 pt) := (hb.cell (p := ⟨lb, lo + q0 * 5 + 3, none⟩) hlz).trans (hq 3 (by omega))
      have m4 : World.cell? wr ⟨lb, lo + q0 * 5 + 4, none⟩ = some (.int .i64 tm) := (hb.cell (p := ⟨lb, lo + q0 * 5 + 4, none⟩) hlz).trans (hq 4 (by omega))
      obtain ⟨sb, so, rfl, hsz, hsc⟩ := HSR.out (by rintro rfl; simp at hA)
      have xA := hsc A _ (getD_of (d := sc0) hA)
      have xB := hsc B _ (getD_of (d := sc0) hB)
      have kA := fun w => could_any (S.getD A sc0).a (S.getD A sc0).b (S.getD A sc0).c (S.getD A sc0).d (S.getD A sc0).e (S.getD A sc0).f m ps tm w
      have kB := fun w => could_any (S.getD B sc0).a (S.getD B sc0).b (S.getD B sc0).c (S.getD B sc0).d (S.getD B sc0).e (S.getD B sc0).f m pt tm w
      have hno1 := hno m
      simp only [Int.toNat_natCast] at hno1
      rw [show cld (S.getD A sc0).a (S.getD A sc0).b (S.getD A sc0).c (S.getD A sc0).d (S.getD A sc0).e (S.getD A sc0).f m ps tm = cldS (S.getD A sc0) m ps tm from rfl] at kA
      rw [show cld (S.getD B sc0).a (S.getD B sc0).b (S.getD B sc0).c (S.getD B sc0).d (S.getD B sc0).e (S.getD B sc0).f m pt tm = cldS (S.getD B sc0) m pt tm from rfl] at kB
      clear hno hq hsc
      generalize S.getD A sc0 = x at *
      generalize S.getD B sc0 = y at *
      generalize cldS x m ps tm = cA at *
      generalize cldS y m pt tm = cB at *
      have BX := Blk.new wr 44 #[.int .i64 (A : Int), .int .i64 (B : Int), .int .i64 ps, .int .i64 pt, .int .i64 tm]
      have hbx : Below wr.heap.size wr (wr.alloc (.cells #[.int .i64 (A : Int), .int .i64 (B : Int), .int .i64 ps, .int .i64 pt, .int .i64 tm] 44)) := by repeat (first | (with_reducible exact Below.refl _ _) | (with_reducible assumption) | (with_reducible refine Below.drew ?_) | ((with_reducible refine Below.alloc ?_ ?_ _); rotate_left; (first | (with_reducible exact Nat.zero_le _) | (with_reducible exact Nat.le_refl _) | omega | (dsimp only; omega) | (simp only [World.size_alloc, World.size_setCell, World.size_drew]; omega))) | ((with_reducible refine Below.setCell ?_ ?_ _); rotate_left; (first | (with_reducible exact Nat.zero_le _) | (with_reducible exact Nat.le_refl _) | omega | (dsimp only; omega) | (simp only [World.size_alloc, World.size_setCell, World.size_drew]; omega))))
      have hbz := hb.trans (hbx.mono hwr)
      have hbrz := hbr.trans (hbx.mono hbr.size)
      go_wp2_with fail
      clear m0 m1 m2 m3 m4 e0
      generalize wr.alloc (.cells #[.int .i64 (A : Int), .int .i64 (B : Int), .int .i64 ps, .int .i64 pt, .int .i64 tm] 44) = wb at *
      generalize wr.heap.size = bx at *
      have c2 : ∀ y : BW wb, ∀ j, y.w.cell? ⟨bx, j, none⟩ = #[.int .i64 (A : Int), .int .i64 (B : Int), .int .i64 ps, .int .i64 pt, .int .i64 tm][j]? := fun y => (BX.bw y).cell
      have q : ∀ y : BW wb, ∀ j, y.w.cell? ⟨sb, j, none⟩ = w1.cell? ⟨sb, j, none⟩ := fun y j => (hbz.trans (y.h.mono hbz.size)).cell (p := ⟨sb, j, none⟩) hsz
      have d0 : ∀ Y : BW wb, Y.w.cell? ⟨sb, so + A * 6, none⟩ = some (.int .i64 x.a) := fun Y => (q Y _).trans (xA 0 (by omega))
      have d1 : ∀ Y : BW wb, Y.w.cell? ⟨sb, so + A * 6 + 1, none⟩ = some (.int .i64 x.b) := fun Y => (q Y _).trans (xA 1 (by omega))
      have d2 : ∀ Y : BW wb, Y.w.cell? ⟨sb, so + A * 6 + 2, none⟩ = some (.int .i64 x.c) := fun Y => (q Y _).trans (xA 2 (by omega))
      have d3 : ∀ Y : BW wb, Y.w.cell? ⟨sb, so + A * 6 + 3, none⟩ = some (.int .i64 x.d) := fun Y => (q Y _).trans (xA 3 (by omega))
      have d4 : ∀ Y : BW wb, Y.w.cell? ⟨sb, so + A * 6 + 4, none⟩ = some (.int .i64 x.e) := fun Y => (q Y _).trans (xA 4 (by omega))
      have d5 : ∀ Y : BW wb, Y.w.cell? ⟨sb, so + A * 6 + 5, none⟩ = some (.int .i64 x.f) := fun Y => (q Y _).trans (xA 5 (by omega))
      have f0 : ∀ Y : BW wb, Y.w.cell? ⟨sb, so + B * 6, none⟩ = some (.int .i64 y.a) := fun Y => (q Y _).trans (xB 0 (by omega))
      have f1 : ∀ Y : BW wb, Y.w.cell? ⟨sb, so + B * 6 + 1, none⟩ = some (.int .i64 y.b) := fun Y => (q Y _).trans (xB 1 (by omega))
      have f2 : ∀ Y : BW wb, Y.w.cell? ⟨sb, so + B * 6 + 2, none⟩ = some (.int .i64 y.c) := fun Y => (q Y _).trans (xB 2 (by omega))
      have f3 : ∀ Y : BW wb, Y.w.cell? ⟨sb, so + B * 6 + 3, none⟩ = some (.int .i64 y.d) := fun Y => (q Y _).trans (xB 3 (by omega))
      have f4 : ∀ Y : BW wb, Y.w.cell? ⟨sb, so + B * 6 + 4, none⟩ = some (.int .i64 y.e) := fun Y => (q Y _).trans (xB 4 (by omega))
      have f5 : ∀ Y : BW wb, Y.w.cell? ⟨sb, so + B * 6 + 5, none⟩ = some (.int .i64 y.f) := fun Y => (q Y _).trans (xB 5 (by omega))
      have a1 : (A : Int) < S.length := by omega
      have a2 : (B : Int) < S.length := by omega
      have a3 : (0 : Int) ≤ A := by omega
      have a4 : (0 : Int) ≤ B := by omega
      clear q xA xB
      cases cA with
      | false =>
        clear kB hno1
        refine wp_region_calm (by kernel_rfl) (by kernel_rfl) ?_
        repeat (go_big_quiet_step (refine calls_bw (fun w => kA w) _))
        refine wpQuiet_nil ?_
        intro w5 hb5
        replace hbrz := hbrz.trans (hb5.mono hbrz.size)
        clear c2 d0 d1 d2 d3 d4 d5 f0 f1 f2 f3 f4 f5
        go_wp2_with fail
        go_roundw
        case rel => exact ⟨k + 1, hkl, by simp, hbrz⟩
        case measure => simp [intOf]; omega
      | true =>
        have hcB : cB = false := by
          cases cB
          · rfl
          · exact absurd (hno1 rfl rfl) (by simp)
        subst hcB
        clear hno1
        refine wp_region_calm (by kernel_rfl) (by kernel_rfl) ?_
        repeat (go_big_quiet_step (fail))
        go_big_quiet_want; go_big_quiet_op; go_big_quiet_call (exact calls_bw (fun w => kA w) _)
        repeat (go_big_quiet_step (fail))
        go_big_quiet_want; go_big_quiet_op; go_big_quiet_call (exact calls_bw (fun w => kB w) _)
        repeat (go_big_quiet_step (fail))
        first | refine wpQuiet_nil ?_ | skip
        intro w5 hb5
        replace hbrz := hbrz.trans (hb5.mono hbrz.size)
        clear c2 d0 d1 d2 d3 d4 d5 f0 f1 f2 f3 f4 f5
        go_wp2_with fail
        go_roundw
        case rel => exact ⟨k + 1, hkl, by simp, hbrz⟩
        case measure => simp [intOf]; omega
    · obtain rfl : k = C.length := by omega
      go_wp2_with fail
      refine (awake29_any _).mono ?_
      rintro e w9 ⟨rfl, hb9⟩
      go_wp2_with fail
      go_ret
      exact ⟨by first | rfl | simp, hb.trans (hb9.mono hb.size)⟩

end Go.Proofs.Ytpjdoopcjdbefaa
