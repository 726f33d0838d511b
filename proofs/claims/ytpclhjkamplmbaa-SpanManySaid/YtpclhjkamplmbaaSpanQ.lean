/- Contract: the reference's Sum. -/
import Derived.Test.YtpclhjkamplmbaaSpanB
import Derived.Test.YtpclhjkamplmbaaSpanM
namespace Go.Proofs.Ytpclhjkamplmbaa
set_option linter.unusedVariables false
set_option linter.unusedSimpArgs false
open Go.RowKit

def RSumRel (w : World) (l : List Sp) (i : Value) (wr : World) : Prop :=
  ∃ k : Nat, k ≤ l.length ∧ i = .int .i64 k ∧ allV (l.take k) = true ∧ Below w.heap.size w wr ∧ Blk wr w.heap.size 23 #[.int .i64 0, .int .i64 0] ∧ Blk wr (w.heap.size + 1) 23 #[.int .i64 (endsV plus plus sp0 (l.take k)).lo, .int .i64 (endsV plus plus sp0 (l.take k)).hi]
set_option maxHeartbeats 2000000 in
theorem rsumL_any {w : World} {v : Value} {l : List Sp} (hl : RowIn w v 2 encP l) : Calls Try.prog 23 #[v] w fun e w' => e = .returned (.tuple #[.agg #[.int .i64 (sumS l).lo, .int .i64 (sumS l).hi], .int .i64 (sumE l)]) ∧ Below w.heap.size w w' := by
  obtain ⟨oa, cap, rfl, hlc1, hlc2, _, hlc⟩ := hl.at_
  unfold maxLen at hlc2
  have HL := Lib.hid hlc
  clear hlc
  by_cases h : l.length > 65536
  · unfold sumE sumS
    rw [if_pos h, if_pos h]
    have h' : (l.length : Int) > 65536 := by omega
    go_enter Try.func23, Try.ntmps23
    go_wp2_with fail
    refine bodyPost_ret (v := .tuple #[.agg #[.int .i64 0, .int .i64 0], .int .i64 8]) (by simp only [results, Try.results23]; go_simp; first | done | rfl) rfl ⟨rfl, ?_⟩
    repeat (first | (with_reducible exact Below.refl _ _) | (with_reducible assumption) | (with_reducible refine Below.drew ?_) | ((with_reducible refine Below.alloc ?_ ?_ _); rotate_left; (first | (with_reducible exact Nat.zero_le _) | (with_reducible exact Nat.le_refl _) | omega | (dsimp only; omega) | (simp only [World.size_alloc, World.size_setCell, World.size_drew]; omega))) | ((with_reducible refine Below.setCell ?_ ?_ _); rotate_left; (first | (with_reducible exact Nat.zero_le _) | (with_reducible exact Nat.le_refl _) | omega | (dsimp only; omega) | (simp only [World.size_alloc, World.size_setCell, World.size_drew]; omega))))
  have h' : ¬ (l.length : Int) > 65536 := by omega
  have BZ : Blk ((w.alloc (.cells #[.int .i64 0, .int .i64 0] 23)).alloc (.cells #[.int .i64 0, .int .i64 0] 23)) w.heap.size 23 #[.int .i64 0, .int .i64 0] := (Blk.new w 23 #[.int .i64 0, .int .i64 0]).alloc _
  have BS : Blk ((w.alloc (.cells #[.int .i64 0, .int .i64 0] 23)).alloc (.cells #[.int .i64 0, .int .i64 0] 23)) (w.heap.size + 1) 23 #[.int .i64 0, .int .i64 0] := by
    have := Blk.new (w.alloc (.cells #[.int .i64 0, .int .i64 0] 23)) 23 #[.int .i64 0, .int .i64 0]
    simpa using this
  have hb : Below w.heap.size w ((w.alloc (.cells #[.int .i64 0, .int .i64 0] 23)).alloc (.cells #[.int .i64 0, .int .i64 0] 23)) := by repeat (first | (with_reducible exact Below.refl _ _) | (with_reducible assumption) | (with_reducible refine Below.drew ?_) | ((with_reducible refine Below.alloc ?_ ?_ _); rotate_left; (first | (with_reducible exact Nat.zero_le _) | (with_reducible exact Nat.le_refl _) | omega | (dsimp only; omega) | (simp only [World.size_alloc, World.size_setCell, World.size_drew]; omega))) | ((with_reducible refine Below.setCell ?_ ?_ _); rotate_left; (first | (with_reducible exact Nat.zero_le _) | (with_reducible exact Nat.le_refl _) | omega | (dsimp only; omega) | (simp only [World.size_alloc, World.size_setCell, World.size_drew]; omega))))
  go_enter Try.func23, Try.ntmps23
  go_wp2_with fail
  go_loopw [5] (fun i wr => RSumRel w l i wr) (fun i _ => (l.length - intOf i).toNat)
  case atStart => exact ⟨0, Nat.zero_le _, rfl, rfl, hb, BZ, BS⟩
  case round =>
    clear hb BZ BS
    obtain ⟨k, hk, rfl, hok, hb, BZ, BS⟩ := hrel
    have hwz := hb.size
    by_cases hlt : k < l.length
    · obtain ⟨x, hx⟩ : ∃ x, l[k]? = some x := ⟨_, List.getElem?_eq_getElem hlt⟩
      obtain ⟨lb, lo, ho, hll, hlc⟩ := HL.out (by rintro rfl; simp at hlt)
      rw [ho]
      have hkl : (k : Int) < l.length := by omega
      have hk0 : (0 : Int) ≤ k := by omega
      have q : ∀ j, wr.cell? ⟨lb, j, none⟩ = w.cell? ⟨lb, j, none⟩ := fun j => hb.cell (p := ⟨lb, j, none⟩) hll
      have e0 : World.cell? w ⟨lb, lo + k * 2, none⟩ = some (.int .i64 (x).lo) := hlc k x hx 0 (by omega)
      have e1 : World.cell? w ⟨lb, lo + k * 2 + 1, none⟩ = some (.int .i64 (x).hi) := hlc k x hx 1 (by omega)
      rw [← q] at e0 e1
      clear q
      have hs := allV_take hx
      rw [hok, Bool.true_and] at hs
      have hv := fun w => rvalid_any x w
      have hxv := @sval_true x
      have he := endsV_take plus plus sp0 hx
      have hbd := sum_bd (o := sp0) (l := l.take k) (by decide) hok
      have hlk : (l.take k).length ≤ 65535 := by simp; omega
      generalize sval x = b at *
      generalize endsV plus plus sp0 (l.take k) = A at *
      cases b with
      | false =>
        have hfin : allV l = false := Bool.eq_false_iff.2 fun h => by
          have := allV_le (k := k + 1) h
          rw [hs] at this; cases this
        have e1 : sumE l = 1 := by unfold sumE; rw [if_neg h, hfin, if_neg (by simp)]
        have e2 : sumS l = sp0 := by unfold sumS; rw [if_neg h, hfin, if_neg (by simp)]
        have HF := Lib.hid (And.intro e1 e2)
        clear hfin hs he hbd hxv e1 e2
        have cz := BZ.cell
        have lz := BZ.lt
        have fz := BZ.free
        have cs := BS.cell
        have ls := BS.lt
        have fs := BS.free
        go_wp2_with fail
        clear cz lz fz cs ls fs
        refine (hv _).mono ?_
        rintro e w1 ⟨rfl, hb1⟩
        replace BZ := BZ.step hb1
        replace BS := BS.step hb1
        replace hb := hb.trans (hb1.mono hb.size)
        have cz := BZ.cell
        have lz := BZ.lt
        have fz := BZ.free
        have cs := BS.cell
        have ls := BS.lt
        have fs := BS.free
        go_wp2_with fail
        refine bodyPost_ret (v := .tuple #[.agg #[.int .i64 0, .int .i64 0], .int .i64 1]) (by simp only [results, Try.results23]; go_simp; first | done | rfl) rfl ⟨by rw [HF.out.1, HF.out.2]; rfl, ?_⟩
        repeat (first | (with_reducible exact Below.refl _ _) | (with_reducible assumption) | (with_reducible refine Below.drew ?_) | ((with_reducible refine Below.alloc ?_ ?_ _); rotate_left; (first | (with_reducible exact Nat.zero_le _) | (with_reducible exact Nat.le_refl _) | omega | (dsimp only; omega) | (simp only [World.size_alloc, World.size_setCell, World.size_drew]; omega))) | ((with_reducible refine Below.setCell ?_ ?_ _); rotate_left; (first | (with_reducible exact Nat.zero_le _) | (with_reducible exact Nat.le_refl _) | omega | (dsimp only; omega) | (simp only [World.size_alloc, World.size_setCell, World.size_drew]; omega))))
      | true =>
        obtain ⟨x1, x2, x3⟩ := hxv rfl
        obtain ⟨d1, d2, d3, d4⟩ := hbd
        have HS := Lib.hid hs
        have HE := Lib.hid he
        clear hs he hxv
        have cz := BZ.cell
        have lz := BZ.lt
        have fz := BZ.free
        have cs := BS.cell
        have ls := BS.lt
        have fs := BS.free
        go_wp2_with fail
        clear cz lz fz cs ls fs
        refine (hv _).mono ?_
        rintro e w1 ⟨rfl, hb1⟩
        have q : ∀ j, w1.cell? ⟨lb, j, none⟩ = wr.cell? ⟨lb, j, none⟩ := fun j => hb1.cell (p := ⟨lb, j, none⟩) (by dsimp only; omega)
        rw [← q] at e0 e1
        clear q
        replace BZ := BZ.step hb1
        replace BS := BS.step hb1
        replace hb := hb.trans (hb1.mono hb.size)
        have hw1 := hb.size
        go_wp2_with fail
        have c2 : ∀ y : BW w1, ∀ j, y.w.cell? ⟨w.heap.size + 1, j, none⟩ = #[.int .i64 A.lo, .int .i64 A.hi][j]? := fun y => (BS.bw y).cell
        have c3 : ∀ y : BW w1, y.w.cell? ⟨lb, lo + k * 2, none⟩ = some (.int .i64 x.lo) := fun y => (y.cell (by omega)).trans e0
        refine wp_region_calm_tail 9 (by kernel_rfl) (by kernel_rfl) ?_
        simp only [List.take_succ_cons, List.take_zero, List.drop_succ_cons, List.drop_zero]
        repeat (go_big_quiet_step (fail))
        refine wpQuiet_nil ?_
        intro w2 hb2
        clear c2 c3
        have q : ∀ j, w2.cell? ⟨lb, j, none⟩ = w1.cell? ⟨lb, j, none⟩ := fun j => hb2.cell (p := ⟨lb, j, none⟩) (by dsimp only; omega)
        rw [← q] at e0 e1
        clear q
        replace BZ := BZ.step hb2
        replace BS := BS.step hb2
        replace hb := hb.trans (hb2.mono hb.size)
        have cz := BZ.cell
        have lz := BZ.lt
        have fz := BZ.free
        have cs := BS.cell
        have ls := BS.lt
        have fs := BS.free
        go_wp2_with fail
        clear cz lz fz cs ls fs
        replace BZ := BZ.far (p := ⟨w.heap.size + 1, 0, none⟩) (by dsimp only; omega) (.int .i64 (A.lo + x.lo))
        replace BS := BS.put 0 (.int .i64 (A.lo + x.lo))
        replace hb := hb.setCell (p := ⟨w.heap.size + 1, 0, none⟩) (by dsimp only; omega) (.int .i64 (A.lo + x.lo))
        clear e0 e1
        generalize w2.setCell ⟨w.heap.size + 1, 0, none⟩ (.int .i64 (A.lo + x.lo)) = w3 at *
        have hw3 := hb.size
        have e1 : World.cell? w3 ⟨lb, lo + k * 2 + 1, none⟩ = some (.int .i64 x.hi) := (hb.cell (p := ⟨lb, lo + k * 2 + 1, none⟩) hll).trans (hlc k x hx 1 (by omega))
        have c2 : ∀ y : BW w3, ∀ j, y.w.cell? ⟨w.heap.size + 1, j, none⟩ = #[.int .i64 (A.lo + x.lo), .int .i64 A.hi][j]? := fun y => (BS.bw y).cell
        have c3 : ∀ y : BW w3, y.w.cell? ⟨lb, lo + k * 2 + 1, none⟩ = some (.int .i64 x.hi) := fun y => (y.cell (by omega)).trans e1
        refine wp_region_calm_tail 9 (by kernel_rfl) (by kernel_rfl) ?_
        simp only [List.take_succ_cons, List.take_zero, List.drop_succ_cons, List.drop_zero]
        repeat (go_big_quiet_step (fail))
        refine wpQuiet_nil ?_
        intro w4 hb4
        clear c2 c3 e1
        replace BZ := BZ.step hb4
        replace BS := BS.step hb4
        replace hb := hb.trans (hb4.mono hb.size)
        have cz := BZ.cell
        have lz := BZ.lt
        have fz := BZ.free
        have cs := BS.cell
        have ls := BS.lt
        have fs := BS.free
        go_wp2_with fail
        clear cz lz fz cs ls fs
        replace BZ := BZ.far (p := ⟨w.heap.size + 1, 1, none⟩) (by dsimp only; omega) (.int .i64 (A.hi + x.hi))
        replace BS := BS.put 1 (.int .i64 (A.hi + x.hi))
        replace hb := hb.setCell (p := ⟨w.heap.size + 1, 1, none⟩) (by dsimp only; omega) (.int .i64 (A.hi + x.hi))
        go_roundw
        case rel => exact ⟨k + 1, hlt, by simp, HS.out, hb, BZ, by rw [HE.out]; exact BS⟩
        case measure => simp [intOf]; omega
    · obtain rfl : k = l.length := by omega
      rw [List.take_length] at hok BS
      have e1 : sumE l = resE (endsV plus plus sp0 l) := by unfold sumE; rw [if_neg h, hok, if_pos rfl]
      have e2 : sumS l = resS (endsV plus plus sp0 l) := by unfold sumS; rw [if_neg h, hok, if_pos rfl]
      have hre := fun w => rchecked_any (endsV plus plus sp0 l) w
      generalize resE (endsV plus plus sp0 l) = rE at *
      generalize resS (endsV plus plus sp0 l) = rS at *
      generalize endsV plus plus sp0 l = A at *
      have HF := Lib.hid (And.intro e1 e2)
      clear e1 e2
      have cz := BZ.cell
      have lz := BZ.lt
      have fz := BZ.free
      have cs := BS.cell
      have ls := BS.lt
      have fs := BS.free
      go_wp2_with fail
      clear cz lz fz cs ls fs
      refine (hre _).mono ?_
      rintro e w1 ⟨rfl, hb1⟩
      replace BZ := BZ.step hb1
      replace BS := BS.step hb1
      replace hb := hb.trans (hb1.mono hb.size)
      have cz := BZ.cell
      have lz := BZ.lt
      have fz := BZ.free
      have cs := BS.cell
      have ls := BS.lt
      have fs := BS.free
      go_wp2_with fail
      refine bodyPost_ret (v := .tuple #[.agg #[.int .i64 (rS).lo, .int .i64 (rS).hi], .int .i64 (rE)]) (by simp only [results, Try.results23]; go_simp; first | done | rfl) rfl ⟨by rw [HF.out.1, HF.out.2], ?_⟩
      repeat (first | (with_reducible exact Below.refl _ _) | (with_reducible assumption) | (with_reducible refine Below.drew ?_) | ((with_reducible refine Below.alloc ?_ ?_ _); rotate_left; (first | (with_reducible exact Nat.zero_le _) | (with_reducible exact Nat.le_refl _) | omega | (dsimp only; omega) | (simp only [World.size_alloc, World.size_setCell, World.size_drew]; omega))) | ((with_reducible refine Below.setCell ?_ ?_ _); rotate_left; (first | (with_reducible exact Nat.zero_le _) | (with_reducible exact Nat.le_refl _) | omega | (dsimp only; omega) | (simp only [World.size_alloc, World.size_setCell, World.size_drew]; omega))))

end Go.Proofs.Ytpclhjkamplmbaa
