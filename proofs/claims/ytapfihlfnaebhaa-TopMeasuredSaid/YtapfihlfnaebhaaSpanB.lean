/- Contracts: ends of intervals. -/
import Derived.Test.YtapfihlfnaebhaaSpanA
import Derived.BigQuiet
import Derived.StillTail
namespace Go.Proofs.Ytapfihlfnaebhaa
set_option linter.unusedVariables false
set_option linter.unusedSimpArgs false
open Go.RowKit

def EndsRel (w : World) (f g : Int → Int → Int) (o : Sp) (l : List Sp) (i : Value) (wr : World) : Prop :=
  ∃ k : Nat, k ≤ l.length ∧ i = .int .i64 k ∧ Below w.heap.size w wr ∧ Blk wr (w.heap.size + 1) 32 #[.int .i64 0, .int .i64 0] ∧ Blk wr (w.heap.size + 2) 32 #[.int .i64 (endsV f g o (l.take k)).lo, .int .i64 (endsV f g o (l.take k)).hi]


set_option maxHeartbeats 2000000 in
theorem ends_sum {w : World} {v : Value} (o : Sp) {l : List Sp} (hl : RowIn w v 2 encP l) (hoS : sval o = true) (hvS : allV l = true) (hn : l.length ≤ 65536) :
    Calls Try.prog 67 #[.func (.func 68) #[] #[], .func (.func 68) #[] #[], .agg #[.int .i64 (o).lo, .int .i64 (o).hi], v] w fun e w' => e = .returned (.agg #[.int .i64 (endsV plus plus o l).lo, .int .i64 (endsV plus plus o l).hi]) ∧ Below w.heap.size w w' := by
  obtain ⟨oa, cap, rfl, hlc1, hlc2, _, hlc⟩ := hl.at_
  unfold maxLen at hlc2
  have HL := Lib.hid hlc
  clear hlc
  have hb0 : Below w.heap.size w (((w.alloc (.cells #[.int .i64 o.lo, .int .i64 o.hi] 32)).alloc (.cells #[.int .i64 0, .int .i64 0] 32)).alloc (.cells #[.int .i64 o.lo, .int .i64 o.hi] 32)) := by repeat (first | (with_reducible exact Below.refl _ _) | (with_reducible assumption) | (with_reducible refine Below.drew ?_) | ((with_reducible refine Below.alloc ?_ ?_ _); rotate_left; (first | (with_reducible exact Nat.zero_le _) | (with_reducible exact Nat.le_refl _) | omega | (dsimp only; omega) | (simp only [World.size_alloc, World.size_setCell, World.size_drew]; omega))) | ((with_reducible refine Below.setCell ?_ ?_ _); rotate_left; (first | (with_reducible exact Nat.zero_le _) | (with_reducible exact Nat.le_refl _) | omega | (dsimp only; omega) | (simp only [World.size_alloc, World.size_setCell, World.size_drew]; omega))))
  have B1 : Blk (((w.alloc (.cells #[.int .i64 o.lo, .int .i64 o.hi] 32)).alloc (.cells #[.int .i64 0, .int .i64 0] 32)).alloc (.cells #[.int .i64 o.lo, .int .i64 o.hi] 32)) (w.heap.size + 1) 32 #[.int .i64 0, .int .i64 0] := by
    have := (Blk.new (w.alloc (.cells #[.int .i64 o.lo, .int .i64 o.hi] 32)) 32 #[.int .i64 0, .int .i64 0]).alloc (.cells #[.int .i64 o.lo, .int .i64 o.hi] 32)
    simpa using this
  have B2 : Blk (((w.alloc (.cells #[.int .i64 o.lo, .int .i64 o.hi] 32)).alloc (.cells #[.int .i64 0, .int .i64 0] 32)).alloc (.cells #[.int .i64 o.lo, .int .i64 o.hi] 32)) (w.heap.size + 2) 32 #[.int .i64 o.lo, .int .i64 o.hi] := by
    have := Blk.new ((w.alloc (.cells #[.int .i64 o.lo, .int .i64 o.hi] 32)).alloc (.cells #[.int .i64 0, .int .i64 0] 32)) 32 #[.int .i64 o.lo, .int .i64 o.hi]
    simpa using this
  go_enter Try.func67, Try.ntmps67
  go_wp2_with fail
  simp only [show w.heap.size + 1 + 1 = w.heap.size + 2 from rfl]
  go_loopw [15] (fun i wr => EndsRel w plus plus o l i wr) (fun i _ => (l.length - intOf i).toNat)
  case atStart => exact ⟨0, Nat.zero_le _, rfl, hb0, B1, B2⟩
  case round =>
    clear hb0 B1 B2
    obtain ⟨k, hk, rfl, hb, B1, B2⟩ := hrel
    have hwz := hb.size
    by_cases hlt : k < l.length
    · obtain ⟨x, hx⟩ : ∃ x, l[k]? = some x := ⟨_, List.getElem?_eq_getElem hlt⟩
      obtain ⟨lb, lo, ho, hll, hlc⟩ := HL.out (by rintro rfl; simp at hlt)
      rw [ho]
      have hkl : (k : Int) < l.length := by omega
      have q : ∀ j, wr.cell? ⟨lb, j, none⟩ = w.cell? ⟨lb, j, none⟩ := fun j => hb.cell (p := ⟨lb, j, none⟩) hll
      have e0 : World.cell? w ⟨lb, lo + k * 2, none⟩ = some (.int .i64 (x).lo) := hlc k x hx 0 (by omega)
      have e1 : World.cell? w ⟨lb, lo + k * 2 + 1, none⟩ = some (.int .i64 (x).hi) := hlc k x hx 1 (by omega)
      rw [← q] at e0 e1
      clear q
      have hs := endsV_take plus plus o hx
      have hb1 := sum_bd hoS (allV_le (k := k) hvS)
      have hx1 := sval_true (allV_mem hvS (List.mem_of_getElem? hx))
      have hlk : (l.take k).length ≤ 65535 := (by simp; omega)
      generalize endsV plus plus o (l.take k) = A at *
      have HS := Lib.hid hs
      clear hs
      go_wp2_with fail
      have B3 := Blk.new wr 32 #[.int .i64 x.lo, .int .i64 x.hi]
      replace B1 := B1.alloc (.cells #[.int .i64 x.lo, .int .i64 x.hi] 32)
      replace B2 := B2.alloc (.cells #[.int .i64 x.lo, .int .i64 x.hi] 32)
      replace hb := hb.alloc hwz (.cells #[.int .i64 x.lo, .int .i64 x.hi] 32)
      have hwr := B2.lt
      generalize wr.heap.size = g3 at *
      generalize wr.alloc (.cells #[.int .i64 x.lo, .int .i64 x.hi] 32) = wb at *
      clear e0 e1
      have c2 : ∀ y : BW wb, ∀ j, y.w.cell? ⟨w.heap.size + 2, j, none⟩ = #[.int .i64 A.lo, .int .i64 A.hi][j]? := fun y => (B2.bw y).cell
      have c3 : ∀ y : BW wb, ∀ j, y.w.cell? ⟨g3, j, none⟩ = #[.int .i64 x.lo, .int .i64 x.hi][j]? := fun y => (B3.bw y).cell
      refine wp_region_calm_tail 13 (by kernel_rfl) (by kernel_rfl) ?_
      simp only [List.take_succ_cons, List.take_zero, List.drop_succ_cons, List.drop_zero]
      repeat (go_big_quiet_step (fail))
      go_big_quiet_want; go_big_quiet_op; go_big_quiet_call (exact calls_bw (fun w => sum_any _ _ (by omega) (by omega) w) _)
      repeat (go_big_quiet_step (fail))
      go_big_quiet_want; go_big_quiet_op; go_big_quiet_call (exact calls_bw (fun w => sum_any _ _ (by omega) (by omega) w) _)
      repeat (go_big_quiet_step (fail))
      first | refine wpQuiet_nil ?_ | skip
      intro w1 hb1
      clear c2 c3 B3
      replace B1 := B1.step hb1
      replace B2 := B2.step hb1
      have hws := hb.size
      replace hb := hb.trans (hb1.mono hws)
      have c2 := B2.cell
      have f2 := B2.free
      have l2 := B2.lt
      have K2 := (B2.put 0 (.int .i64 (plus A.lo x.lo))).put 1 (.int .i64 (plus A.hi x.hi))
      have K1 := (B1.far (p := ⟨w.heap.size + 2, 0, none⟩) (by simp) (.int .i64 (plus A.lo x.lo))).far (p := ⟨w.heap.size + 2, 1, none⟩) (by simp) (.int .i64 (plus A.hi x.hi))
      have KB : Below w.heap.size w ((w1.setCell ⟨w.heap.size + 2, 0, none⟩ (.int .i64 (plus A.lo x.lo))).setCell ⟨w.heap.size + 2, 1, none⟩ (.int .i64 (plus A.hi x.hi))) := (hb.setCell (by simp) _).setCell (by simp) _
      go_wp2_with fail
      go_roundw
      case rel => exact ⟨k + 1, hlt, by simp, KB, K1, by rw [HS.out]; exact K2⟩
      case measure => simp [intOf]; omega
    · obtain rfl : k = l.length := by omega
      rw [List.take_length] at B2
      obtain ⟨A, hA⟩ : ∃ A, A = endsV plus plus o l := ⟨_, rfl⟩
      rw [← hA] at B2
      have HA := Lib.hid hA
      clear hA
      have c1 := B1.cell
      have f1 := B1.free
      have l1 := B1.lt
      have c2 := B2.cell
      have l2 := B2.lt
      go_wp2_with fail
      refine bodyPost_ret (v := .agg #[.int .i64 (A).lo, .int .i64 (A).hi]) (by simp only [results, Try.results67]; go_simp; first | done | rfl) rfl ⟨by rw [← HA.out], ?_⟩
      repeat (first | (with_reducible exact Below.refl _ _) | (with_reducible assumption) | (with_reducible refine Below.drew ?_) | ((with_reducible refine Below.alloc ?_ ?_ _); rotate_left; (first | (with_reducible exact Nat.zero_le _) | (with_reducible exact Nat.le_refl _) | omega | (dsimp only; omega) | (simp only [World.size_alloc, World.size_setCell, World.size_drew]; omega))) | ((with_reducible refine Below.setCell ?_ ?_ _); rotate_left; (first | (with_reducible exact Nat.zero_le _) | (with_reducible exact Nat.le_refl _) | omega | (dsimp only; omega) | (simp only [World.size_alloc, World.size_setCell, World.size_drew]; omega))))

set_option maxHeartbeats 2000000 in
theorem ends_most {w : World} {v : Value} (o : Sp) {l : List Sp} (hl : RowIn w v 2 encP l)  :
    Calls Try.prog 67 #[.func (.func 69) #[] #[], .func (.func 70) #[] #[], .agg #[.int .i64 (o).lo, .int .i64 (o).hi], v] w fun e w' => e = .returned (.agg #[.int .i64 (endsV maxi mini o l).lo, .int .i64 (endsV maxi mini o l).hi]) ∧ Below w.heap.size w w' := by
  obtain ⟨oa, cap, rfl, hlc1, hlc2, _, hlc⟩ := hl.at_
  unfold maxLen at hlc2
  have HL := Lib.hid hlc
  clear hlc
  have hb0 : Below w.heap.size w (((w.alloc (.cells #[.int .i64 o.lo, .int .i64 o.hi] 32)).alloc (.cells #[.int .i64 0, .int .i64 0] 32)).alloc (.cells #[.int .i64 o.lo, .int .i64 o.hi] 32)) := by repeat (first | (with_reducible exact Below.refl _ _) | (with_reducible assumption) | (with_reducible refine Below.drew ?_) | ((with_reducible refine Below.alloc ?_ ?_ _); rotate_left; (first | (with_reducible exact Nat.zero_le _) | (with_reducible exact Nat.le_refl _) | omega | (dsimp only; omega) | (simp only [World.size_alloc, World.size_setCell, World.size_drew]; omega))) | ((with_reducible refine Below.setCell ?_ ?_ _); rotate_left; (first | (with_reducible exact Nat.zero_le _) | (with_reducible exact Nat.le_refl _) | omega | (dsimp only; omega) | (simp only [World.size_alloc, World.size_setCell, World.size_drew]; omega))))
  have B1 : Blk (((w.alloc (.cells #[.int .i64 o.lo, .int .i64 o.hi] 32)).alloc (.cells #[.int .i64 0, .int .i64 0] 32)).alloc (.cells #[.int .i64 o.lo, .int .i64 o.hi] 32)) (w.heap.size + 1) 32 #[.int .i64 0, .int .i64 0] := by
    have := (Blk.new (w.alloc (.cells #[.int .i64 o.lo, .int .i64 o.hi] 32)) 32 #[.int .i64 0, .int .i64 0]).alloc (.cells #[.int .i64 o.lo, .int .i64 o.hi] 32)
    simpa using this
  have B2 : Blk (((w.alloc (.cells #[.int .i64 o.lo, .int .i64 o.hi] 32)).alloc (.cells #[.int .i64 0, .int .i64 0] 32)).alloc (.cells #[.int .i64 o.lo, .int .i64 o.hi] 32)) (w.heap.size + 2) 32 #[.int .i64 o.lo, .int .i64 o.hi] := by
    have := Blk.new ((w.alloc (.cells #[.int .i64 o.lo, .int .i64 o.hi] 32)).alloc (.cells #[.int .i64 0, .int .i64 0] 32)) 32 #[.int .i64 o.lo, .int .i64 o.hi]
    simpa using this
  go_enter Try.func67, Try.ntmps67
  go_wp2_with fail
  simp only [show w.heap.size + 1 + 1 = w.heap.size + 2 from rfl]
  go_loopw [15] (fun i wr => EndsRel w maxi mini o l i wr) (fun i _ => (l.length - intOf i).toNat)
  case atStart => exact ⟨0, Nat.zero_le _, rfl, hb0, B1, B2⟩
  case round =>
    clear hb0 B1 B2
    obtain ⟨k, hk, rfl, hb, B1, B2⟩ := hrel
    have hwz := hb.size
    by_cases hlt : k < l.length
    · obtain ⟨x, hx⟩ : ∃ x, l[k]? = some x := ⟨_, List.getElem?_eq_getElem hlt⟩
      obtain ⟨lb, lo, ho, hll, hlc⟩ := HL.out (by rintro rfl; simp at hlt)
      rw [ho]
      have hkl : (k : Int) < l.length := by omega
      have q : ∀ j, wr.cell? ⟨lb, j, none⟩ = w.cell? ⟨lb, j, none⟩ := fun j => hb.cell (p := ⟨lb, j, none⟩) hll
      have e0 : World.cell? w ⟨lb, lo + k * 2, none⟩ = some (.int .i64 (x).lo) := hlc k x hx 0 (by omega)
      have e1 : World.cell? w ⟨lb, lo + k * 2 + 1, none⟩ = some (.int .i64 (x).hi) := hlc k x hx 1 (by omega)
      rw [← q] at e0 e1
      clear q
      have hs := endsV_take maxi mini o hx
      skip
      generalize endsV maxi mini o (l.take k) = A at *
      have HS := Lib.hid hs
      clear hs
      go_wp2_with fail
      have B3 := Blk.new wr 32 #[.int .i64 x.lo, .int .i64 x.hi]
      replace B1 := B1.alloc (.cells #[.int .i64 x.lo, .int .i64 x.hi] 32)
      replace B2 := B2.alloc (.cells #[.int .i64 x.lo, .int .i64 x.hi] 32)
      replace hb := hb.alloc hwz (.cells #[.int .i64 x.lo, .int .i64 x.hi] 32)
      have hwr := B2.lt
      generalize wr.heap.size = g3 at *
      generalize wr.alloc (.cells #[.int .i64 x.lo, .int .i64 x.hi] 32) = wb at *
      clear e0 e1
      have c2 : ∀ y : BW wb, ∀ j, y.w.cell? ⟨w.heap.size + 2, j, none⟩ = #[.int .i64 A.lo, .int .i64 A.hi][j]? := fun y => (B2.bw y).cell
      have c3 : ∀ y : BW wb, ∀ j, y.w.cell? ⟨g3, j, none⟩ = #[.int .i64 x.lo, .int .i64 x.hi][j]? := fun y => (B3.bw y).cell
      refine wp_region_calm_tail 13 (by kernel_rfl) (by kernel_rfl) ?_
      simp only [List.take_succ_cons, List.take_zero, List.drop_succ_cons, List.drop_zero]
      repeat (go_big_quiet_step (fail))
      go_big_quiet_want; go_big_quiet_op; go_big_quiet_call (exact calls_bw (fun w => most_any _ _ w) _)
      repeat (go_big_quiet_step (fail))
      go_big_quiet_want; go_big_quiet_op; go_big_quiet_call (exact calls_bw (fun w => least_any _ _ w) _)
      repeat (go_big_quiet_step (fail))
      first | refine wpQuiet_nil ?_ | skip
      intro w1 hb1
      clear c2 c3 B3
      replace B1 := B1.step hb1
      replace B2 := B2.step hb1
      have hws := hb.size
      replace hb := hb.trans (hb1.mono hws)
      have c2 := B2.cell
      have f2 := B2.free
      have l2 := B2.lt
      have K2 := (B2.put 0 (.int .i64 (maxi A.lo x.lo))).put 1 (.int .i64 (mini A.hi x.hi))
      have K1 := (B1.far (p := ⟨w.heap.size + 2, 0, none⟩) (by simp) (.int .i64 (maxi A.lo x.lo))).far (p := ⟨w.heap.size + 2, 1, none⟩) (by simp) (.int .i64 (mini A.hi x.hi))
      have KB : Below w.heap.size w ((w1.setCell ⟨w.heap.size + 2, 0, none⟩ (.int .i64 (maxi A.lo x.lo))).setCell ⟨w.heap.size + 2, 1, none⟩ (.int .i64 (mini A.hi x.hi))) := (hb.setCell (by simp) _).setCell (by simp) _
      go_wp2_with fail
      go_roundw
      case rel => exact ⟨k + 1, hlt, by simp, KB, K1, by rw [HS.out]; exact K2⟩
      case measure => simp [intOf]; omega
    · obtain rfl : k = l.length := by omega
      rw [List.take_length] at B2
      obtain ⟨A, hA⟩ : ∃ A, A = endsV maxi mini o l := ⟨_, rfl⟩
      rw [← hA] at B2
      have HA := Lib.hid hA
      clear hA
      have c1 := B1.cell
      have f1 := B1.free
      have l1 := B1.lt
      have c2 := B2.cell
      have l2 := B2.lt
      go_wp2_with fail
      refine bodyPost_ret (v := .agg #[.int .i64 (A).lo, .int .i64 (A).hi]) (by simp only [results, Try.results67]; go_simp; first | done | rfl) rfl ⟨by rw [← HA.out], ?_⟩
      repeat (first | (with_reducible exact Below.refl _ _) | (with_reducible assumption) | (with_reducible refine Below.drew ?_) | ((with_reducible refine Below.alloc ?_ ?_ _); rotate_left; (first | (with_reducible exact Nat.zero_le _) | (with_reducible exact Nat.le_refl _) | omega | (dsimp only; omega) | (simp only [World.size_alloc, World.size_setCell, World.size_drew]; omega))) | ((with_reducible refine Below.setCell ?_ ?_ _); rotate_left; (first | (with_reducible exact Nat.zero_le _) | (with_reducible exact Nat.le_refl _) | omega | (dsimp only; omega) | (simp only [World.size_alloc, World.size_setCell, World.size_drew]; omega))))

set_option maxHeartbeats 2000000 in
theorem ends_least {w : World} {v : Value} (o : Sp) {l : List Sp} (hl : RowIn w v 2 encP l)  :
    Calls Try.prog 67 #[.func (.func 70) #[] #[], .func (.func 69) #[] #[], .agg #[.int .i64 (o).lo, .int .i64 (o).hi], v] w fun e w' => e = .returned (.agg #[.int .i64 (endsV mini maxi o l).lo, .int .i64 (endsV mini maxi o l).hi]) ∧ Below w.heap.size w w' := by
  obtain ⟨oa, cap, rfl, hlc1, hlc2, _, hlc⟩ := hl.at_
  unfold maxLen at hlc2
  have HL := Lib.hid hlc
  clear hlc
  have hb0 : Below w.heap.size w (((w.alloc (.cells #[.int .i64 o.lo, .int .i64 o.hi] 32)).alloc (.cells #[.int .i64 0, .int .i64 0] 32)).alloc (.cells #[.int .i64 o.lo, .int .i64 o.hi] 32)) := by repeat (first | (with_reducible exact Below.refl _ _) | (with_reducible assumption) | (with_reducible refine Below.drew ?_) | ((with_reducible refine Below.alloc ?_ ?_ _); rotate_left; (first | (with_reducible exact Nat.zero_le _) | (with_reducible exact Nat.le_refl _) | omega | (dsimp only; omega) | (simp only [World.size_alloc, World.size_setCell, World.size_drew]; omega))) | ((with_reducible refine Below.setCell ?_ ?_ _); rotate_left; (first | (with_reducible exact Nat.zero_le _) | (with_reducible exact Nat.le_refl _) | omega | (dsimp only; omega) | (simp only [World.size_alloc, World.size_setCell, World.size_drew]; omega))))
  have B1 : Blk (((w.alloc (.cells #[.int .i64 o.lo, .int .i64 o.hi] 32)).alloc (.cells #[.int .i64 0, .int .i64 0] 32)).alloc (.cells #[.int .i64 o.lo, .int .i64 o.hi] 32)) (w.heap.size + 1) 32 #[.int .i64 0, .int .i64 0] := by
    have := (Blk.new (w.alloc (.cells #[.int .i64 o.lo, .int .i64 o.hi] 32)) 32 #[.int .i64 0, .int .i64 0]).alloc (.cells #[.int .i64 o.lo, .int .i64 o.hi] 32)
    simpa using this
  have B2 : Blk (((w.alloc (.cells #[.int .i64 o.lo, .int .i64 o.hi] 32)).alloc (.cells #[.int .i64 0, .int .i64 0] 32)).alloc (.cells #[.int .i64 o.lo, .int .i64 o.hi] 32)) (w.heap.size + 2) 32 #[.int .i64 o.lo, .int .i64 o.hi] := by
    have := Blk.new ((w.alloc (.cells #[.int .i64 o.lo, .int .i64 o.hi] 32)).alloc (.cells #[.int .i64 0, .int .i64 0] 32)) 32 #[.int .i64 o.lo, .int .i64 o.hi]
    simpa using this
  go_enter Try.func67, Try.ntmps67
  go_wp2_with fail
  simp only [show w.heap.size + 1 + 1 = w.heap.size + 2 from rfl]
  go_loopw [15] (fun i wr => EndsRel w mini maxi o l i wr) (fun i _ => (l.length - intOf i).toNat)
  case atStart => exact ⟨0, Nat.zero_le _, rfl, hb0, B1, B2⟩
  case round =>
    clear hb0 B1 B2
    obtain ⟨k, hk, rfl, hb, B1, B2⟩ := hrel
    have hwz := hb.size
    by_cases hlt : k < l.length
    · obtain ⟨x, hx⟩ : ∃ x, l[k]? = some x := ⟨_, List.getElem?_eq_getElem hlt⟩
      obtain ⟨lb, lo, ho, hll, hlc⟩ := HL.out (by rintro rfl; simp at hlt)
      rw [ho]
      have hkl : (k : Int) < l.length := by omega
      have q : ∀ j, wr.cell? ⟨lb, j, none⟩ = w.cell? ⟨lb, j, none⟩ := fun j => hb.cell (p := ⟨lb, j, none⟩) hll
      have e0 : World.cell? w ⟨lb, lo + k * 2, none⟩ = some (.int .i64 (x).lo) := hlc k x hx 0 (by omega)
      have e1 : World.cell? w ⟨lb, lo + k * 2 + 1, none⟩ = some (.int .i64 (x).hi) := hlc k x hx 1 (by omega)
      rw [← q] at e0 e1
      clear q
      have hs := endsV_take mini maxi o hx
      skip
      generalize endsV mini maxi o (l.take k) = A at *
      have HS := Lib.hid hs
      clear hs
      go_wp2_with fail
      have B3 := Blk.new wr 32 #[.int .i64 x.lo, .int .i64 x.hi]
      replace B1 := B1.alloc (.cells #[.int .i64 x.lo, .int .i64 x.hi] 32)
      replace B2 := B2.alloc (.cells #[.int .i64 x.lo, .int .i64 x.hi] 32)
      replace hb := hb.alloc hwz (.cells #[.int .i64 x.lo, .int .i64 x.hi] 32)
      have hwr := B2.lt
      generalize wr.heap.size = g3 at *
      generalize wr.alloc (.cells #[.int .i64 x.lo, .int .i64 x.hi] 32) = wb at *
      clear e0 e1
      have c2 : ∀ y : BW wb, ∀ j, y.w.cell? ⟨w.heap.size + 2, j, none⟩ = #[.int .i64 A.lo, .int .i64 A.hi][j]? := fun y => (B2.bw y).cell
      have c3 : ∀ y : BW wb, ∀ j, y.w.cell? ⟨g3, j, none⟩ = #[.int .i64 x.lo, .int .i64 x.hi][j]? := fun y => (B3.bw y).cell
      refine wp_region_calm_tail 13 (by kernel_rfl) (by kernel_rfl) ?_
      simp only [List.take_succ_cons, List.take_zero, List.drop_succ_cons, List.drop_zero]
      repeat (go_big_quiet_step (fail))
      go_big_quiet_want; go_big_quiet_op; go_big_quiet_call (exact calls_bw (fun w => least_any _ _ w) _)
      repeat (go_big_quiet_step (fail))
      go_big_quiet_want; go_big_quiet_op; go_big_quiet_call (exact calls_bw (fun w => most_any _ _ w) _)
      repeat (go_big_quiet_step (fail))
      first | refine wpQuiet_nil ?_ | skip
      intro w1 hb1
      clear c2 c3 B3
      replace B1 := B1.step hb1
      replace B2 := B2.step hb1
      have hws := hb.size
      replace hb := hb.trans (hb1.mono hws)
      have c2 := B2.cell
      have f2 := B2.free
      have l2 := B2.lt
      have K2 := (B2.put 0 (.int .i64 (mini A.lo x.lo))).put 1 (.int .i64 (maxi A.hi x.hi))
      have K1 := (B1.far (p := ⟨w.heap.size + 2, 0, none⟩) (by simp) (.int .i64 (mini A.lo x.lo))).far (p := ⟨w.heap.size + 2, 1, none⟩) (by simp) (.int .i64 (maxi A.hi x.hi))
      have KB : Below w.heap.size w ((w1.setCell ⟨w.heap.size + 2, 0, none⟩ (.int .i64 (mini A.lo x.lo))).setCell ⟨w.heap.size + 2, 1, none⟩ (.int .i64 (maxi A.hi x.hi))) := (hb.setCell (by simp) _).setCell (by simp) _
      go_wp2_with fail
      go_roundw
      case rel => exact ⟨k + 1, hlt, by simp, KB, K1, by rw [HS.out]; exact K2⟩
      case measure => simp [intOf]; omega
    · obtain rfl : k = l.length := by omega
      rw [List.take_length] at B2
      obtain ⟨A, hA⟩ : ∃ A, A = endsV mini maxi o l := ⟨_, rfl⟩
      rw [← hA] at B2
      have HA := Lib.hid hA
      clear hA
      have c1 := B1.cell
      have f1 := B1.free
      have l1 := B1.lt
      have c2 := B2.cell
      have l2 := B2.lt
      go_wp2_with fail
      refine bodyPost_ret (v := .agg #[.int .i64 (A).lo, .int .i64 (A).hi]) (by simp only [results, Try.results67]; go_simp; first | done | rfl) rfl ⟨by rw [← HA.out], ?_⟩
      repeat (first | (with_reducible exact Below.refl _ _) | (with_reducible assumption) | (with_reducible refine Below.drew ?_) | ((with_reducible refine Below.alloc ?_ ?_ _); rotate_left; (first | (with_reducible exact Nat.zero_le _) | (with_reducible exact Nat.le_refl _) | omega | (dsimp only; omega) | (simp only [World.size_alloc, World.size_setCell, World.size_drew]; omega))) | ((with_reducible refine Below.setCell ?_ ?_ _); rotate_left; (first | (with_reducible exact Nat.zero_le _) | (with_reducible exact Nat.le_refl _) | omega | (dsimp only; omega) | (simp only [World.size_alloc, World.size_setCell, World.size_drew]; omega))))

end Go.Proofs.Ytapfihlfnaebhaa
