/- Contract: the examples of the law. -/
import Derived.Test.YtpafcdigcpbbeaaLotZ
import Derived.Deep.RegionHeld3
import Derived.Test.YtpafcdigcpbbeaaLotR
namespace Go.Proofs.Ytpafcdigcpbbeaa
set_option linter.unusedVariables false
set_option linter.unusedSimpArgs false
open Go.RowKit

theorem ex_o (p q : Nat) : orgV (exL p q 600 600) 4 = [1, 2] := by kernel_rfl
theorem ex_oe (p q : Nat) : lefE (exL p q 600 600) 4 = 0 := by kernel_rfl
theorem ex_u (p q : Nat) : useV (exL p q 600 600) 1 = [3, 4] := by kernel_rfl
theorem ex_ue (p q : Nat) : lefE (exL p q 600 600) 1 = 0 := by kernel_rfl
theorem ex_l (p q : Nat) : lefS (exL p q 600 600) 1 = ⟨600, 600⟩ := by kernel_rfl
theorem ex_s (p q : Nat) : lstS (exL p q 600 600) 0 = ⟨1400, 1400⟩ := by kernel_rfl
theorem ex_se (p q : Nat) : lstE (exL p q 600 600) 0 = 0 := by kernel_rfl
theorem ex_bad (p q : Nat) : chkL (exL p q 601 700) = 16 := by kernel_rfl
set_option maxRecDepth 100000 in
set_option maxHeartbeats 8000000 in
theorem awake_any (w : World) : Calls Try.prog 11 #[] w fun e w' => e = .returned (.bool true) ∧ Below w.heap.size w w' := by
  have hex := example_any
  have hm := lawmass_any
  go_enter Try.func11, Try.ntmps11
  go_wp2_with fail
  refine (hex _).mono ?_
  rintro e w1 ⟨g, p, q, rfl, BG, BP, BQ, hn1, hn2, _, hb⟩
  have LI := exL_in BG BP BQ
  have ho := origin_any LI 4 (by rfl)
  rw [ex_o, ex_oe] at ho
  clear BG BP BQ
  go_wp2_with fail
  refine ho.mono ?_
  rintro e w2 ⟨va, rfl, RA, hb2⟩
  replace LI := LI.step hb2
  replace hb := hb.trans (hb2.mono hb.size)
  clear ho hb2
  have hu := uses_any LI 1 (by rfl)
  rw [ex_u, ex_ue] at hu
  go_wp2_with fail
  refine hu.mono ?_
  rintro e w3 ⟨vb, rfl, RB, hb3⟩
  replace LI := LI.step hb3
  replace RA := RA.step hb3
  replace hb := hb.trans (hb3.mono hb.size)
  clear hu hb3
  have hl := left_any LI 1 (by rfl)
  rw [ex_l, ex_ue] at hl
  go_wp2_with fail
  refine hl.mono ?_
  rintro e w4 ⟨rfl, hb4⟩
  have hbc : Below w4.heap.size w4 (w4.alloc (.cells #[.int .i64 600, .int .i64 600] 29)) := by repeat (first | (with_reducible exact Below.refl _ _) | (with_reducible assumption) | (with_reducible refine Below.drew ?_) | ((with_reducible refine Below.alloc ?_ ?_ _); rotate_left; (first | (with_reducible exact Nat.zero_le _) | (with_reducible exact Nat.le_refl _) | omega | (dsimp only; omega) | (simp only [World.size_alloc, World.size_setCell, World.size_drew]; omega))) | ((with_reducible refine Below.setCell ?_ ?_ _); rotate_left; (first | (with_reducible exact Nat.zero_le _) | (with_reducible exact Nat.le_refl _) | omega | (dsimp only; omega) | (simp only [World.size_alloc, World.size_setCell, World.size_drew]; omega))))
  have BC := Blk.new w4 29 #[.int .i64 600, .int .i64 600]
  have hb5 := hb4.trans (hbc.mono hb4.size)
  replace LI := LI.step hb5
  replace RA := RA.step hb5
  replace RB := RB.step hb5
  replace hb := hb.trans (hb5.mono hb.size)
  clear hl hb4 hbc hb5
  have hs := lstock_any LI 0
  rw [ex_s, ex_se] at hs
  go_wp2_with fail
  refine hs.mono ?_
  rintro e w5 ⟨rfl, hb5⟩
  have hbd : Below w5.heap.size w5 (w5.alloc (.cells #[.int .i64 1400, .int .i64 1400] 29)) := by repeat (first | (with_reducible exact Below.refl _ _) | (with_reducible assumption) | (with_reducible refine Below.drew ?_) | ((with_reducible refine Below.alloc ?_ ?_ _); rotate_left; (first | (with_reducible exact Nat.zero_le _) | (with_reducible exact Nat.le_refl _) | omega | (dsimp only; omega) | (simp only [World.size_alloc, World.size_setCell, World.size_drew]; omega))) | ((with_reducible refine Below.setCell ?_ ?_ _); rotate_left; (first | (with_reducible exact Nat.zero_le _) | (with_reducible exact Nat.le_refl _) | omega | (dsimp only; omega) | (simp only [World.size_alloc, World.size_setCell, World.size_drew]; omega))))
  have BD := Blk.new w5 29 #[.int .i64 1400, .int .i64 1400]
  have hb6 := hb5.trans (hbd.mono hb5.size)
  replace BC := BC.step hb6
  replace RA := RA.step hb6
  replace RB := RB.step hb6
  replace hb := hb.trans (hb6.mono hb.size)
  clear hs hb5 hbd hb6 LI
  go_wp2_with fail
  refine (hex _).mono ?_
  rintro e w6 ⟨g', p', q', rfl, BG, BP, BQ, hn1', hn2', hgs, hb6⟩
  have c0 : w6.cell? ⟨g', 12, none⟩ = some (.int .i64 600) := BG.cell 12
  have c1 : w6.cell? ⟨g', 13, none⟩ = some (.int .i64 600) := BG.cell 13
  have fg := BG.free
  have lg := BG.lt
  clear hex
  go_wp2_with fail
  have hb7 := (hb6.setCell (p := ⟨g', 12, none⟩) hgs (.int .i64 601)).setCell (p := ⟨g', 13, none⟩) hgs (.int .i64 700)
  replace BC := BC.step hb7
  replace BD := BD.step hb7
  replace RA := RA.step hb7
  replace RB := RB.step hb7
  replace hb := hb.trans (hb7.mono hb.size)
  have BG2 := (BG.put 12 (.int .i64 601)).put 13 (.int .i64 700)
  replace BG2 : Blk _ g' 33 (exC p' q' 601 700) := BG2
  have LB := exL_in BG2 ((BP.far (p := ⟨g', 12, none⟩) hn1'.symm _).far (p := ⟨g', 13, none⟩) hn1'.symm _) ((BQ.far (p := ⟨g', 12, none⟩) hn2'.symm _).far (p := ⟨g', 13, none⟩) hn2'.symm _)
  have hck := fun w h => lcheck_any (w := w) (v := .slice (some ⟨g', 0, none⟩) 4 4) (L := exL p' q' 601 700) h
  rw [ex_bad] at hck
  clear BG BG2 BP BQ c0 c1 fg lg hb6 hb7 hgs
  generalize (w6.setCell ⟨g', 12, none⟩ (.int .i64 601)).setCell ⟨g', 13, none⟩ (.int .i64 700) = w7 at *
  have d0 : w7.cell? ⟨w4.heap.size, 0, none⟩ = some (.int .i64 600) := BC.cell 0
  have d1 : w7.cell? ⟨w4.heap.size, 1, none⟩ = some (.int .i64 600) := BC.cell 1
  have d2 : w7.cell? ⟨w5.heap.size, 0, none⟩ = some (.int .i64 1400) := BD.cell 0
  have d3 : w7.cell? ⟨w5.heap.size, 1, none⟩ = some (.int .i64 1400) := BD.cell 1
  have l0 := BC.lt
  have l1 := BD.lt
  have hbx : Below w7.heap.size w7 (w7.alloc (.cells #[.int .i64 1, .int .i64 2] 3)).drew := by repeat (first | (with_reducible exact Below.refl _ _) | (with_reducible assumption) | (with_reducible refine Below.drew ?_) | ((with_reducible refine Below.alloc ?_ ?_ _); rotate_left; (first | (with_reducible exact Nat.zero_le _) | (with_reducible exact Nat.le_refl _) | omega | (dsimp only; omega) | (simp only [World.size_alloc, World.size_setCell, World.size_drew]; omega))) | ((with_reducible refine Below.setCell ?_ ?_ _); rotate_left; (first | (with_reducible exact Nat.zero_le _) | (with_reducible exact Nat.le_refl _) | omega | (dsimp only; omega) | (simp only [World.size_alloc, World.size_setCell, World.size_drew]; omega))))
  have R12 : RowIn (w7.alloc (.cells #[.int .i64 1, .int .i64 2] 3)).drew (.slice (some ⟨w7.heap.size, 0, none⟩) 2 2) 1 encI1 [1, 2] := RowIn.of_blk (l := [1, 2]) encI1_len1 (Blk.new w7 3 #[.int .i64 1, .int .i64 2]) rfl (by decide)
  have hi1 := rints_any (RA.step hbx) R12
  rw [decide_eq_true rfl] at hi1
  have hi2 : ∀ (w8 : World) (h : Below w7.heap.size w7 w8), Calls Try.prog 23 #[vb, .slice (some ⟨w8.heap.size, 0, none⟩) 2 2] (w8.alloc (.cells #[.int .i64 3, .int .i64 4] 3)) fun e w' => e = .returned (.bool true) ∧ Below (w8.alloc (.cells #[.int .i64 3, .int .i64 4] 3)).heap.size (w8.alloc (.cells #[.int .i64 3, .int .i64 4] 3)) w' := fun w8 h => rints_any (RB.step (h.trans (((Below.refl w8.heap.size w8).alloc (Nat.le_refl _) (.cells #[.int .i64 3, .int .i64 4] 3)).mono h.size))) (RowIn.of_blk (l := [3, 4]) encI1_len1 (Blk.new w8 3 #[.int .i64 3, .int .i64 4]) rfl (by decide))
  have HI2 := Lib.hid hi2
  have HI1 := Lib.hid hi1
  have HCK := Lib.hid hck
  have HLB := Lib.hid LB
  have HBX := Lib.hid hbx
  have HM := Lib.hid hm
  clear hi2 hi1 hck LB RA RB R12 hbx BC BD hm
  go_region_held3 (fun w' => w'.cell? ⟨w4.heap.size, 0, none⟩ = some (.int .i64 600) ∧ w'.cell? ⟨w4.heap.size, 1, none⟩ = some (.int .i64 600) ∧ w'.cell? ⟨w5.heap.size, 0, none⟩ = some (.int .i64 1400) ∧ w'.cell? ⟨w5.heap.size, 1, none⟩ = some (.int .i64 1400)) (go_keep) ((first
    | (go_at_call 23; with_reducible refine HI1.out.mono ?_; rintro e w8 ⟨rfl, hb8⟩; have hbs := HBX.out.trans (hb8.mono HBX.out.size); have q := fun b o (h : b < w7.heap.size) => hbs.cell (p := ⟨b, o, none⟩) h; have k0 := (q _ 0 l0).trans d0; have k1 := (q _ 1 l0).trans d1; have k2 := (q _ 0 l1).trans d2; have k3 := (q _ 1 l1).trans d3; have lb0 := Nat.lt_of_lt_of_le l0 hbs.size; have lb1 := Nat.lt_of_lt_of_le l1 hbs.size; clear q)
    | (go_at_call 23; with_reducible refine (HI2.out _ hbs).mono ?_; rintro e w9 ⟨rfl, hb9⟩; replace hbs := hbs.trans (((Below.alloc (Below.refl _ _) (Nat.le_refl _) _).trans (hb9.mono (by simp))).mono hbs.size); have q := fun b o (h : b < w7.heap.size) => hbs.cell (p := ⟨b, o, none⟩) h; have k0 := (q _ 0 l0).trans d0; have k1 := (q _ 1 l0).trans d1; have k2 := (q _ 0 l1).trans d2; have k3 := (q _ 1 l1).trans d3; have lb0 := Nat.lt_of_lt_of_le l0 hbs.size; have lb1 := Nat.lt_of_lt_of_le l1 hbs.size; clear q)
    | (go_at_call 14; refine (HM.out _ _).mono ?_; rintro e w10 ⟨rfl, hb10⟩; replace hbs := hbs.trans (hb10.mono hbs.size); have q := fun b o (h : b < w7.heap.size) => hbs.cell (p := ⟨b, o, none⟩) h; have k0 := (q _ 0 l0).trans d0; have k1 := (q _ 1 l0).trans d1; have k2 := (q _ 0 l1).trans d2; have k3 := (q _ 1 l1).trans d3; have lb0 := Nat.lt_of_lt_of_le l0 hbs.size; have lb1 := Nat.lt_of_lt_of_le l1 hbs.size; clear q)
    | (go_at_call 12; refine (HCK.out _ (HLB.out.step hbs)).mono ?_; rintro e w11 ⟨rfl, hb11⟩; replace hbs := hbs.trans (hb11.mono hbs.size); have q := fun b o (h : b < w7.heap.size) => hbs.cell (p := ⟨b, o, none⟩) h; have k0 := (q _ 0 l0).trans d0; have k1 := (q _ 1 l0).trans d1; have k2 := (q _ 0 l1).trans d2; have k3 := (q _ 1 l1).trans d3; have lb0 := Nat.lt_of_lt_of_le l0 hbs.size; have lb1 := Nat.lt_of_lt_of_le l1 hbs.size; clear q)))
  all_goals (
    go_wp2_with fail
    go_ret
    exact ⟨by first | rfl | simp, hb.trans (hbs.mono hb.size)⟩)

end Go.Proofs.Ytpafcdigcpbbeaa
