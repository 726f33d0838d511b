/- Contracts: Widen of both; parts of numbers. -/
import Derived.Test.YtpclhjkamplmbaaSpanA
namespace Go.Proofs.Ytpclhjkamplmbaa
set_option linter.unusedVariables false
set_option linter.unusedSimpArgs false
open Go.RowKit

set_option maxHeartbeats 1000000 in
theorem widen_any (s : Sp) (b : Int) (w : World) : Calls Try.prog 28 #[.agg #[.int .i64 (s).lo, .int .i64 (s).hi], .int .i64 b] w fun e w' => e = .returned (.tuple #[.agg #[.int .i64 (widS s b).lo, .int .i64 (widS s b).hi], .int .i64 (widE s b)]) ∧ Below w.heap.size w w' := by
  have BS : Blk ((w.alloc (.cells #[.int .i64 s.lo, .int .i64 s.hi] 23)).alloc (.cells #[.int .i64 0, .int .i64 0] 23)) w.heap.size 23 #[.int .i64 s.lo, .int .i64 s.hi] := (Blk.new w 23 #[.int .i64 s.lo, .int .i64 s.hi]).alloc _
  have BZ : Blk ((w.alloc (.cells #[.int .i64 s.lo, .int .i64 s.hi] 23)).alloc (.cells #[.int .i64 0, .int .i64 0] 23)) (w.heap.size + 1) 23 #[.int .i64 0, .int .i64 0] := by
    have := Blk.new (w.alloc (.cells #[.int .i64 s.lo, .int .i64 s.hi] 23)) 23 #[.int .i64 0, .int .i64 0]
    simpa using this
  have hb : Below w.heap.size w ((w.alloc (.cells #[.int .i64 s.lo, .int .i64 s.hi] 23)).alloc (.cells #[.int .i64 0, .int .i64 0] 23)) := by repeat (first | (with_reducible exact Below.refl _ _) | (with_reducible assumption) | (with_reducible refine Below.drew ?_) | ((with_reducible refine Below.alloc ?_ ?_ _); rotate_left; (first | (with_reducible exact Nat.zero_le _) | (with_reducible exact Nat.le_refl _) | omega | (dsimp only; omega) | (simp only [World.size_alloc, World.size_setCell, World.size_drew]; omega))) | ((with_reducible refine Below.setCell ?_ ?_ _); rotate_left; (first | (with_reducible exact Nat.zero_le _) | (with_reducible exact Nat.le_refl _) | omega | (dsimp only; omega) | (simp only [World.size_alloc, World.size_setCell, World.size_drew]; omega))))
  have hE : widE s b = if sval s = true ∧ 0 ≤ b ∧ b ≤ 70368744177664 then resE ⟨s.lo - b, s.hi + b⟩ else 1 := rfl
  have hS : widS s b = if sval s = true ∧ 0 ≤ b ∧ b ≤ 70368744177664 then resS ⟨s.lo - b, s.hi + b⟩ else sp0 := rfl
  have hv := fun w => valid1_any s w
  have hre := fun w => result_any ⟨s.lo - b, s.hi + b⟩ w
  have hs := @sval_true s
  generalize sval s = c at *
  generalize resE ⟨s.lo - b, s.hi + b⟩ = rE at *
  generalize resS ⟨s.lo - b, s.hi + b⟩ = rS at *
  cases c with
  | false =>
    rw [if_neg (by simp)] at hE hS
    rw [hE, hS]
    clear hE hS hs hre
    go_enter Try.func28, Try.ntmps28
    go_wp2_with fail
    refine (hv _).mono ?_
    rintro e w1 ⟨rfl, hb1⟩
    replace BS := BS.step hb1
    replace BZ := BZ.step hb1
    replace hb := hb.trans (hb1.mono hb.size)
    have cs := BS.cell
    have ls := BS.lt
    have cz := BZ.cell
    have fz := BZ.free
    have lz := BZ.lt
    go_wp2_with fail
    refine bodyPost_ret (v := .tuple #[.agg #[.int .i64 0, .int .i64 0], .int .i64 1]) (by simp only [results, Try.results28]; go_simp; first | done | rfl) rfl ⟨rfl, ?_⟩
    repeat (first | (with_reducible exact Below.refl _ _) | (with_reducible assumption) | (with_reducible refine Below.drew ?_) | ((with_reducible refine Below.alloc ?_ ?_ _); rotate_left; (first | (with_reducible exact Nat.zero_le _) | (with_reducible exact Nat.le_refl _) | omega | (dsimp only; omega) | (simp only [World.size_alloc, World.size_setCell, World.size_drew]; omega))) | ((with_reducible refine Below.setCell ?_ ?_ _); rotate_left; (first | (with_reducible exact Nat.zero_le _) | (with_reducible exact Nat.le_refl _) | omega | (dsimp only; omega) | (simp only [World.size_alloc, World.size_setCell, World.size_drew]; omega))))
  | true =>
    obtain ⟨s1, s2, s3⟩ := hs rfl
    clear hs
    have hc : (b < 0 ∨ (0 ≤ b ∧ b > 70368744177664)) ∨ (0 ≤ b ∧ b ≤ 70368744177664) := by omega
    rcases hc with hc | hc
    · rw [if_neg (by omega)] at hE hS
      rw [hE, hS]
      clear hE hS hre
      rcases hc with h1 | ⟨h1, h2⟩
      · go_enter Try.func28, Try.ntmps28
        go_wp2_with fail
        refine (hv _).mono ?_
        rintro e w1 ⟨rfl, hb1⟩
        replace BS := BS.step hb1
        replace BZ := BZ.step hb1
        replace hb := hb.trans (hb1.mono hb.size)
        have cs := BS.cell
        have ls := BS.lt
        have cz := BZ.cell
        have fz := BZ.free
        have lz := BZ.lt
        go_wp2_with fail
        refine bodyPost_ret (v := .tuple #[.agg #[.int .i64 0, .int .i64 0], .int .i64 1]) (by simp only [results, Try.results28]; go_simp; first | done | rfl) rfl ⟨rfl, ?_⟩
        repeat (first | (with_reducible exact Below.refl _ _) | (with_reducible assumption) | (with_reducible refine Below.drew ?_) | ((with_reducible refine Below.alloc ?_ ?_ _); rotate_left; (first | (with_reducible exact Nat.zero_le _) | (with_reducible exact Nat.le_refl _) | omega | (dsimp only; omega) | (simp only [World.size_alloc, World.size_setCell, World.size_drew]; omega))) | ((with_reducible refine Below.setCell ?_ ?_ _); rotate_left; (first | (with_reducible exact Nat.zero_le _) | (with_reducible exact Nat.le_refl _) | omega | (dsimp only; omega) | (simp only [World.size_alloc, World.size_setCell, World.size_drew]; omega))))
      · go_enter Try.func28, Try.ntmps28
        go_wp2_with fail
        refine (hv _).mono ?_
        rintro e w1 ⟨rfl, hb1⟩
        replace BS := BS.step hb1
        replace BZ := BZ.step hb1
        replace hb := hb.trans (hb1.mono hb.size)
        have cs := BS.cell
        have ls := BS.lt
        have cz := BZ.cell
        have fz := BZ.free
        have lz := BZ.lt
        go_wp2_with fail
        refine bodyPost_ret (v := .tuple #[.agg #[.int .i64 0, .int .i64 0], .int .i64 1]) (by simp only [results, Try.results28]; go_simp; first | done | rfl) rfl ⟨rfl, ?_⟩
        repeat (first | (with_reducible exact Below.refl _ _) | (with_reducible assumption) | (with_reducible refine Below.drew ?_) | ((with_reducible refine Below.alloc ?_ ?_ _); rotate_left; (first | (with_reducible exact Nat.zero_le _) | (with_reducible exact Nat.le_refl _) | omega | (dsimp only; omega) | (simp only [World.size_alloc, World.size_setCell, World.size_drew]; omega))) | ((with_reducible refine Below.setCell ?_ ?_ _); rotate_left; (first | (with_reducible exact Nat.zero_le _) | (with_reducible exact Nat.le_refl _) | omega | (dsimp only; omega) | (simp only [World.size_alloc, World.size_setCell, World.size_drew]; omega))))
    · rw [if_pos ⟨rfl, hc⟩] at hE hS
      rw [hE, hS]
      clear hE hS
      obtain ⟨h1, h2⟩ := hc
      go_enter Try.func28, Try.ntmps28
      go_wp2_with fail
      refine (hv _).mono ?_
      rintro e w1 ⟨rfl, hb1⟩
      replace BS := BS.step hb1
      replace BZ := BZ.step hb1
      replace hb := hb.trans (hb1.mono hb.size)
      have cs := BS.cell
      have ls := BS.lt
      have cz := BZ.cell
      have fz := BZ.free
      have lz := BZ.lt
      go_wp2_with fail
      clear cs ls cz fz lz
      refine (hre _).mono ?_
      rintro e w2 ⟨rfl, hb2⟩
      replace BS := BS.step hb2
      replace BZ := BZ.step hb2
      replace hb := hb.trans (hb2.mono hb.size)
      have cs := BS.cell
      have ls := BS.lt
      have cz := BZ.cell
      have fz := BZ.free
      have lz := BZ.lt
      go_wp2_with fail
      refine bodyPost_ret (v := .tuple #[.agg #[.int .i64 (rS).lo, .int .i64 (rS).hi], .int .i64 (rE)]) (by simp only [results, Try.results28]; go_simp; first | done | rfl) rfl ⟨rfl, ?_⟩
      repeat (first | (with_reducible exact Below.refl _ _) | (with_reducible assumption) | (with_reducible refine Below.drew ?_) | ((with_reducible refine Below.alloc ?_ ?_ _); rotate_left; (first | (with_reducible exact Nat.zero_le _) | (with_reducible exact Nat.le_refl _) | omega | (dsimp only; omega) | (simp only [World.size_alloc, World.size_setCell, World.size_drew]; omega))) | ((with_reducible refine Below.setCell ?_ ?_ _); rotate_left; (first | (with_reducible exact Nat.zero_le _) | (with_reducible exact Nat.le_refl _) | omega | (dsimp only; omega) | (simp only [World.size_alloc, World.size_setCell, World.size_drew]; omega))))
set_option maxHeartbeats 1000000 in
theorem rwiden_any (s : Sp) (b : Int) (w : World) : Calls Try.prog 29 #[.agg #[.int .i64 (s).lo, .int .i64 (s).hi], .int .i64 b] w fun e w' => e = .returned (.tuple #[.agg #[.int .i64 (widS s b).lo, .int .i64 (widS s b).hi], .int .i64 (widE s b)]) ∧ Below w.heap.size w w' := by
  have BS : Blk ((w.alloc (.cells #[.int .i64 s.lo, .int .i64 s.hi] 23)).alloc (.cells #[.int .i64 0, .int .i64 0] 23)) w.heap.size 23 #[.int .i64 s.lo, .int .i64 s.hi] := (Blk.new w 23 #[.int .i64 s.lo, .int .i64 s.hi]).alloc _
  have BZ : Blk ((w.alloc (.cells #[.int .i64 s.lo, .int .i64 s.hi] 23)).alloc (.cells #[.int .i64 0, .int .i64 0] 23)) (w.heap.size + 1) 23 #[.int .i64 0, .int .i64 0] := by
    have := Blk.new (w.alloc (.cells #[.int .i64 s.lo, .int .i64 s.hi] 23)) 23 #[.int .i64 0, .int .i64 0]
    simpa using this
  have hb : Below w.heap.size w ((w.alloc (.cells #[.int .i64 s.lo, .int .i64 s.hi] 23)).alloc (.cells #[.int .i64 0, .int .i64 0] 23)) := by repeat (first | (with_reducible exact Below.refl _ _) | (with_reducible assumption) | (with_reducible refine Below.drew ?_) | ((with_reducible refine Below.alloc ?_ ?_ _); rotate_left; (first | (with_reducible exact Nat.zero_le _) | (with_reducible exact Nat.le_refl _) | omega | (dsimp only; omega) | (simp only [World.size_alloc, World.size_setCell, World.size_drew]; omega))) | ((with_reducible refine Below.setCell ?_ ?_ _); rotate_left; (first | (with_reducible exact Nat.zero_le _) | (with_reducible exact Nat.le_refl _) | omega | (dsimp only; omega) | (simp only [World.size_alloc, World.size_setCell, World.size_drew]; omega))))
  have hE : widE s b = if sval s = true ∧ 0 ≤ b ∧ b ≤ 70368744177664 then resE ⟨s.lo - b, s.hi + b⟩ else 1 := rfl
  have hS : widS s b = if sval s = true ∧ 0 ≤ b ∧ b ≤ 70368744177664 then resS ⟨s.lo - b, s.hi + b⟩ else sp0 := rfl
  have hv := fun w => rvalid_any s w
  have hre := fun w => rchecked_any ⟨s.lo - b, s.hi + b⟩ w
  have hs := @sval_true s
  generalize sval s = c at *
  generalize resE ⟨s.lo - b, s.hi + b⟩ = rE at *
  generalize resS ⟨s.lo - b, s.hi + b⟩ = rS at *
  cases c with
  | false =>
    rw [if_neg (by simp)] at hE hS
    rw [hE, hS]
    clear hE hS hs hre
    go_enter Try.func29, Try.ntmps29
    go_wp2_with fail
    refine (hv _).mono ?_
    rintro e w1 ⟨rfl, hb1⟩
    replace BS := BS.step hb1
    replace BZ := BZ.step hb1
    replace hb := hb.trans (hb1.mono hb.size)
    have cs := BS.cell
    have ls := BS.lt
    have cz := BZ.cell
    have fz := BZ.free
    have lz := BZ.lt
    go_wp2_with fail
    refine bodyPost_ret (v := .tuple #[.agg #[.int .i64 0, .int .i64 0], .int .i64 1]) (by simp only [results, Try.results29]; go_simp; first | done | rfl) rfl ⟨rfl, ?_⟩
    repeat (first | (with_reducible exact Below.refl _ _) | (with_reducible assumption) | (with_reducible refine Below.drew ?_) | ((with_reducible refine Below.alloc ?_ ?_ _); rotate_left; (first | (with_reducible exact Nat.zero_le _) | (with_reducible exact Nat.le_refl _) | omega | (dsimp only; omega) | (simp only [World.size_alloc, World.size_setCell, World.size_drew]; omega))) | ((with_reducible refine Below.setCell ?_ ?_ _); rotate_left; (first | (with_reducible exact Nat.zero_le _) | (with_reducible exact Nat.le_refl _) | omega | (dsimp only; omega) | (simp only [World.size_alloc, World.size_setCell, World.size_drew]; omega))))
  | true =>
    obtain ⟨s1, s2, s3⟩ := hs rfl
    clear hs
    have hc : (b < 0 ∨ (0 ≤ b ∧ b > 70368744177664)) ∨ (0 ≤ b ∧ b ≤ 70368744177664) := by omega
    rcases hc with hc | hc
    · rw [if_neg (by omega)] at hE hS
      rw [hE, hS]
      clear hE hS hre
      rcases hc with h1 | ⟨h1, h2⟩
      · go_enter Try.func29, Try.ntmps29
        go_wp2_with fail
        refine (hv _).mono ?_
        rintro e w1 ⟨rfl, hb1⟩
        replace BS := BS.step hb1
        replace BZ := BZ.step hb1
        replace hb := hb.trans (hb1.mono hb.size)
        have cs := BS.cell
        have ls := BS.lt
        have cz := BZ.cell
        have fz := BZ.free
        have lz := BZ.lt
        go_wp2_with fail
        refine bodyPost_ret (v := .tuple #[.agg #[.int .i64 0, .int .i64 0], .int .i64 1]) (by simp only [results, Try.results29]; go_simp; first | done | rfl) rfl ⟨rfl, ?_⟩
        repeat (first | (with_reducible exact Below.refl _ _) | (with_reducible assumption) | (with_reducible refine Below.drew ?_) | ((with_reducible refine Below.alloc ?_ ?_ _); rotate_left; (first | (with_reducible exact Nat.zero_le _) | (with_reducible exact Nat.le_refl _) | omega | (dsimp only; omega) | (simp only [World.size_alloc, World.size_setCell, World.size_drew]; omega))) | ((with_reducible refine Below.setCell ?_ ?_ _); rotate_left; (first | (with_reducible exact Nat.zero_le _) | (with_reducible exact Nat.le_refl _) | omega | (dsimp only; omega) | (simp only [World.size_alloc, World.size_setCell, World.size_drew]; omega))))
      · go_enter Try.func29, Try.ntmps29
        go_wp2_with fail
        refine (hv _).mono ?_
        rintro e w1 ⟨rfl, hb1⟩
        replace BS := BS.step hb1
        replace BZ := BZ.step hb1
        replace hb := hb.trans (hb1.mono hb.size)
        have cs := BS.cell
        have ls := BS.lt
        have cz := BZ.cell
        have fz := BZ.free
        have lz := BZ.lt
        go_wp2_with fail
        refine bodyPost_ret (v := .tuple #[.agg #[.int .i64 0, .int .i64 0], .int .i64 1]) (by simp only [results, Try.results29]; go_simp; first | done | rfl) rfl ⟨rfl, ?_⟩
        repeat (first | (with_reducible exact Below.refl _ _) | (with_reducible assumption) | (with_reducible refine Below.drew ?_) | ((with_reducible refine Below.alloc ?_ ?_ _); rotate_left; (first | (with_reducible exact Nat.zero_le _) | (with_reducible exact Nat.le_refl _) | omega | (dsimp only; omega) | (simp only [World.size_alloc, World.size_setCell, World.size_drew]; omega))) | ((with_reducible refine Below.setCell ?_ ?_ _); rotate_left; (first | (with_reducible exact Nat.zero_le _) | (with_reducible exact Nat.le_refl _) | omega | (dsimp only; omega) | (simp only [World.size_alloc, World.size_setCell, World.size_drew]; omega))))
    · rw [if_pos ⟨rfl, hc⟩] at hE hS
      rw [hE, hS]
      clear hE hS
      obtain ⟨h1, h2⟩ := hc
      go_enter Try.func29, Try.ntmps29
      go_wp2_with fail
      refine (hv _).mono ?_
      rintro e w1 ⟨rfl, hb1⟩
      replace BS := BS.step hb1
      replace BZ := BZ.step hb1
      replace hb := hb.trans (hb1.mono hb.size)
      have cs := BS.cell
      have ls := BS.lt
      have cz := BZ.cell
      have fz := BZ.free
      have lz := BZ.lt
      go_wp2_with fail
      clear cs ls cz fz lz
      refine (hre _).mono ?_
      rintro e w2 ⟨rfl, hb2⟩
      replace BS := BS.step hb2
      replace BZ := BZ.step hb2
      replace hb := hb.trans (hb2.mono hb.size)
      have cs := BS.cell
      have ls := BS.lt
      have cz := BZ.cell
      have fz := BZ.free
      have lz := BZ.lt
      go_wp2_with fail
      refine bodyPost_ret (v := .tuple #[.agg #[.int .i64 (rS).lo, .int .i64 (rS).hi], .int .i64 (rE)]) (by simp only [results, Try.results29]; go_simp; first | done | rfl) rfl ⟨rfl, ?_⟩
      repeat (first | (with_reducible exact Below.refl _ _) | (with_reducible assumption) | (with_reducible refine Below.drew ?_) | ((with_reducible refine Below.alloc ?_ ?_ _); rotate_left; (first | (with_reducible exact Nat.zero_le _) | (with_reducible exact Nat.le_refl _) | omega | (dsimp only; omega) | (simp only [World.size_alloc, World.size_setCell, World.size_drew]; omega))) | ((with_reducible refine Below.setCell ?_ ?_ _); rotate_left; (first | (with_reducible exact Nat.zero_le _) | (with_reducible exact Nat.le_refl _) | omega | (dsimp only; omega) | (simp only [World.size_alloc, World.size_setCell, World.size_drew]; omega))))

end Go.Proofs.Ytpclhjkamplmbaa
