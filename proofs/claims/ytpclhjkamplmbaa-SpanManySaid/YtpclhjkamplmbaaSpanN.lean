/- Contracts: parts of intervals. -/
import Derived.Test.YtpclhjkamplmbaaSpanM
import Derived.BigQuiet
import Derived.StillTail
namespace Go.Proofs.Ytpclhjkamplmbaa
set_option linter.unusedVariables false
set_option linter.unusedSimpArgs false
open Go.RowKit

set_option maxHeartbeats 1000000 in
theorem part_any (s : Sp) (n d : Int) (w : World) : Calls Try.prog 30 #[.agg #[.int .i64 (s).lo, .int .i64 (s).hi], .int .i64 n, .int .i64 d] w fun e w' => e = .returned (.tuple #[.agg #[.int .i64 (partS s n d).lo, .int .i64 (partS s n d).hi], .int .i64 (partE s n d)]) ∧ Below w.heap.size w w' := by
  have BS : Blk ((w.alloc (.cells #[.int .i64 s.lo, .int .i64 s.hi] 23)).alloc (.cells #[.int .i64 0, .int .i64 0] 23)) w.heap.size 23 #[.int .i64 s.lo, .int .i64 s.hi] := (Blk.new w 23 #[.int .i64 s.lo, .int .i64 s.hi]).alloc _
  have BZ : Blk ((w.alloc (.cells #[.int .i64 s.lo, .int .i64 s.hi] 23)).alloc (.cells #[.int .i64 0, .int .i64 0] 23)) (w.heap.size + 1) 23 #[.int .i64 0, .int .i64 0] := by
    have := Blk.new (w.alloc (.cells #[.int .i64 s.lo, .int .i64 s.hi] 23)) 23 #[.int .i64 0, .int .i64 0]
    simpa using this
  have hb : Below w.heap.size w ((w.alloc (.cells #[.int .i64 s.lo, .int .i64 s.hi] 23)).alloc (.cells #[.int .i64 0, .int .i64 0] 23)) := by repeat (first | (with_reducible exact Below.refl _ _) | (with_reducible assumption) | (with_reducible refine Below.drew ?_) | ((with_reducible refine Below.alloc ?_ ?_ _); rotate_left; (first | (with_reducible exact Nat.zero_le _) | (with_reducible exact Nat.le_refl _) | omega | (dsimp only; omega) | (simp only [World.size_alloc, World.size_setCell, World.size_drew]; omega))) | ((with_reducible refine Below.setCell ?_ ?_ _); rotate_left; (first | (with_reducible exact Nat.zero_le _) | (with_reducible exact Nat.le_refl _) | omega | (dsimp only; omega) | (simp only [World.size_alloc, World.size_setCell, World.size_drew]; omega))))
  have hE : partE s n d = if pOK s n d then 0 else 1 := rfl
  have hS : partS s n d = if pOK s n d then ⟨dn s.lo n d, up s.hi n d⟩ else sp0 := rfl
  have hv := fun w => valid1_any s w
  by_cases hp : pOK s n d
  · rw [if_pos hp] at hE hS
    rw [hE, hS]
    clear hE hS
    obtain ⟨v, h1, h2, h3, h4⟩ := hp
    obtain ⟨s1, s2, s3⟩ := sval_true v
    rw [v] at hv
    clear v
    have hx := up_is (x := s.hi) (n := n) h1
    have hd1 := fun w => part1_any s.lo n d w (by omega) (by omega) h1 h2 h3 h4
    have hd2 := fun w => part1_any s.hi n d w (by omega) (by omega) h1 h2 h3 h4
    have b1 := dn_bd (x := s.hi) 70368744177664 (by omega) h1 h3 h4 (by omega) (by omega)
    generalize dn s.lo n d = y1 at *
    generalize dn s.hi n d = y2 at *
    generalize exa s.lo n d = q1 at *
    generalize exa s.hi n d = q2 at *
    generalize up s.hi n d = y3 at *
    subst hx
    obtain ⟨b1, b2⟩ := b1
    cases q2 with
    | false =>
      rw [if_neg (by simp)]
      go_enter Try.func30, Try.ntmps30
      go_wp2_with fail
      refine (hv _).mono ?_
      rintro e w1 ⟨rfl, hb1⟩
      replace BS := BS.step hb1
      replace BZ := BZ.step hb1
      replace hb := hb.trans (hb1.mono hb.size)
      have cs := BS.cell
      have ls := BS.lt
      have cz := BZ.cell
      have fz := BZ.free
      have lz := BZ.lt
      go_wp2_with fail
      clear cs ls cz fz lz
      refine (hd1 _).mono ?_
      rintro e w2 ⟨rfl, hb2⟩
      replace BS := BS.step hb2
      replace BZ := BZ.step hb2
      replace hb := hb.trans (hb2.mono hb.size)
      have cs := BS.cell
      have ls := BS.lt
      have cz := BZ.cell
      have fz := BZ.free
      have lz := BZ.lt
      go_wp2_with fail
      clear cs ls cz fz lz
      refine (hd2 _).mono ?_
      rintro e w3 ⟨rfl, hb3⟩
      replace BS := BS.step hb3
      replace BZ := BZ.step hb3
      replace hb := hb.trans (hb3.mono hb.size)
      have cs := BS.cell
      have ls := BS.lt
      have cz := BZ.cell
      have fz := BZ.free
      have lz := BZ.lt
      go_wp2_with fail
      refine bodyPost_ret (v := .tuple #[.agg #[.int .i64 y1, .int .i64 (y2 + 1)], .int .i64 0]) (by simp only [results, Try.results30]; go_simp; first | done | rfl) rfl ⟨rfl, ?_⟩
      repeat (first | (with_reducible exact Below.refl _ _) | (with_reducible assumption) | (with_reducible refine Below.drew ?_) | ((with_reducible refine Below.alloc ?_ ?_ _); rotate_left; (first | (with_reducible exact Nat.zero_le _) | (with_reducible exact Nat.le_refl _) | omega | (dsimp only; omega) | (simp only [World.size_alloc, World.size_setCell, World.size_drew]; omega))) | ((with_reducible refine Below.setCell ?_ ?_ _); rotate_left; (first | (with_reducible exact Nat.zero_le _) | (with_reducible exact Nat.le_refl _) | omega | (dsimp only; omega) | (simp only [World.size_alloc, World.size_setCell, World.size_drew]; omega))))
    | true =>
      rw [if_pos rfl]
      go_enter Try.func30, Try.ntmps30
      go_wp2_with fail
      refine (hv _).mono ?_
      rintro e w1 ⟨rfl, hb1⟩
      replace BS := BS.step hb1
      replace BZ := BZ.step hb1
      replace hb := hb.trans (hb1.mono hb.size)
      have cs := BS.cell
      have ls := BS.lt
      have cz := BZ.cell
      have fz := BZ.free
      have lz := BZ.lt
      go_wp2_with fail
      clear cs ls cz fz lz
      refine (hd1 _).mono ?_
      rintro e w2 ⟨rfl, hb2⟩
      replace BS := BS.step hb2
      replace BZ := BZ.step hb2
      replace hb := hb.trans (hb2.mono hb.size)
      have cs := BS.cell
      have ls := BS.lt
      have cz := BZ.cell
      have fz := BZ.free
      have lz := BZ.lt
      go_wp2_with fail
      clear cs ls cz fz lz
      refine (hd2 _).mono ?_
      rintro e w3 ⟨rfl, hb3⟩
      replace BS := BS.step hb3
      replace BZ := BZ.step hb3
      replace hb := hb.trans (hb3.mono hb.size)
      have cs := BS.cell
      have ls := BS.lt
      have cz := BZ.cell
      have fz := BZ.free
      have lz := BZ.lt
      go_wp2_with fail
      refine bodyPost_ret (v := .tuple #[.agg #[.int .i64 y1, .int .i64 y2], .int .i64 0]) (by simp only [results, Try.results30]; go_simp; first | done | rfl) rfl ⟨rfl, ?_⟩
      repeat (first | (with_reducible exact Below.refl _ _) | (with_reducible assumption) | (with_reducible refine Below.drew ?_) | ((with_reducible refine Below.alloc ?_ ?_ _); rotate_left; (first | (with_reducible exact Nat.zero_le _) | (with_reducible exact Nat.le_refl _) | omega | (dsimp only; omega) | (simp only [World.size_alloc, World.size_setCell, World.size_drew]; omega))) | ((with_reducible refine Below.setCell ?_ ?_ _); rotate_left; (first | (with_reducible exact Nat.zero_le _) | (with_reducible exact Nat.le_refl _) | omega | (dsimp only; omega) | (simp only [World.size_alloc, World.size_setCell, World.size_drew]; omega))))
  · rw [if_neg hp] at hE hS
    rw [hE, hS]
    clear hE hS
    unfold pOK at hp
    generalize sval s = c at *
    cases c with
    | false =>
      clear hp
      go_enter Try.func30, Try.ntmps30
      go_wp2_with fail
      refine (hv _).mono ?_
      rintro e w1 ⟨rfl, hb1⟩
      replace BS := BS.step hb1
      replace BZ := BZ.step hb1
      replace hb := hb.trans (hb1.mono hb.size)
      have cs := BS.cell
      have ls := BS.lt
      have cz := BZ.cell
      have fz := BZ.free
      have lz := BZ.lt
      go_wp2_with fail
      refine bodyPost_ret (v := .tuple #[.agg #[.int .i64 0, .int .i64 0], .int .i64 1]) (by simp only [results, Try.results30]; go_simp; first | done | rfl) rfl ⟨rfl, ?_⟩
      repeat (first | (with_reducible exact Below.refl _ _) | (with_reducible assumption) | (with_reducible refine Below.drew ?_) | ((with_reducible refine Below.alloc ?_ ?_ _); rotate_left; (first | (with_reducible exact Nat.zero_le _) | (with_reducible exact Nat.le_refl _) | omega | (dsimp only; omega) | (simp only [World.size_alloc, World.size_setCell, World.size_drew]; omega))) | ((with_reducible refine Below.setCell ?_ ?_ _); rotate_left; (first | (with_reducible exact Nat.zero_le _) | (with_reducible exact Nat.le_refl _) | omega | (dsimp only; omega) | (simp only [World.size_alloc, World.size_setCell, World.size_drew]; omega))))
    | true =>
      have hc : d < 1 ∨ (1 ≤ d ∧ d > 1073741824) ∨ (1 ≤ d ∧ d ≤ 1073741824 ∧ n < 0) ∨ (1 ≤ d ∧ d ≤ 1073741824 ∧ 0 ≤ n ∧ n > d) := by simp at hp; omega
      clear hp
      rcases hc with h1 | ⟨h1, h2⟩ | ⟨h1, h2, h3⟩ | ⟨h1, h2, h3, h4⟩
      · go_enter Try.func30, Try.ntmps30
        go_wp2_with fail
        refine (hv _).mono ?_
        rintro e w1 ⟨rfl, hb1⟩
        replace BS := BS.step hb1
        replace BZ := BZ.step hb1
        replace hb := hb.trans (hb1.mono hb.size)
        have cs := BS.cell
        have ls := BS.lt
        have cz := BZ.cell
        have fz := BZ.free
        have lz := BZ.lt
        go_wp2_with fail
        refine bodyPost_ret (v := .tuple #[.agg #[.int .i64 0, .int .i64 0], .int .i64 1]) (by simp only [results, Try.results30]; go_simp; first | done | rfl) rfl ⟨rfl, ?_⟩
        repeat (first | (with_reducible exact Below.refl _ _) | (with_reducible assumption) | (with_reducible refine Below.drew ?_) | ((with_reducible refine Below.alloc ?_ ?_ _); rotate_left; (first | (with_reducible exact Nat.zero_le _) | (with_reducible exact Nat.le_refl _) | omega | (dsimp only; omega) | (simp only [World.size_alloc, World.size_setCell, World.size_drew]; omega))) | ((with_reducible refine Below.setCell ?_ ?_ _); rotate_left; (first | (with_reducible exact Nat.zero_le _) | (with_reducible exact Nat.le_refl _) | omega | (dsimp only; omega) | (simp only [World.size_alloc, World.size_setCell, World.size_drew]; omega))))
      · go_enter Try.func30, Try.ntmps30
        go_wp2_with fail
        refine (hv _).mono ?_
        rintro e w1 ⟨rfl, hb1⟩
        replace BS := BS.step hb1
        replace BZ := BZ.step hb1
        replace hb := hb.trans (hb1.mono hb.size)
        have cs := BS.cell
        have ls := BS.lt
        have cz := BZ.cell
        have fz := BZ.free
        have lz := BZ.lt
        go_wp2_with fail
        refine bodyPost_ret (v := .tuple #[.agg #[.int .i64 0, .int .i64 0], .int .i64 1]) (by simp only [results, Try.results30]; go_simp; first | done | rfl) rfl ⟨rfl, ?_⟩
        repeat (first | (with_reducible exact Below.refl _ _) | (with_reducible assumption) | (with_reducible refine Below.drew ?_) | ((with_reducible refine Below.alloc ?_ ?_ _); rotate_left; (first | (with_reducible exact Nat.zero_le _) | (with_reducible exact Nat.le_refl _) | omega | (dsimp only; omega) | (simp only [World.size_alloc, World.size_setCell, World.size_drew]; omega))) | ((with_reducible refine Below.setCell ?_ ?_ _); rotate_left; (first | (with_reducible exact Nat.zero_le _) | (with_reducible exact Nat.le_refl _) | omega | (dsimp only; omega) | (simp only [World.size_alloc, World.size_setCell, World.size_drew]; omega))))
      · go_enter Try.func30, Try.ntmps30
        go_wp2_with fail
        refine (hv _).mono ?_
        rintro e w1 ⟨rfl, hb1⟩
        replace BS := BS.step hb1
        replace BZ := BZ.step hb1
        replace hb := hb.trans (hb1.mono hb.size)
        have cs := BS.cell
        have ls := BS.lt
        have cz := BZ.cell
        have fz := BZ.free
        have lz := BZ.lt
        go_wp2_with fail
        refine bodyPost_ret (v := .tuple #[.agg #[.int .i64 0, .int .i64 0], .int .i64 1]) (by simp only [results, Try.results30]; go_simp; first | done | rfl) rfl ⟨rfl, ?_⟩
        repeat (first | (with_reducible exact Below.refl _ _) | (with_reducible assumption) | (with_reducible refine Below.drew ?_) | ((with_reducible refine Below.alloc ?_ ?_ _); rotate_left; (first | (with_reducible exact Nat.zero_le _) | (with_reducible exact Nat.le_refl _) | omega | (dsimp only; omega) | (simp only [World.size_alloc, World.size_setCell, World.size_drew]; omega))) | ((with_reducible refine Below.setCell ?_ ?_ _); rotate_left; (first | (with_reducible exact Nat.zero_le _) | (with_reducible exact Nat.le_refl _) | omega | (dsimp only; omega) | (simp only [World.size_alloc, World.size_setCell, World.size_drew]; omega))))
      · go_enter Try.func30, Try.ntmps30
        go_wp2_with fail
        refine (hv _).mono ?_
        rintro e w1 ⟨rfl, hb1⟩
        replace BS := BS.step hb1
        replace BZ := BZ.step hb1
        replace hb := hb.trans (hb1.mono hb.size)
        have cs := BS.cell
        have ls := BS.lt
        have cz := BZ.cell
        have fz := BZ.free
        have lz := BZ.lt
        go_wp2_with fail
        refine bodyPost_ret (v := .tuple #[.agg #[.int .i64 0, .int .i64 0], .int .i64 1]) (by simp only [results, Try.results30]; go_simp; first | done | rfl) rfl ⟨rfl, ?_⟩
        repeat (first | (with_reducible exact Below.refl _ _) | (with_reducible assumption) | (with_reducible refine Below.drew ?_) | ((with_reducible refine Below.alloc ?_ ?_ _); rotate_left; (first | (with_reducible exact Nat.zero_le _) | (with_reducible exact Nat.le_refl _) | omega | (dsimp only; omega) | (simp only [World.size_alloc, World.size_setCell, World.size_drew]; omega))) | ((with_reducible refine Below.setCell ?_ ?_ _); rotate_left; (first | (with_reducible exact Nat.zero_le _) | (with_reducible exact Nat.le_refl _) | omega | (dsimp only; omega) | (simp only [World.size_alloc, World.size_setCell, World.size_drew]; omega))))
set_option maxHeartbeats 1000000 in
theorem rpart_any (s : Sp) (n d : Int) (w : World) : Calls Try.prog 31 #[.agg #[.int .i64 (s).lo, .int .i64 (s).hi], .int .i64 n, .int .i64 d] w fun e w' => e = .returned (.tuple #[.agg #[.int .i64 (partS s n d).lo, .int .i64 (partS s n d).hi], .int .i64 (partE s n d)]) ∧ Below w.heap.size w w' := by
  have BS : Blk ((w.alloc (.cells #[.int .i64 s.lo, .int .i64 s.hi] 23)).alloc (.cells #[.int .i64 0, .int .i64 0] 23)) w.heap.size 23 #[.int .i64 s.lo, .int .i64 s.hi] := (Blk.new w 23 #[.int .i64 s.lo, .int .i64 s.hi]).alloc _
  have BZ : Blk ((w.alloc (.cells #[.int .i64 s.lo, .int .i64 s.hi] 23)).alloc (.cells #[.int .i64 0, .int .i64 0] 23)) (w.heap.size + 1) 23 #[.int .i64 0, .int .i64 0] := by
    have := Blk.new (w.alloc (.cells #[.int .i64 s.lo, .int .i64 s.hi] 23)) 23 #[.int .i64 0, .int .i64 0]
    simpa using this
  have hb : Below w.heap.size w ((w.alloc (.cells #[.int .i64 s.lo, .int .i64 s.hi] 23)).alloc (.cells #[.int .i64 0, .int .i64 0] 23)) := by repeat (first | (with_reducible exact Below.refl _ _) | (with_reducible assumption) | (with_reducible refine Below.drew ?_) | ((with_reducible refine Below.alloc ?_ ?_ _); rotate_left; (first | (with_reducible exact Nat.zero_le _) | (with_reducible exact Nat.le_refl _) | omega | (dsimp only; omega) | (simp only [World.size_alloc, World.size_setCell, World.size_drew]; omega))) | ((with_reducible refine Below.setCell ?_ ?_ _); rotate_left; (first | (with_reducible exact Nat.zero_le _) | (with_reducible exact Nat.le_refl _) | omega | (dsimp only; omega) | (simp only [World.size_alloc, World.size_setCell, World.size_drew]; omega))))
  have hE : partE s n d = if pOK s n d then 0 else 1 := rfl
  have hS : partS s n d = if pOK s n d then ⟨dn s.lo n d, up s.hi n d⟩ else sp0 := rfl
  have hv := fun w => rvalid_any s w
  by_cases hp : pOK s n d
  · rw [if_pos hp] at hE hS
    rw [hE, hS]
    clear hE hS
    obtain ⟨v, h1, h2, h3, h4⟩ := hp
    obtain ⟨s1, s2, s3⟩ := sval_true v
    rw [v] at hv
    clear v
    have hd1 := fun w => down_any s.lo n d w (by omega) (by omega) h1 h2 h3 h4
    have hd2 := fun w => up_any s.hi n d w (by omega) (by omega) h1 h2 h3 h4
    generalize dn s.lo n d = y1 at *
    generalize up s.hi n d = y2 at *
    go_enter Try.func31, Try.ntmps31
    go_wp2_with fail
    refine (hv _).mono ?_
    rintro e w1 ⟨rfl, hb1⟩
    replace BS := BS.step hb1
    replace BZ := BZ.step hb1
    replace hb := hb.trans (hb1.mono hb.size)
    have cs := BS.cell
    have ls := BS.lt
    have cz := BZ.cell
    have fz := BZ.free
    have lz := BZ.lt
    go_wp2_with fail
    clear cs ls cz fz lz
    have c2 : ∀ y : BW w1, ∀ j, y.w.cell? ⟨w.heap.size, j, none⟩ = #[.int .i64 s.lo, .int .i64 s.hi][j]? := fun y => (BS.bw y).cell
    refine wp_region_calm_tail 11 (by kernel_rfl) (by kernel_rfl) ?_
    simp only [List.take_succ_cons, List.take_zero, List.drop_succ_cons, List.drop_zero]
    repeat (go_big_quiet_step (fail))
    go_big_quiet_want; go_big_quiet_op; go_big_quiet_call (exact calls_bw (fun w => hd1 w) _)
    repeat (go_big_quiet_step (fail))
    go_big_quiet_want; go_big_quiet_op; go_big_quiet_call (exact calls_bw (fun w => hd2 w) _)
    repeat (go_big_quiet_step (fail))
    refine wpQuiet_nil ?_
    intro w2 hb2
    clear c2
    replace BS := BS.step hb2
    replace BZ := BZ.step hb2
    replace hb := hb.trans (hb2.mono hb.size)
    have cs := BS.cell
    have ls := BS.lt
    have cz := BZ.cell
    have fz := BZ.free
    have lz := BZ.lt
    go_wp2_with fail
    refine bodyPost_ret (v := .tuple #[.agg #[.int .i64 y1, .int .i64 y2], .int .i64 0]) (by simp only [results, Try.results31]; go_simp; first | done | rfl) rfl ⟨rfl, ?_⟩
    repeat (first | (with_reducible exact Below.refl _ _) | (with_reducible assumption) | (with_reducible refine Below.drew ?_) | ((with_reducible refine Below.alloc ?_ ?_ _); rotate_left; (first | (with_reducible exact Nat.zero_le _) | (with_reducible exact Nat.le_refl _) | omega | (dsimp only; omega) | (simp only [World.size_alloc, World.size_setCell, World.size_drew]; omega))) | ((with_reducible refine Below.setCell ?_ ?_ _); rotate_left; (first | (with_reducible exact Nat.zero_le _) | (with_reducible exact Nat.le_refl _) | omega | (dsimp only; omega) | (simp only [World.size_alloc, World.size_setCell, World.size_drew]; omega))))
  · rw [if_neg hp] at hE hS
    rw [hE, hS]
    clear hE hS
    unfold pOK at hp
    generalize sval s = c at *
    cases c with
    | false =>
      clear hp
      go_enter Try.func31, Try.ntmps31
      go_wp2_with fail
      refine (hv _).mono ?_
      rintro e w1 ⟨rfl, hb1⟩
      replace BS := BS.step hb1
      replace BZ := BZ.step hb1
      replace hb := hb.trans (hb1.mono hb.size)
      have cs := BS.cell
      have ls := BS.lt
      have cz := BZ.cell
      have fz := BZ.free
      have lz := BZ.lt
      go_wp2_with fail
      refine bodyPost_ret (v := .tuple #[.agg #[.int .i64 0, .int .i64 0], .int .i64 1]) (by simp only [results, Try.results31]; go_simp; first | done | rfl) rfl ⟨rfl, ?_⟩
      repeat (first | (with_reducible exact Below.refl _ _) | (with_reducible assumption) | (with_reducible refine Below.drew ?_) | ((with_reducible refine Below.alloc ?_ ?_ _); rotate_left; (first | (with_reducible exact Nat.zero_le _) | (with_reducible exact Nat.le_refl _) | omega | (dsimp only; omega) | (simp only [World.size_alloc, World.size_setCell, World.size_drew]; omega))) | ((with_reducible refine Below.setCell ?_ ?_ _); rotate_left; (first | (with_reducible exact Nat.zero_le _) | (with_reducible exact Nat.le_refl _) | omega | (dsimp only; omega) | (simp only [World.size_alloc, World.size_setCell, World.size_drew]; omega))))
    | true =>
      have hc : d < 1 ∨ (1 ≤ d ∧ d > 1073741824) ∨ (1 ≤ d ∧ d ≤ 1073741824 ∧ n < 0) ∨ (1 ≤ d ∧ d ≤ 1073741824 ∧ 0 ≤ n ∧ n > d) := by simp at hp; omega
      clear hp
      rcases hc with h1 | ⟨h1, h2⟩ | ⟨h1, h2, h3⟩ | ⟨h1, h2, h3, h4⟩
      · go_enter Try.func31, Try.ntmps31
        go_wp2_with fail
        refine (hv _).mono ?_
        rintro e w1 ⟨rfl, hb1⟩
        replace BS := BS.step hb1
        replace BZ := BZ.step hb1
        replace hb := hb.trans (hb1.mono hb.size)
        have cs := BS.cell
        have ls := BS.lt
        have cz := BZ.cell
        have fz := BZ.free
        have lz := BZ.lt
        go_wp2_with fail
        refine bodyPost_ret (v := .tuple #[.agg #[.int .i64 0, .int .i64 0], .int .i64 1]) (by simp only [results, Try.results31]; go_simp; first | done | rfl) rfl ⟨rfl, ?_⟩
        repeat (first | (with_reducible exact Below.refl _ _) | (with_reducible assumption) | (with_reducible refine Below.drew ?_) | ((with_reducible refine Below.alloc ?_ ?_ _); rotate_left; (first | (with_reducible exact Nat.zero_le _) | (with_reducible exact Nat.le_refl _) | omega | (dsimp only; omega) | (simp only [World.size_alloc, World.size_setCell, World.size_drew]; omega))) | ((with_reducible refine Below.setCell ?_ ?_ _); rotate_left; (first | (with_reducible exact Nat.zero_le _) | (with_reducible exact Nat.le_refl _) | omega | (dsimp only; omega) | (simp only [World.size_alloc, World.size_setCell, World.size_drew]; omega))))
      · go_enter Try.func31, Try.ntmps31
        go_wp2_with fail
        refine (hv _).mono ?_
        rintro e w1 ⟨rfl, hb1⟩
        replace BS := BS.step hb1
        replace BZ := BZ.step hb1
        replace hb := hb.trans (hb1.mono hb.size)
        have cs := BS.cell
        have ls := BS.lt
        have cz := BZ.cell
        have fz := BZ.free
        have lz := BZ.lt
        go_wp2_with fail
        refine bodyPost_ret (v := .tuple #[.agg #[.int .i64 0, .int .i64 0], .int .i64 1]) (by simp only [results, Try.results31]; go_simp; first | done | rfl) rfl ⟨rfl, ?_⟩
        repeat (first | (with_reducible exact Below.refl _ _) | (with_reducible assumption) | (with_reducible refine Below.drew ?_) | ((with_reducible refine Below.alloc ?_ ?_ _); rotate_left; (first | (with_reducible exact Nat.zero_le _) | (with_reducible exact Nat.le_refl _) | omega | (dsimp only; omega) | (simp only [World.size_alloc, World.size_setCell, World.size_drew]; omega))) | ((with_reducible refine Below.setCell ?_ ?_ _); rotate_left; (first | (with_reducible exact Nat.zero_le _) | (with_reducible exact Nat.le_refl _) | omega | (dsimp only; omega) | (simp only [World.size_alloc, World.size_setCell, World.size_drew]; omega))))
      · go_enter Try.func31, Try.ntmps31
        go_wp2_with fail
        refine (hv _).mono ?_
        rintro e w1 ⟨rfl, hb1⟩
        replace BS := BS.step hb1
        replace BZ := BZ.step hb1
        replace hb := hb.trans (hb1.mono hb.size)
        have cs := BS.cell
        have ls := BS.lt
        have cz := BZ.cell
        have fz := BZ.free
        have lz := BZ.lt
        go_wp2_with fail
        refine bodyPost_ret (v := .tuple #[.agg #[.int .i64 0, .int .i64 0], .int .i64 1]) (by simp only [results, Try.results31]; go_simp; first | done | rfl) rfl ⟨rfl, ?_⟩
        repeat (first | (with_reducible exact Below.refl _ _) | (with_reducible assumption) | (with_reducible refine Below.drew ?_) | ((with_reducible refine Below.alloc ?_ ?_ _); rotate_left; (first | (with_reducible exact Nat.zero_le _) | (with_reducible exact Nat.le_refl _) | omega | (dsimp only; omega) | (simp only [World.size_alloc, World.size_setCell, World.size_drew]; omega))) | ((with_reducible refine Below.setCell ?_ ?_ _); rotate_left; (first | (with_reducible exact Nat.zero_le _) | (with_reducible exact Nat.le_refl _) | omega | (dsimp only; omega) | (simp only [World.size_alloc, World.size_setCell, World.size_drew]; omega))))
      · go_enter Try.func31, Try.ntmps31
        go_wp2_with fail
        refine (hv _).mono ?_
        rintro e w1 ⟨rfl, hb1⟩
        replace BS := BS.step hb1
        replace BZ := BZ.step hb1
        replace hb := hb.trans (hb1.mono hb.size)
        have cs := BS.cell
        have ls := BS.lt
        have cz := BZ.cell
        have fz := BZ.free
        have lz := BZ.lt
        go_wp2_with fail
        refine bodyPost_ret (v := .tuple #[.agg #[.int .i64 0, .int .i64 0], .int .i64 1]) (by simp only [results, Try.results31]; go_simp; first | done | rfl) rfl ⟨rfl, ?_⟩
        repeat (first | (with_reducible exact Below.refl _ _) | (with_reducible assumption) | (with_reducible refine Below.drew ?_) | ((with_reducible refine Below.alloc ?_ ?_ _); rotate_left; (first | (with_reducible exact Nat.zero_le _) | (with_reducible exact Nat.le_refl _) | omega | (dsimp only; omega) | (simp only [World.size_alloc, World.size_setCell, World.size_drew]; omega))) | ((with_reducible refine Below.setCell ?_ ?_ _); rotate_left; (first | (with_reducible exact Nat.zero_le _) | (with_reducible exact Nat.le_refl _) | omega | (dsimp only; omega) | (simp only [World.size_alloc, World.size_setCell, World.size_drew]; omega))))

end Go.Proofs.Ytpclhjkamplmbaa
