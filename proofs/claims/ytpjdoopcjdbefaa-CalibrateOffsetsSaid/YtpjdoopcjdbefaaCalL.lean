/- Contracts: until when a scale needs no calibration. -/
import Derived.Test.YtpjdoopcjdbefaaCalJ
namespace Go.Proofs.Ytpjdoopcjdbefaa
set_option linter.unusedVariables false
set_option linter.unusedSimpArgs false
open Go.RowKit

set_option maxHeartbeats 8000000 in
theorem until_any (s : Sc) (lim : Int) (w : World) : Calls Try.prog 26 #[.agg #[.int .i64 (s).a, .int .i64 (s).b, .int .i64 (s).c, .int .i64 (s).d, .int .i64 (s).e, .int .i64 (s).f], .int .i64 lim] w fun e w' => e = .returned (.tuple #[.int .i64 (untV s lim), .int .i64 (untE s lim)]) ∧ Below w.heap.size w w' := by
  have he := fun w => check_any s.a s.b s.c s.d s.e s.f w
  have hE : untE s lim = if chkS s ≠ 0 then chkS s else if lim < 0 ∨ lim > 1073741824 then 1 else if s.c > lim then 7 else 0 := rfl
  have hV : untV s lim = if untE s lim = 0 then (if s.e = 0 then 3155759999 else if s.f + (lim - s.c) / s.e * 86400 < 3155759999 then s.f + (lim - s.c) / s.e * 86400 else 3155759999) else 0 := rfl
  have hb : Below w.heap.size w (w.alloc (.cells (#[.int .i64 (s).a, .int .i64 (s).b, .int .i64 (s).c, .int .i64 (s).d, .int .i64 (s).e, .int .i64 (s).f]) 32)) := by repeat (first | (with_reducible exact Below.refl _ _) | (with_reducible assumption) | (with_reducible refine Below.drew ?_) | ((with_reducible refine Below.alloc ?_ ?_ _); rotate_left; (first | (with_reducible exact Nat.zero_le _) | (with_reducible exact Nat.le_refl _) | omega | (dsimp only; omega) | (simp only [World.size_alloc, World.size_setCell, World.size_drew]; omega))) | ((with_reducible refine Below.setCell ?_ ?_ _); rotate_left; (first | (with_reducible exact Nat.zero_le _) | (with_reducible exact Nat.le_refl _) | omega | (dsimp only; omega) | (simp only [World.size_alloc, World.size_setCell, World.size_drew]; omega))))
  have BX := Blk.new w 32 (#[.int .i64 (s).a, .int .i64 (s).b, .int .i64 (s).c, .int .i64 (s).d, .int .i64 (s).e, .int .i64 (s).f])
  rw [show chk s.a s.b s.c s.d s.e s.f = chkS s from rfl] at he
  by_cases h0 : chkS s = 0
  case neg =>
    have h0' : (chkS s != 0) = true := by simpa using h0
    rw [if_pos h0] at hE
    rw [hV, if_neg (by rw [hE]; exact h0), hE]
    clear h0 hE hV
    generalize chkS s = E at *
    go_enter Try.func26, Try.ntmps26
    go_wp2_with fail
    refine (he _).mono ?_
    rintro e w1 ⟨rfl, hb1⟩
    go_wp2_with fail
    refine bodyPost_ret (v := .tuple #[.int .i64 0, .int .i64 E]) (by simp only [results, Try.results26]; go_simp; first | done | rfl) rfl ?_
    exact ⟨rfl, hb.trans (hb1.mono hb.size)⟩
  have hSV : SV s.a s.b s.c s.d s.e s.f := chk_ok.1 h0
  rw [if_neg (by simp [h0])] at hE
  rw [h0] at he
  obtain ⟨v1, v2, v3, v4, v5, v6, v7, v8, v9, v10, v11, v12⟩ := hSV
  clear h0
  obtain ⟨sa, sb, sc, sd, se, sf⟩ := s
  dsimp only at *
  generalize untE ⟨sa, sb, sc, sd, se, sf⟩ lim = E at *
  generalize untV ⟨sa, sb, sc, sd, se, sf⟩ lim = V at *
  by_cases g : lim < 0 ∨ lim > 1073741824
  · rw [if_pos g] at hE
    rw [hE, if_neg (by decide)] at hV
    rw [hE, hV]
    clear hE hV
    rcases (show lim < 0 ∨ (¬ lim < 0 ∧ lim > 1073741824) by omega) with d1 | ⟨d1, d2⟩
    all_goals (
      go_enter Try.func26, Try.ntmps26
      go_wp2_with fail
      refine (he _).mono ?_
      rintro e w1 ⟨rfl, hb1⟩
      go_wp2_with fail
      refine bodyPost_ret (v := .tuple #[.int .i64 0, .int .i64 1]) (by simp only [results, Try.results26]; go_simp; first | done | rfl) rfl ?_
      exact ⟨rfl, hb.trans (hb1.mono hb.size)⟩)
  have d1 : ¬ lim < 0 := by omega
  have d2 : ¬ lim > 1073741824 := by omega
  rw [if_neg g] at hE
  clear g
  by_cases g : sc > lim
  · rw [if_pos g] at hE
    rw [hE, if_neg (by decide)] at hV
    rw [hE, hV]
    clear hE hV
    go_enter Try.func26, Try.ntmps26
    go_wp2_with fail
    refine (he _).mono ?_
    rintro e w1 ⟨rfl, hb1⟩
    replace BX := BX.step hb1
    have cx := BX.cell
    go_wp2_with fail
    refine bodyPost_ret (v := .tuple #[.int .i64 0, .int .i64 7]) (by simp only [results, Try.results26]; go_simp; first | done | rfl) rfl ?_
    exact ⟨rfl, hb.trans (hb1.mono hb.size)⟩
  rw [if_neg g] at hE
  rw [hE, if_pos rfl] at hV
  rw [hE]
  clear hE
  by_cases g2 : se = 0
  · rw [if_pos g2] at hV
    rw [hV]
    clear hV
    subst g2
    clear v7 v8 v9 v10
    go_enter Try.func26, Try.ntmps26
    go_wp2_with fail
    refine (he _).mono ?_
    rintro e w1 ⟨rfl, hb1⟩
    replace BX := BX.step hb1
    have cx := BX.cell
    go_wp2_with fail
    refine bodyPost_ret (v := .tuple #[.int .i64 3155759999, .int .i64 0]) (by simp only [results, Try.results26]; go_simp; first | done | rfl) rfl ?_
    exact ⟨rfl, hb.trans (hb1.mono hb.size)⟩
  rw [if_neg g2] at hV
  have g2' : (se == 0) = false := by simpa using g2
  have q1 : 0 ≤ (lim - sc) / se := Int.ediv_nonneg (by omega) (by omega)
  have q2 : (lim - sc) / se ≤ lim - sc := Int.ediv_le_self _ (by omega)
  have q0 : 0 ≤ lim - sc := by omega
  have q3 : 1 ≤ se := by omega
  have HV := Lib.hid hV
  clear hV
  rcases (show sf + (lim - sc) / se * 86400 < 3155759999 ∨ sf + (lim - sc) / se * 86400 = 3155759999 ∨ 3155759999 < sf + (lim - sc) / se * 86400 by omega) with t1 | t1 | t1
  all_goals (
    go_enter Try.func26, Try.ntmps26
    go_wp2_with fail
    refine (he _).mono ?_
    rintro e w1 ⟨rfl, hb1⟩
    replace BX := BX.step hb1
    have cx := BX.cell
    go_wp2_with fail
    go_quiet (fail)
    go_wp2_with fail
    refine bodyPost_ret (v := .tuple #[.int .i64 V, .int .i64 0]) (by simp only [results, Try.results26]; go_simp; first | done | rfl | (rw [HV.out]; split <;> first | rfl | omega | (congr 3; omega))) rfl ⟨rfl, (hb.trans (hb1.mono hb.size)).trans ((below_drewM nq).mono (hb.trans (hb1.mono hb.size)).size)⟩)

set_option maxHeartbeats 8000000 in
theorem runtil_any (s : Sc) (lim : Int) (w : World) : Calls Try.prog 27 #[.agg #[.int .i64 (s).a, .int .i64 (s).b, .int .i64 (s).c, .int .i64 (s).d, .int .i64 (s).e, .int .i64 (s).f], .int .i64 lim] w fun e w' => e = .returned (.tuple #[.int .i64 (untV s lim), .int .i64 (untE s lim)]) ∧ Below w.heap.size w w' := by
  have he := fun w => rcheck_any s.a s.b s.c s.d s.e s.f w
  have hE : untE s lim = if chkS s ≠ 0 then chkS s else if lim < 0 ∨ lim > 1073741824 then 1 else if s.c > lim then 7 else 0 := rfl
  have hV : untV s lim = if untE s lim = 0 then (if s.e = 0 then 3155759999 else if s.f + (lim - s.c) / s.e * 86400 < 3155759999 then s.f + (lim - s.c) / s.e * 86400 else 3155759999) else 0 := rfl
  have hb : Below w.heap.size w (w.alloc (.cells (#[.int .i64 (s).a, .int .i64 (s).b, .int .i64 (s).c, .int .i64 (s).d, .int .i64 (s).e, .int .i64 (s).f]) 32)) := by repeat (first | (with_reducible exact Below.refl _ _) | (with_reducible assumption) | (with_reducible refine Below.drew ?_) | ((with_reducible refine Below.alloc ?_ ?_ _); rotate_left; (first | (with_reducible exact Nat.zero_le _) | (with_reducible exact Nat.le_refl _) | omega | (dsimp only; omega) | (simp only [World.size_alloc, World.size_setCell, World.size_drew]; omega))) | ((with_reducible refine Below.setCell ?_ ?_ _); rotate_left; (first | (with_reducible exact Nat.zero_le _) | (with_reducible exact Nat.le_refl _) | omega | (dsimp only; omega) | (simp only [World.size_alloc, World.size_setCell, World.size_drew]; omega))))
  have BX := Blk.new w 32 (#[.int .i64 (s).a, .int .i64 (s).b, .int .i64 (s).c, .int .i64 (s).d, .int .i64 (s).e, .int .i64 (s).f])
  rw [show chk s.a s.b s.c s.d s.e s.f = chkS s from rfl] at he
  by_cases h0 : chkS s = 0
  case neg =>
    have h0' : (chkS s != 0) = true := by simpa using h0
    rw [if_pos h0] at hE
    rw [hV, if_neg (by rw [hE]; exact h0), hE]
    clear h0 hE hV
    generalize chkS s = E at *
    go_enter Try.func27, Try.ntmps27
    go_wp2_with fail
    refine (he _).mono ?_
    rintro e w1 ⟨rfl, hb1⟩
    go_wp2_with fail
    refine bodyPost_ret (v := .tuple #[.int .i64 0, .int .i64 E]) (by simp only [results, Try.results27]; go_simp; first | done | rfl) rfl ?_
    exact ⟨rfl, hb.trans (hb1.mono hb.size)⟩
  have hSV : SV s.a s.b s.c s.d s.e s.f := chk_ok.1 h0
  rw [if_neg (by simp [h0])] at hE
  rw [h0] at he
  obtain ⟨v1, v2, v3, v4, v5, v6, v7, v8, v9, v10, v11, v12⟩ := hSV
  clear h0
  obtain ⟨sa, sb, sc, sd, se, sf⟩ := s
  dsimp only at *
  generalize untE ⟨sa, sb, sc, sd, se, sf⟩ lim = E at *
  generalize untV ⟨sa, sb, sc, sd, se, sf⟩ lim = V at *
  by_cases g : lim < 0 ∨ lim > 1073741824
  · rw [if_pos g] at hE
    rw [hE, if_neg (by decide)] at hV
    rw [hE, hV]
    clear hE hV
    rcases (show lim < 0 ∨ (¬ lim < 0 ∧ lim > 1073741824) by omega) with d1 | ⟨d1, d2⟩
    all_goals (
      go_enter Try.func27, Try.ntmps27
      go_wp2_with fail
      refine (he _).mono ?_
      rintro e w1 ⟨rfl, hb1⟩
      go_wp2_with fail
      refine bodyPost_ret (v := .tuple #[.int .i64 0, .int .i64 1]) (by simp only [results, Try.results27]; go_simp; first | done | rfl) rfl ?_
      exact ⟨rfl, hb.trans (hb1.mono hb.size)⟩)
  have d1 : ¬ lim < 0 := by omega
  have d2 : ¬ lim > 1073741824 := by omega
  rw [if_neg g] at hE
  clear g
  by_cases g : sc > lim
  · rw [if_pos g] at hE
    rw [hE, if_neg (by decide)] at hV
    rw [hE, hV]
    clear hE hV
    go_enter Try.func27, Try.ntmps27
    go_wp2_with fail
    refine (he _).mono ?_
    rintro e w1 ⟨rfl, hb1⟩
    replace BX := BX.step hb1
    have cx := BX.cell
    go_wp2_with fail
    refine bodyPost_ret (v := .tuple #[.int .i64 0, .int .i64 7]) (by simp only [results, Try.results27]; go_simp; first | done | rfl) rfl ?_
    exact ⟨rfl, hb.trans (hb1.mono hb.size)⟩
  rw [if_neg g] at hE
  rw [hE, if_pos rfl] at hV
  rw [hE]
  clear hE
  by_cases g2 : se = 0
  · rw [if_pos g2] at hV
    rw [hV]
    clear hV
    subst g2
    clear v7 v8 v9 v10
    go_enter Try.func27, Try.ntmps27
    go_wp2_with fail
    refine (he _).mono ?_
    rintro e w1 ⟨rfl, hb1⟩
    replace BX := BX.step hb1
    have cx := BX.cell
    go_wp2_with fail
    refine bodyPost_ret (v := .tuple #[.int .i64 3155759999, .int .i64 0]) (by simp only [results, Try.results27]; go_simp; first | done | rfl) rfl ?_
    exact ⟨rfl, hb.trans (hb1.mono hb.size)⟩
  rw [if_neg g2] at hV
  have g2' : (se == 0) = false := by simpa using g2
  have q1 : 0 ≤ (lim - sc) / se := Int.ediv_nonneg (by omega) (by omega)
  have q2 : (lim - sc) / se ≤ lim - sc := Int.ediv_le_self _ (by omega)
  have q0 : 0 ≤ lim - sc := by omega
  have q3 : 1 ≤ se := by omega
  have HV := Lib.hid hV
  clear hV
  rcases (show sf + (lim - sc) / se * 86400 < 3155759999 ∨ sf + (lim - sc) / se * 86400 = 3155759999 ∨ 3155759999 < sf + (lim - sc) / se * 86400 by omega) with t1 | t1 | t1
  all_goals (
    go_enter Try.func27, Try.ntmps27
    go_wp2_with fail
    refine (he _).mono ?_
    rintro e w1 ⟨rfl, hb1⟩
    replace BX := BX.step hb1
    have cx := BX.cell
    go_wp2_with fail
    go_quiet (fail)
    go_wp2_with fail
    refine bodyPost_ret (v := .tuple #[.int .i64 V, .int .i64 0]) (by simp only [results, Try.results27]; go_simp; first | done | rfl | (rw [HV.out]; split <;> first | rfl | omega | (congr 3; omega))) rfl ⟨rfl, (hb.trans (hb1.mono hb.size)).trans ((below_drewM nq).mono (hb.trans (hb1.mono hb.size)).size)⟩)

end Go.Proofs.Ytpjdoopcjdbefaa
