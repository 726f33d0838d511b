/- The walk of CalibrateUntil. -/
import Derived.Test.YtpjdoopcjdbefaaCalU
namespace Go.Proofs.Ytpjdoopcjdbefaa
set_option linter.unusedVariables false
set_option linter.unusedSimpArgs false
open Go.RowKit

theorem nee_at {s : Sc} {u lim : Int} (hs : chkS s = 0) (hl : 0 ≤ lim ∧ lim ≤ 1073741824) (h1 : s.f ≤ u) (h2 : u ≤ 3155759999) : neeE s u lim = 0 ∧ (neeB s u lim = decide (s.c + s.e * begun s.f u > lim)) := by
  have hV : SV s.a s.b s.c s.d s.e s.f := chk_ok.1 hs
  have hE : errS s 0 u = 0 := errn_ok.2 ⟨hV, by omega, by omega, by have := hV.f1; omega, h2, h1⟩
  have hN : neeE s u lim = 0 := by unfold neeE; rw [if_neg (by simpa using hE), if_neg (by omega)]
  refine ⟨hN, ?_⟩
  have hR : erS s 0 u = bnd s.c s.d s.e s.f 0 u := if_pos hE
  unfold neeB
  rw [if_pos hN, hR, bnd_zero]
theorem unt_seven {s : Sc} {lim : Int} (h : untE s lim = 7) : neeE s s.f lim = 0 ∧ neeB s s.f lim = true := by
  unfold untE at h
  split at h
  · rename_i h1
    have := chk_01 s.a s.b s.c s.d s.e s.f
    have e : chkS s = chk s.a s.b s.c s.d s.e s.f := rfl
    omega
  split at h
  · omega
  split at h
  · rename_i h1 h2 h3
    have hs : chkS s = 0 := by simpa using h1
    have hV : SV s.a s.b s.c s.d s.e s.f := chk_ok.1 hs
    obtain ⟨n1, n2⟩ := nee_at (u := s.f) (lim := lim) hs (by omega) (Int.le_refl _) hV.f2
    refine ⟨n1, ?_⟩
    rw [n2]
    have hb : begun s.f s.f = 0 := by unfold begun; omega
    rw [hb, Int.mul_zero]
    exact decide_eq_true (by omega)
  · omega
theorem unt_one {s : Sc} {lim : Int} (h : untE s lim ≠ 0) (h7 : untE s lim ≠ 7) : untE s lim = 1 ∧ untV s lim = 0 := by
  have hv : untV s lim = 0 := by unfold untV; rw [if_neg h]
  refine ⟨?_, hv⟩
  unfold untE at h h7 ⊢
  split
  · have := chk_01 s.a s.b s.c s.d s.e s.f
    have e : chkS s = chk s.a s.b s.c s.d s.e s.f := rfl
    omega
  · rename_i h1
    rw [if_neg h1] at h h7
    split
    · rfl
    · rename_i h2
      rw [if_neg h2] at h h7
      split
      · rename_i h3; rw [if_pos h3] at h7; exact absurd rfl h7
      · rename_i h3; rw [if_neg h3] at h; exact absurd rfl h
theorem unt_zero {s : Sc} {lim : Int} (h : untE s lim = 0) : 0 ≤ s.f ∧ s.f ≤ untV s lim ∧ untV s lim ≤ 3155759999 ∧ (∀ u, s.f ≤ u → u ≤ untV s lim → neeE s u lim = 0 ∧ neeB s u lim = false) ∧
    (untV s lim ≠ 3155759999 → neeE s (untV s lim + 1) lim = 0 ∧ neeB s (untV s lim + 1) lim = true) := by
  have hv : untV s lim = (if s.e = 0 then 3155759999 else if s.f + (lim - s.c) / s.e * 86400 < 3155759999 then s.f + (lim - s.c) / s.e * 86400 else 3155759999) := by unfold untV; rw [if_pos h]
  unfold untE at h
  split at h
  · rename_i h1; exact absurd h h1
  split at h
  · omega
  split at h
  · omega
  rename_i h1 h2 h3
  have hs : chkS s = 0 := by simpa using h1
  have hV : SV s.a s.b s.c s.d s.e s.f := chk_ok.1 hs
  have q1 : s.e ≠ 0 → 0 ≤ (lim - s.c) / s.e := fun he => Int.ediv_nonneg (by omega) (by have := hV.e1; omega)
  have hf1 := hV.f1
  have hf2 := hV.f2
  have he1 := hV.e1
  have hT : s.f ≤ untV s lim ∧ untV s lim ≤ 3155759999 := by
    rw [hv]
    split
    · omega
    · rename_i he
      have := q1 he
      split <;> omega
  refine ⟨hf1, hT.1, hT.2, fun u hu1 hu2 => ?_, fun hne => ?_⟩
  · obtain ⟨n1, n2⟩ := nee_at (u := u) hs (lim := lim) (by omega) hu1 (by omega)
    refine ⟨n1, ?_⟩
    rw [n2]
    refine decide_eq_false ?_
    by_cases he : s.e = 0
    · rw [he, Int.zero_mul]; omega
    · rw [hv, if_neg he] at hu2
      have := until_ok (c := s.c) (e := s.e) (f := s.f) (limit := lim) (t := u) (by omega) (by split at hu2 <;> omega)
      omega
  · have he : s.e ≠ 0 := fun he => hne (by rw [hv, if_pos he])
    have hlt : s.f + (lim - s.c) / s.e * 86400 < 3155759999 := by
      refine Int.not_le.1 fun hge => hne ?_
      rw [hv, if_neg he, if_neg (by omega)]
    have hu : untV s lim = s.f + (lim - s.c) / s.e * 86400 := by rw [hv, if_neg he, if_pos hlt]
    rw [hu]
    have := q1 he
    obtain ⟨n1, n2⟩ := nee_at (u := s.f + (lim - s.c) / s.e * 86400 + 1) hs (lim := lim) (by omega) (by omega) (by omega)
    refine ⟨n1, ?_⟩
    rw [n2]
    exact decide_eq_true (until_next (c := s.c) (e := s.e) (f := s.f) (limit := lim) (by omega))
set_option maxRecDepth 100000 in
set_option maxHeartbeats 8000000 in
theorem law_until {w : World} (s : Sc) (lim back : Int) (hk : 0 ≤ back ∧ back < 4294967296) : Calls Try.prog 10 #[.agg #[.int .i64 (s).a, .int .i64 (s).b, .int .i64 (s).c, .int .i64 (s).d, .int .i64 (s).e, .int .i64 (s).f], .int .i64 lim, .int .u32 back] w fun e w' => e = .returned (.bool true) ∧ Below w.heap.size w w' := by
  have h1 := fun w => until_any s lim w
  have hne := fun u w => needs_any s u lim w
  have hb : Below w.heap.size w (w.alloc (.cells (#[.int .i64 (s).a, .int .i64 (s).b, .int .i64 (s).c, .int .i64 (s).d, .int .i64 (s).e, .int .i64 (s).f]) 32)) := by repeat (first | (with_reducible exact Below.refl _ _) | (with_reducible assumption) | (with_reducible refine Below.drew ?_) | ((with_reducible refine Below.alloc ?_ ?_ _); rotate_left; (first | (with_reducible exact Nat.zero_le _) | (with_reducible exact Nat.le_refl _) | omega | (dsimp only; omega) | (simp only [World.size_alloc, World.size_setCell, World.size_drew]; omega))) | ((with_reducible refine Below.setCell ?_ ?_ _); rotate_left; (first | (with_reducible exact Nat.zero_le _) | (with_reducible exact Nat.le_refl _) | omega | (dsimp only; omega) | (simp only [World.size_alloc, World.size_setCell, World.size_drew]; omega))))
  have BS := Blk.new w 32 (#[.int .i64 (s).a, .int .i64 (s).b, .int .i64 (s).c, .int .i64 (s).d, .int .i64 (s).e, .int .i64 (s).f])
  have cs := BS.cell
  have ls := BS.lt
  obtain ⟨k1, k2⟩ := hk
  by_cases h0 : untE s lim = 0
  · obtain ⟨z1, z2, z3, z4, z5⟩ := unt_zero h0
    rw [h0] at h1
    clear h0
    obtain ⟨t, ht⟩ : ∃ t, t = untV s lim := ⟨_, rfl⟩
    rw [← ht] at h1 z2 z3 z4 z5
    clear ht
    have hm1 := Int.emod_nonneg back (show t - s.f + 1 ≠ 0 by omega)
    have hm2 := Int.emod_lt_of_pos back (show 0 < t - s.f + 1 by omega)
    have hn1 := fun w => hne t w
    have hn2 := fun w => hne (t - back % (t - s.f + 1)) w
    have hn3 := fun w => hne (t + 1) w
    rw [(z4 t z2 (Int.le_refl _)).1, (z4 t z2 (Int.le_refl _)).2] at hn1
    rw [(z4 (t - back % (t - s.f + 1)) (by omega) (by omega)).1, (z4 (t - back % (t - s.f + 1)) (by omega) (by omega)).2] at hn2
    have HZ5 := Lib.hid z5
    clear z4 z5 hne
    have g1 : ¬ s.f < 0 := by omega
    have g2 : ¬ t < s.f := by omega
    have g3 : ¬ t > 3155759999 := by omega
    have g4 : 0 < t - s.f + 1 := by omega
    go_enter Try.func10, Try.ntmps10
    go_wp2_with fail
    refine (h1 _).mono ?_
    rintro e w1 ⟨rfl, hb1⟩
    replace BS := BS.step hb1
    replace hb := hb.trans (hb1.mono hb.size)
    clear cs ls hb1
    have cs := BS.cell
    have ls := BS.lt
    go_wp2_with fail
    refine (hn1 _).mono ?_
    rintro e w2 ⟨rfl, hb2⟩
    replace BS := BS.step hb2
    replace hb := hb.trans (hb2.mono hb.size)
    clear cs ls hb2
    have cs := BS.cell
    have ls := BS.lt
    go_wp2_with fail
    have c2 : ∀ Y : BW w2, ∀ j, Y.w.cell? ⟨w.heap.size, j, none⟩ = (#[.int .i64 (s).a, .int .i64 (s).b, .int .i64 (s).c, .int .i64 (s).d, .int .i64 (s).e, .int .i64 (s).f])[j]? := fun Y => (BS.bw Y).cell
    refine wp_region_calm (by kernel_rfl) (by kernel_rfl) ?_
    repeat (go_big_quiet_step (fail))
    go_big_quiet_want; go_big_quiet_op; go_big_quiet_call (exact calls_bw (fun w => hn2 w) _)
    repeat (go_big_quiet_step (fail))
    first | refine wpQuiet_nil ?_ | skip
    intro w3 hb3
    replace BS := BS.step hb3
    replace hb := hb.trans (hb3.mono hb.size)
    clear cs ls hb3 c2
    have cs := BS.cell
    have ls := BS.lt
    by_cases hT : t = 3155759999
    · subst hT
      clear hn3 HZ5 hn1 hn2 h1
      go_wp2_with fail
      refine (awake29_any _).mono ?_
      rintro e w9 ⟨rfl, hb9⟩
      go_wp2_with fail
      go_ret
      exact ⟨by first | rfl | simp, hb.trans (hb9.mono hb.size)⟩
    · have hT' : (t == 3155759999) = false := by simpa using hT
      obtain ⟨y1, y2⟩ := HZ5.out hT
      rw [y1, y2] at hn3
      clear HZ5 hn1 hn2 h1 y1 y2 hT
      have g5 : t < 3155759999 := by
        have : (t == 3155759999) = false := hT'
        simp at this; omega
      go_wp2_with fail
      refine (hn3 _).mono ?_
      rintro e w4 ⟨rfl, hb4⟩
      replace BS := BS.step hb4
      replace hb := hb.trans (hb4.mono hb.size)
      clear cs ls hb4
      have cs := BS.cell
      have ls := BS.lt
      go_wp2_with fail
      refine (awake29_any _).mono ?_
      rintro e w9 ⟨rfl, hb9⟩
      go_wp2_with fail
      go_ret
      exact ⟨by first | rfl | simp, hb.trans (hb9.mono hb.size)⟩
  · by_cases h7 : untE s lim = 7
    · obtain ⟨y1, y2⟩ := unt_seven h7
      have hn1 := fun w => hne s.f w
      rw [y1, y2] at hn1
      rw [h7] at h1
      clear hne y1 y2 h0 h7
      generalize untV s lim = V at *
      go_enter Try.func10, Try.ntmps10
      go_wp2_with fail
      refine (h1 _).mono ?_
      rintro e w1 ⟨rfl, hb1⟩
      replace BS := BS.step hb1
      replace hb := hb.trans (hb1.mono hb.size)
      clear cs ls hb1
      have cs := BS.cell
      have ls := BS.lt
      go_wp2_with fail
      refine (hn1 _).mono ?_
      rintro e w2 ⟨rfl, hb2⟩
      replace BS := BS.step hb2
      replace hb := hb.trans (hb2.mono hb.size)
      clear cs ls hb2
      have cs := BS.cell
      have ls := BS.lt
      go_wp2_with fail
      refine (awake29_any _).mono ?_
      rintro e w9 ⟨rfl, hb9⟩
      go_wp2_with fail
      go_ret
      exact ⟨by first | rfl | simp, hb.trans (hb9.mono hb.size)⟩
    · obtain ⟨y1, y2⟩ := unt_one h0 h7
      rw [y1, y2] at h1
      clear hne y1 y2 h0 h7
      go_enter Try.func10, Try.ntmps10
      go_wp2_with fail
      refine (h1 _).mono ?_
      rintro e w1 ⟨rfl, hb1⟩
      replace BS := BS.step hb1
      replace hb := hb.trans (hb1.mono hb.size)
      clear cs ls hb1
      have cs := BS.cell
      have ls := BS.lt
      go_wp2_with fail
      refine (awake29_any _).mono ?_
      rintro e w9 ⟨rfl, hb9⟩
      go_wp2_with fail
      go_ret
      exact ⟨by first | rfl | simp, hb.trans (hb9.mono hb.size)⟩

end Go.Proofs.Ytpjdoopcjdbefaa
