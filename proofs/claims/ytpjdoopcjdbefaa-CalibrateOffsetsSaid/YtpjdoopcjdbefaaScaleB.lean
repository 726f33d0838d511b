/- Contracts of the errors of a scale and of the numbers that it can show. -/
import Derived.Test.YtpjdoopcjdbefaaScaleA
namespace Go.Proofs.Ytpjdoopcjdbefaa
set_option linter.unusedVariables false
set_option linter.unusedSimpArgs false
open Go.RowKit

set_option maxHeartbeats 400000 in
theorem moment_any (sa sb sc sd se sf t : Int) (w : World) : Calls Try.prog 52 #[.agg #[.int .i64 sa, .int .i64 sb, .int .i64 sc, .int .i64 sd, .int .i64 se, .int .i64 sf], .int .i64 t] w fun e w' => e = .returned (.int .i64 (mom sa sb sc sd se sf t)) ∧ Below w.heap.size w w' := by
  go_enter Try.func52, Try.ntmps52
  go_wp2_with (go_at_call 30; refine (rcheck_any _ _ _ _ _ _ _).mono ?_; rintro e w1 ⟨rfl, hb1⟩; obtain ⟨hc1, hz1⟩ := bcell hb1; have hs1 : w.heap.size < w1.heap.size := (by have hq := hb1.size; (try simp only [World.size_alloc] at hq); omega))
  all_goals go_ret
  all_goals (refine ⟨?_, ?_⟩)
  all_goals first
    | (exact ((Below.refl _ _).alloc (Nat.le_refl _) _).trans (Below.mono (by assumption) (by simp)))
    | (simp [mom, *]; done)
    | (simp [mom, *]; omega)

set_option maxHeartbeats 400000 in
theorem error_ok (sa sb sc sd se sf m t : Int) (w : World) (h : SV sa sb sc sd se sf) (hm : 0 ≤ m) (hm' : m ≤ 1073741824) (ht0 : 0 ≤ t) (ht : t ≤ 3155759999) (hft : sf ≤ t) :
    Calls Try.prog 35 #[.agg #[.int .i64 sa, .int .i64 sb, .int .i64 sc, .int .i64 sd, .int .i64 se, .int .i64 sf], .int .i64 m, .int .i64 t] w fun e w' => e = .returned (.tuple #[.int .i64 (bnd sc sd se sf m t), .int .i64 0]) ∧ Below w.heap.size w w' := by
  have hk : chk sa sb sc sd se sf = 0 := chk_ok.2 h
  have b1 : btw 0 m 1073741824 = true := by simp [btw, *]
  have b2 : btw 0 t 3155759999 = true := by simp [btw, *]
  go_enter Try.func35, Try.ntmps35
  go_wp2_with (first
    | (go_at_call 23; refine (check_any _ _ _ _ _ _ _).mono ?_; rintro e w1 ⟨rfl, hb1⟩; obtain ⟨hc1, hz1⟩ := bcell hb1; have hs1 : w.heap.size < w1.heap.size := (by have hq := hb1.size; (try simp only [World.size_alloc] at hq); omega))
    | (go_at_call 40; refine (between_any _ _ _ _).mono ?_; rintro e w' ⟨rfl, rfl⟩)
    | (go_at_call 51; refine (bound_any _ _ _ _ _ _ _ _ _ h hm hm' ht0 ht hft).mono ?_; rintro e w2 ⟨rfl, hb2⟩; obtain ⟨hc2, hz2⟩ := bcell hb2; have hs2 : w.heap.size < w2.heap.size := (by have hq := hb2.size; (try simp only [World.size_alloc] at hq); omega)))
  go_ret2
  exact ⟨by simp, (((Below.refl _ _).alloc (Nat.le_refl _) _).trans (hb1.mono (by simp))).trans (hb2.mono (by have := hb1.size; simp at this; omega))⟩

set_option maxHeartbeats 400000 in
theorem error_no (sa sb sc sd se sf m t : Int) (w : World) (hn : errn sa sb sc sd se sf m t ≠ 0) :
    Calls Try.prog 35 #[.agg #[.int .i64 sa, .int .i64 sb, .int .i64 sc, .int .i64 sd, .int .i64 se, .int .i64 sf], .int .i64 m, .int .i64 t] w fun e w' => e = .returned (.tuple #[.int .i64 0, .int .i64 (errn sa sb sc sd se sf m t)]) ∧ Below w.heap.size w w' := by
  have HN := Lib.hid hn
  clear hn
  by_cases hk : chk sa sb sc sd se sf = 0
  case neg =>
    have hk' := (chk_01 sa sb sc sd se sf).resolve_left hk
    go_enter Try.func35, Try.ntmps35
    go_wp2_with (first
      | (go_at_call 23; refine (check_any _ _ _ _ _ _ _).mono ?_; rintro e w1 ⟨rfl, hb1⟩; obtain ⟨hc1, hz1⟩ := bcell hb1; have hs1 : w.heap.size < w1.heap.size := (by have hq := hb1.size; (try simp only [World.size_alloc] at hq); omega))
      | (go_at_call 40; refine (between_any _ _ _ _).mono ?_; rintro e w' ⟨rfl, rfl⟩))
    go_ret2
    exact ⟨by simp [errn, hk], ((Below.refl _ _).alloc (Nat.le_refl _) _).trans (hb1.mono (by simp))⟩
  by_cases hm : btw 0 m 1073741824 = true
  case neg =>
    have hm := eq_false_of_ne_true hm
    go_enter Try.func35, Try.ntmps35
    go_wp2_with (first
      | (go_at_call 23; refine (check_any _ _ _ _ _ _ _).mono ?_; rintro e w1 ⟨rfl, hb1⟩; obtain ⟨hc1, hz1⟩ := bcell hb1; have hs1 : w.heap.size < w1.heap.size := (by have hq := hb1.size; (try simp only [World.size_alloc] at hq); omega))
      | (go_at_call 40; refine (between_any _ _ _ _).mono ?_; rintro e w' ⟨rfl, rfl⟩))
    go_ret2
    refine ⟨?_, ((Below.refl _ _).alloc (Nat.le_refl _) _).trans (hb1.mono (by simp))⟩
    simp [btw] at hm
    simp [errn]
    omega
  by_cases ht : btw 0 t 3155759999 = true
  case neg =>
    have ht := eq_false_of_ne_true ht
    go_enter Try.func35, Try.ntmps35
    go_wp2_with (first
      | (go_at_call 23; refine (check_any _ _ _ _ _ _ _).mono ?_; rintro e w1 ⟨rfl, hb1⟩; obtain ⟨hc1, hz1⟩ := bcell hb1; have hs1 : w.heap.size < w1.heap.size := (by have hq := hb1.size; (try simp only [World.size_alloc] at hq); omega))
      | (go_at_call 40; refine (between_any _ _ _ _).mono ?_; rintro e w' ⟨rfl, rfl⟩))
    go_ret2
    refine ⟨?_, ((Below.refl _ _).alloc (Nat.le_refl _) _).trans (hb1.mono (by simp))⟩
    simp [btw] at ht
    simp [errn]
    omega
  have hlt : t < sf := by
    have hn := HN.out
    simp [btw] at hm ht
    unfold errn at hn
    split at hn
    · omega
    · split at hn <;> omega
  go_enter Try.func35, Try.ntmps35
  go_wp2_with (first
    | (go_at_call 23; refine (check_any _ _ _ _ _ _ _).mono ?_; rintro e w1 ⟨rfl, hb1⟩; obtain ⟨hc1, hz1⟩ := bcell hb1; have hs1 : w.heap.size < w1.heap.size := (by have hq := hb1.size; (try simp only [World.size_alloc] at hq); omega))
    | (go_at_call 40; refine (between_any _ _ _ _).mono ?_; rintro e w' ⟨rfl, rfl⟩))
  go_ret2
  refine ⟨?_, ((Below.refl _ _).alloc (Nat.le_refl _) _).trans (hb1.mono (by simp))⟩
  simp [btw] at hm ht
  simp [errn, hk, hlt]
  omega

theorem error_any (sa sb sc sd se sf m t : Int) (w : World) :
    Calls Try.prog 35 #[.agg #[.int .i64 sa, .int .i64 sb, .int .i64 sc, .int .i64 sd, .int .i64 se, .int .i64 sf], .int .i64 m, .int .i64 t] w fun e w' => e = .returned (.tuple #[.int .i64 (errv sa sb sc sd se sf m t), .int .i64 (errn sa sb sc sd se sf m t)]) ∧ Below w.heap.size w w' := by
  by_cases hn : errn sa sb sc sd se sf m t = 0
  · obtain ⟨h, hm, hm', ht0, ht, hft⟩ := errn_ok.1 hn
    simp only [errv, hn, if_true]
    exact error_ok _ _ _ _ _ _ _ _ _ h hm hm' ht0 ht hft
  · simp only [errv, hn, if_false]
    exact error_no _ _ _ _ _ _ _ _ _ hn

set_option maxHeartbeats 400000 in
theorem rerror_ok (sa sb sc sd se sf m t : Int) (w : World) (h : SV sa sb sc sd se sf) (hm : 0 ≤ m) (hm' : m ≤ 1073741824) (ht0 : 0 ≤ t) (ht : t ≤ 3155759999) (hft : sf ≤ t) :
    Calls Try.prog 37 #[.agg #[.int .i64 sa, .int .i64 sb, .int .i64 sc, .int .i64 sd, .int .i64 se, .int .i64 sf], .int .i64 m, .int .i64 t] w fun e w' => e = .returned (.tuple #[.int .i64 (bnd sc sd se sf m t), .int .i64 0]) ∧ Below w.heap.size w w' := by
  have hk : chk sa sb sc sd se sf = 0 := chk_ok.2 h
  have hmom : mom sa sb sc sd se sf t = 0 := by simp [mom, hk]; omega
  obtain ⟨g1, g2, p0, p1, q0, q1⟩ := bd_of h hm hm' ht hft
  obtain ⟨a1, a2, b1, b2, c1, c2, d1, d2, e1, e2, f1, f2⟩ := h
  go_enter Try.func37, Try.ntmps37
  go_wp2_with (first
    | (go_at_call 30; refine (rcheck_any _ _ _ _ _ _ _).mono ?_; rintro e w1 ⟨rfl, hb1⟩; obtain ⟨hc1, hz1⟩ := bcell hb1; have hs1 : w.heap.size < w1.heap.size := (by have hq := hb1.size; (try simp only [World.size_alloc] at hq); omega))
    | (go_at_call 52; refine (moment_any _ _ _ _ _ _ _ _).mono ?_; rintro e w2 ⟨rfl, hb2⟩; obtain ⟨hc2, hz2⟩ := bcell hb2; have hs2 : w.heap.size < w2.heap.size := (by have hq := hb2.size; (try simp only [World.size_alloc] at hq); omega)))
  have hs1 : w.heap.size < w1.heap.size := by have := hb1.size; simp at this; omega
  have hs2 : w.heap.size < w2.heap.size := by have := hb2.size; omega
  have hx : ∀ x : BW w2, ∀ o, x.w.cell? ⟨w.heap.size, o, none⟩ = (w.alloc (.cells #[.int .i64 sa, .int .i64 sb, .int .i64 sc, .int .i64 sd, .int .i64 se, .int .i64 sf] 32)).cell? ⟨w.heap.size, o, none⟩ := fun x o => by
    rw [x.cell hs2, hc2 _ _ hs1, hc1 _ _ (by simp)]
  clear hc1 hz1 hc2 hz2
  refine wp_region_calm (by kernel_rfl) (by kernel_rfl) ?_
  repeat (go_big_quiet_step (refine calls_bw (fun w => begun_any _ _ _ _ _ _ t w f1 hft ht) _))
  refine wpQuiet_nil ?_
  intro w3 hb3
  go_wp2
  go_ret2
  exact ⟨by simp [bnd], ((((Below.refl _ _).alloc (Nat.le_refl _) _).trans (hb1.mono (by simp))).trans (hb2.mono (by omega))).trans (hb3.mono (by omega))⟩

end Go.Proofs.Ytpjdoopcjdbefaa
