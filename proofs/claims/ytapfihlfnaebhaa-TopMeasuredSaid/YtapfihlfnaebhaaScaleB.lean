/- Contracts of the errors of a scale and of the numbers that it can show. -/
import Derived.Test.YtapfihlfnaebhaaScaleA
namespace Go.Proofs.Ytapfihlfnaebhaa
set_option linter.unusedVariables false
set_option linter.unusedSimpArgs false
open Go.RowKit

set_option maxHeartbeats 400000 in
theorem moment_any (sa sb sc sd se sf t : Int) (w : World) : Calls Try.prog 56 #[.agg #[.int .i64 sa, .int .i64 sb, .int .i64 sc, .int .i64 sd, .int .i64 se, .int .i64 sf], .int .i64 t] w fun e w' => e = .returned (.int .i64 (mom sa sb sc sd se sf t)) ∧ Below w.heap.size w w' := by
  go_enter Try.func56, Try.ntmps56
  go_wp2_with (go_at_call 6; refine (rcheck_any _ _ _ _ _ _ _).mono ?_; rintro e w1 ⟨rfl, hb1⟩; obtain ⟨hc1, hz1⟩ := bcell hb1; have hs1 : w.heap.size < w1.heap.size := (by have hq := hb1.size; (try simp only [World.size_alloc] at hq); omega))
  all_goals go_ret
  all_goals (refine ⟨?_, ?_⟩)
  all_goals first
    | (exact ((Below.refl _ _).alloc (Nat.le_refl _) _).trans (Below.mono (by assumption) (by simp)))
    | (simp [mom, *]; done)
    | (simp [mom, *]; omega)

set_option maxHeartbeats 400000 in
theorem rerror_ok (sa sb sc sd se sf m t : Int) (w : World) (h : SV sa sb sc sd se sf) (hm : 0 ≤ m) (hm' : m ≤ 1073741824) (ht0 : 0 ≤ t) (ht : t ≤ 3155759999) (hft : sf ≤ t) :
    Calls Try.prog 23 #[.agg #[.int .i64 sa, .int .i64 sb, .int .i64 sc, .int .i64 sd, .int .i64 se, .int .i64 sf], .int .i64 m, .int .i64 t] w fun e w' => e = .returned (.tuple #[.int .i64 (bnd sc sd se sf m t), .int .i64 0]) ∧ Below w.heap.size w w' := by
  have hk : chk sa sb sc sd se sf = 0 := chk_ok.2 h
  have hmom : mom sa sb sc sd se sf t = 0 := by simp [mom, hk]; omega
  obtain ⟨g1, g2, p0, p1, q0, q1⟩ := bd_of h hm hm' ht hft
  obtain ⟨a1, a2, b1, b2, c1, c2, d1, d2, e1, e2, f1, f2⟩ := h
  go_enter Try.func23, Try.ntmps23
  go_wp2_with (first
    | (go_at_call 6; refine (rcheck_any _ _ _ _ _ _ _).mono ?_; rintro e w1 ⟨rfl, hb1⟩; obtain ⟨hc1, hz1⟩ := bcell hb1; have hs1 : w.heap.size < w1.heap.size := (by have hq := hb1.size; (try simp only [World.size_alloc] at hq); omega))
    | (go_at_call 56; refine (moment_any _ _ _ _ _ _ _ _).mono ?_; rintro e w2 ⟨rfl, hb2⟩; obtain ⟨hc2, hz2⟩ := bcell hb2; have hs2 : w.heap.size < w2.heap.size := (by have hq := hb2.size; (try simp only [World.size_alloc] at hq); omega)))
  have hs1 : w.heap.size < w1.heap.size := by have := hb1.size; simp at this; omega
  have hs2 : w.heap.size < w2.heap.size := by have := hb2.size; omega
  have hx : ∀ x : BW w2, ∀ o, x.w.cell? ⟨w.heap.size, o, none⟩ = (w.alloc (.cells #[.int .i64 sa, .int .i64 sb, .int .i64 sc, .int .i64 sd, .int .i64 se, .int .i64 sf] 23)).cell? ⟨w.heap.size, o, none⟩ := fun x o => by
    rw [x.cell hs2, hc2 _ _ hs1, hc1 _ _ (by simp)]
  clear hc1 hz1 hc2 hz2
  refine wp_region_calm (by kernel_rfl) (by kernel_rfl) ?_
  repeat (go_big_quiet_step (refine calls_bw (fun w => begun_any _ _ _ _ _ _ t w f1 hft ht) _))
  refine wpQuiet_nil ?_
  intro w3 hb3
  go_wp2
  go_ret2
  exact ⟨by simp [bnd], ((((Below.refl _ _).alloc (Nat.le_refl _) _).trans (hb1.mono (by simp))).trans (hb2.mono (by omega))).trans (hb3.mono (by omega))⟩

end Go.Proofs.Ytapfihlfnaebhaa
