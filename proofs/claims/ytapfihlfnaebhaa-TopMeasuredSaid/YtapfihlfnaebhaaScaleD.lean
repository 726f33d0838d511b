/- Contracts: Could, of the program and of its reference. -/
import Derived.Test.YtapfihlfnaebhaaScaleC
namespace Go.Proofs.Ytapfihlfnaebhaa
set_option linter.unusedVariables false
set_option linter.unusedSimpArgs false
open Go.RowKit

set_option maxHeartbeats 1000000 in
theorem rcould_any (sa sb sc sd se sf m n t : Int) (w : World) : Calls Try.prog 8 #[.agg #[.int .i64 sa, .int .i64 sb, .int .i64 sc, .int .i64 sd, .int .i64 se, .int .i64 sf], .int .i64 m, .int .i64 n, .int .i64 t] w fun e w' => e = .returned (.bool (cld sa sb sc sd se sf m n t)) ∧ Below w.heap.size w w' := by
  by_cases hn : errn sa sb sc sd se sf m t = 0
  case neg =>
    go_enter Try.func8, Try.ntmps8
    go_wp2_with (go_at_call 23; refine (rerror_any _ _ _ _ _ _ _ _ _).mono ?_; rintro e w1 ⟨rfl, hb1⟩; obtain ⟨hc1, hz1⟩ := bcell hb1; have hs1 : w.heap.size < w1.heap.size := (by have hq := hb1.size; (try simp only [World.size_alloc] at hq); omega))
    go_ret
    exact ⟨by simp [cld, hn], (((Below.refl _ _).alloc (Nat.le_refl _) _).trans (hb1.mono (by simp)))⟩
  have hq := errn_ok.1 hn
  have HQ := Lib.hid hq
  clear hq
  have h1 : 1 ≤ sa := HQ.out.1.a1
  by_cases hs : shw sa sb n = true
  case neg =>
    have hs := eq_false_of_ne_true hs
    go_enter Try.func8, Try.ntmps8
    go_wp2_with (first
      | (go_at_call 23; refine (rerror_any _ _ _ _ _ _ _ _ _).mono ?_; rintro e w1 ⟨rfl, hb1⟩; obtain ⟨hc1, hz1⟩ := bcell hb1; have hs1 : w.heap.size < w1.heap.size := (by have hq := hb1.size; (try simp only [World.size_alloc] at hq); omega))
      | (go_at_call 24; refine (showable_any _ _ _ _ _ _ _ _ h1).mono ?_; rintro e w2 ⟨rfl, hb2⟩; obtain ⟨hc2, hz2⟩ := bcell hb2; have hs2 : w.heap.size < w2.heap.size := (by have hq := hb2.size; (try simp only [World.size_alloc] at hq); omega)))
    go_ret
    exact ⟨by simp [cld, hn, hs], ((((Below.refl _ _).alloc (Nat.le_refl _) _).trans (hb1.mono (by simp))).trans (hb2.mono (by omega)))⟩
  obtain ⟨hV, hm, hm', ht0, ht, hft⟩ := HQ.out
  obtain ⟨n1, n2⟩ := shw_bd hs
  have n3 : n ≤ 1073741824 := by have := hV.b2; omega
  have hE : errv sa sb sc sd se sf m t = bnd sc sd se sf m t := by simp [errv, hn]
  have ⟨k1, k2⟩ := bnd_bd hV hm hm' ht hft
  have a1 := hV.a1
  have a2 := hV.a2
  go_enter Try.func8, Try.ntmps8
  go_wp2_with (first
    | (go_at_call 23; refine (rerror_any _ _ _ _ _ _ _ _ _).mono ?_; rintro e w1 ⟨rfl, hb1⟩; obtain ⟨hc1, hz1⟩ := bcell hb1; have hs1 : w.heap.size < w1.heap.size := (by have hq := hb1.size; (try simp only [World.size_alloc] at hq); omega))
    | (go_at_call 24; refine (showable_any _ _ _ _ _ _ _ _ h1).mono ?_; rintro e w2 ⟨rfl, hb2⟩; obtain ⟨hc2, hz2⟩ := bcell hb2; have hs2 : w.heap.size < w2.heap.size := (by have hq := hb2.size; (try simp only [World.size_alloc] at hq); omega)))
  all_goals go_ret
  all_goals (refine ⟨?_, ((((Below.refl _ _).alloc (Nat.le_refl _) _).trans (hb1.mono (by simp))).trans (hb2.mono (by omega)))⟩; simp [cld, hn, hs, nearB]; first | omega | (rw [Bool.eq_iff_iff]; simp; omega))

end Go.Proofs.Ytapfihlfnaebhaa
