/- Contracts: the reference's error; which numbers a scale has; whether it can show a number for a mass. -/
import Derived.Test.YtapfihlfnaebhaaScaleB
namespace Go.Proofs.Ytapfihlfnaebhaa
set_option linter.unusedVariables false
set_option linter.unusedSimpArgs false
open Go.RowKit

set_option maxHeartbeats 1000000 in
theorem rerror_no (sa sb sc sd se sf m t : Int) (w : World) (hn : errn sa sb sc sd se sf m t ≠ 0) :
    Calls Try.prog 23 #[.agg #[.int .i64 sa, .int .i64 sb, .int .i64 sc, .int .i64 sd, .int .i64 se, .int .i64 sf], .int .i64 m, .int .i64 t] w fun e w' => e = .returned (.tuple #[.int .i64 0, .int .i64 (errn sa sb sc sd se sf m t)]) ∧ Below w.heap.size w w' := by
  have HN := Lib.hid hn
  clear hn
  by_cases hk : chk sa sb sc sd se sf = 0 ∧ 0 ≤ m ∧ m ≤ 1073741824
  case neg =>
    have he : errn sa sb sc sd se sf m t = 1 := by simp only [errn]; rw [if_pos (by omega)]
    rw [he]
    have HE := Lib.hid he
    have HK := Lib.hid hk
    clear hk he
    go_enter Try.func23, Try.ntmps23
    go_wp2_with (first
      | (go_at_call 6; refine (rcheck_any _ _ _ _ _ _ _).mono ?_; rintro e w1 ⟨rfl, hb1⟩; obtain ⟨hc1, hz1⟩ := bcell hb1; have hs1 : w.heap.size < w1.heap.size := (by have hq := hb1.size; (try simp only [World.size_alloc] at hq); omega))
      | (go_at_call 56; exfalso; have := HK.out; omega))
    all_goals go_ret2
    all_goals exact ⟨by simp, ((Below.refl _ _).alloc (Nat.le_refl _) _).trans (Below.mono (by assumption) (by simp))⟩
  obtain ⟨hk, hm, hm'⟩ := hk
  have he : mom sa sb sc sd se sf t = errn sa sb sc sd se sf m t := by
    simp only [mom, errn, hk, ne_eq, not_true_eq_false, false_or]
    have e1 : (m < 0) = False := by simp; omega
    have e2 : (m > 1073741824) = False := by simp; omega
    simp only [e1, e2, false_or]
  have hm0 : mom sa sb sc sd se sf t ≠ 0 := by rw [he]; exact HN.out
  rw [← he]
  clear he
  go_enter Try.func23, Try.ntmps23
  go_wp2_with (first
    | (go_at_call 6; refine (rcheck_any _ _ _ _ _ _ _).mono ?_; rintro e w1 ⟨rfl, hb1⟩; obtain ⟨hc1, hz1⟩ := bcell hb1; have hs1 : w.heap.size < w1.heap.size := (by have hq := hb1.size; (try simp only [World.size_alloc] at hq); omega))
    | (go_at_call 56; refine (moment_any _ _ _ _ _ _ _ _).mono ?_; rintro e w2 ⟨rfl, hb2⟩; obtain ⟨hc2, hz2⟩ := bcell hb2; have hs2 : w.heap.size < w2.heap.size := (by have hq := hb2.size; (try simp only [World.size_alloc] at hq); omega)))
  go_ret2
  exact ⟨by simp, (((Below.refl _ _).alloc (Nat.le_refl _) _).trans (hb1.mono (by simp))).trans (hb2.mono (by have := hb1.size; simp at this; omega))⟩

theorem rerror_any (sa sb sc sd se sf m t : Int) (w : World) :
    Calls Try.prog 23 #[.agg #[.int .i64 sa, .int .i64 sb, .int .i64 sc, .int .i64 sd, .int .i64 se, .int .i64 sf], .int .i64 m, .int .i64 t] w fun e w' => e = .returned (.tuple #[.int .i64 (errv sa sb sc sd se sf m t), .int .i64 (errn sa sb sc sd se sf m t)]) ∧ Below w.heap.size w w' := by
  by_cases hn : errn sa sb sc sd se sf m t = 0
  · obtain ⟨h, hm, hm', ht0, ht, hft⟩ := errn_ok.1 hn
    simp only [errv, hn, if_true]
    exact rerror_ok _ _ _ _ _ _ _ _ _ h hm hm' ht0 ht hft
  · simp only [errv, hn, if_false]
    exact rerror_no _ _ _ _ _ _ _ _ _ hn

set_option maxHeartbeats 400000 in
theorem shw_any (sa sb sc sd se sf n : Int) (w : World) (h1 : 1 ≤ sa) : Calls Try.prog 26 #[.agg #[.int .i64 sa, .int .i64 sb, .int .i64 sc, .int .i64 sd, .int .i64 se, .int .i64 sf], .int .i64 n] w fun e w' => e = .returned (.bool (shw sa sb n)) ∧ Below w.heap.size w w' := by
  by_cases hb : btw 0 n sb = true
  · have h0 : 0 ≤ n := by simp [btw] at hb; omega
    go_enter Try.func26, Try.ntmps26
    go_wp2_with (go_at_call 27; refine (between_any _ _ _ _).mono ?_; rintro e w' ⟨rfl, rfl⟩)
    all_goals go_ret
    all_goals (refine ⟨?_, (Below.refl _ _).alloc (Nat.le_refl _) _⟩; simp [btw] at hb; simp [shw, hb])
  · have hb := eq_false_of_ne_true hb
    go_enter Try.func26, Try.ntmps26
    go_wp2_with (go_at_call 27; refine (between_any _ _ _ _).mono ?_; rintro e w' ⟨rfl, rfl⟩)
    go_ret
    refine ⟨?_, (Below.refl _ _).alloc (Nat.le_refl _) _⟩
    simp [btw] at hb
    simp [shw]
    omega

set_option maxHeartbeats 400000 in
theorem showable_any (sa sb sc sd se sf n : Int) (w : World) (h1 : 1 ≤ sa) : Calls Try.prog 24 #[.agg #[.int .i64 sa, .int .i64 sb, .int .i64 sc, .int .i64 sd, .int .i64 se, .int .i64 sf], .int .i64 n] w fun e w' => e = .returned (.bool (shw sa sb n)) ∧ Below w.heap.size w w' := by
  go_enter Try.func24, Try.ntmps24
  go_wp2
  all_goals go_ret
  all_goals (refine ⟨?_, (Below.refl _ _).alloc (Nat.le_refl _) _⟩; simp [shw, *] <;> omega)

set_option maxHeartbeats 400000 in
theorem near_any (sa sb sc sd se sf m n t : Int) (w : World) (hV : SV sa sb sc sd se sf) (hm : 0 ≤ m) (hm' : m ≤ 1073741824) (hn : 0 ≤ n) (hn' : n ≤ 1073741824) (ht0 : 0 ≤ t) (ht : t ≤ 3155759999) (hft : sf ≤ t) :
    Calls Try.prog 30 #[.agg #[.int .i64 sa, .int .i64 sb, .int .i64 sc, .int .i64 sd, .int .i64 se, .int .i64 sf], .int .i64 m, .int .i64 n, .int .i64 t] w fun e w' => e = .returned (.bool (nearB sa sc sd se sf m n t)) ∧ Below w.heap.size w w' := by
  have ⟨k1, k2⟩ := bnd_bd hV hm hm' ht hft
  have a1 := hV.a1; have a2 := hV.a2
  go_enter Try.func30, Try.ntmps30
  go_wp2
  all_goals
    have hx : ∀ x : BW (w.alloc (.cells #[.int .i64 sa, .int .i64 sb, .int .i64 sc, .int .i64 sd, .int .i64 se, .int .i64 sf] 23)), ∀ o, x.w.cell? ⟨w.heap.size, o, none⟩ = (w.alloc (.cells #[.int .i64 sa, .int .i64 sb, .int .i64 sc, .int .i64 sd, .int .i64 se, .int .i64 sf] 23)).cell? ⟨w.heap.size, o, none⟩ := fun x o => x.cell (by simp)
    refine wp_region_calm (by kernel_rfl) (by kernel_rfl) ?_
    repeat (go_big_quiet_step (refine calls_bw (fun w => bound_any _ _ _ _ _ _ _ _ w hV hm hm' ht0 ht hft) _))
    refine wpQuiet_nil ?_
    intro w3 hb3
    go_wp2
    go_ret
    refine ⟨?_, ((Below.refl _ _).alloc (Nat.le_refl _) _).trans (hb3.mono (by simp))⟩
    simp [nearB]
    omega

end Go.Proofs.Ytapfihlfnaebhaa
