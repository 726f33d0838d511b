/- Contracts of the small functions of package scale and of its reference: checks, errors, which numbers can be shown. -/
import Derived.Test.YtapfihlfnaebhaaRows
import Derived.Test.YtapfihlfnaebhaaKit
import Derived.Test.YtapfihlfnaebhaaScaleP
namespace Go.Proofs.Ytapfihlfnaebhaa
set_option linter.unusedVariables false
set_option linter.unusedSimpArgs false
open Go.RowKit

set_option maxHeartbeats 400000 in
theorem between_any (a b c : Int) (w : World) :
    Calls Try.prog 27 #[.int .i64 a, .int .i64 b, .int .i64 c] w fun e w' => e = .returned (.bool (btw a b c)) ∧ w = w' := by
  go_enter Try.func27, Try.ntmps27
  go_wp2
  all_goals go_ret
  all_goals (refine ⟨?_, rfl⟩; simp [btw, *] <;> omega)

set_option maxHeartbeats 4000000 in
theorem check_any (sa sb sc sd se sf : Int) (w : World) : Calls Try.prog 25 #[.agg #[.int .i64 sa, .int .i64 sb, .int .i64 sc, .int .i64 sd, .int .i64 se, .int .i64 sf]] w fun e w' => e = .returned (.int .i64 (chk sa sb sc sd se sf)) ∧ Below w.heap.size w w' := by
  go_enter Try.func25, Try.ntmps25
  go_wp2_with (go_at_call 27; refine (between_any _ _ _ _).mono ?_; rintro e w' ⟨rfl, rfl⟩)
  all_goals go_ret
  all_goals (refine ⟨?_, (Below.refl _ _).alloc (Nat.le_refl _) _⟩; simp_all [chk])

set_option maxHeartbeats 4000000 in
theorem rcheck_any (sa sb sc sd se sf : Int) (w : World) : Calls Try.prog 6 #[.agg #[.int .i64 sa, .int .i64 sb, .int .i64 sc, .int .i64 sd, .int .i64 se, .int .i64 sf]] w fun e w' => e = .returned (.int .i64 (chk sa sb sc sd se sf)) ∧ Below w.heap.size w w' := by
  go_enter Try.func6, Try.ntmps6
  go_wp2
  all_goals go_ret
  all_goals (refine ⟨?_, (Below.refl _ _).alloc (Nat.le_refl _) _⟩; simp [chk, btw]; omega)

set_option maxHeartbeats 400000 in
theorem begun_any (sa sb sc sd se sf t : Int) (w : World) (hf : 0 ≤ sf) (hft : sf ≤ t) (ht : t ≤ 3155759999) : Calls Try.prog 57 #[.agg #[.int .i64 sa, .int .i64 sb, .int .i64 sc, .int .i64 sd, .int .i64 se, .int .i64 sf], .int .i64 t] w fun e w' => e = .returned (.int .i64 (begun sf t)) ∧ Below w.heap.size w w' := by
  go_enter Try.func57, Try.ntmps57
  go_wp2
  go_ret
  refine ⟨?_, (Below.refl _ _).alloc (Nat.le_refl _) _⟩
  simp [begun]
  omega

set_option maxHeartbeats 400000 in
theorem bound_any (sa sb sc sd se sf m t : Int) (w : World) (h : SV sa sb sc sd se sf) (hm : 0 ≤ m) (hm' : m ≤ 1073741824) (ht0 : 0 ≤ t) (ht : t ≤ 3155759999) (hft : sf ≤ t) :
    Calls Try.prog 58 #[.agg #[.int .i64 sa, .int .i64 sb, .int .i64 sc, .int .i64 sd, .int .i64 se, .int .i64 sf], .int .i64 m, .int .i64 t] w fun e w' => e = .returned (.int .i64 (bnd sc sd se sf m t)) ∧ Below w.heap.size w w' := by
  obtain ⟨g1, g2, p0, p1, q0, q1⟩ := bd_of h hm hm' ht hft
  obtain ⟨a1, a2, b1, b2, c1, c2, d1, d2, e1, e2, f1, f2⟩ := h
  have hg : begun sf t = (t - sf + 86400 - 1) / 86400 := by unfold begun; congr 1; omega
  unfold bnd
  rw [hg]
  simp only [hg] at g1 g2 q0 q1
  clear hg
  go_enter Try.func58, Try.ntmps58
  go_wp2
  go_ret
  refine ⟨?_, (Below.refl _ _).alloc (Nat.le_refl _) _⟩
  simp

end Go.Proofs.Ytapfihlfnaebhaa
