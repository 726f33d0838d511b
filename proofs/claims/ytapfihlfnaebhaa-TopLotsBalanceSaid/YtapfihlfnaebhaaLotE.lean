/- Contracts: find; what is left of a lot. -/
import Derived.Test.YtapfihlfnaebhaaLotD
namespace Go.Proofs.Ytapfihlfnaebhaa
set_option linter.unusedVariables false
set_option linter.unusedSimpArgs false
open Go.RowKit

/-- What is left of a lot from which t was taken. -/
def restS (x : Lv) (t : Sp) : Sp := ⟨if x.lo - t.hi < 0 then 0 else x.lo - t.hi, x.hi - t.lo⟩
theorem rest_any (x : Lv) (t : Sp) (w : World) {pa : Option Addr} {pc : Nat} (hpv : x.pv = .slice pa x.parts.length pc) (h1 : 0 ≤ x.lo ∧ x.lo ≤ 70368744177664 ∧ 0 ≤ x.hi ∧ x.hi ≤ 70368744177664) (h2 : 0 ≤ t.lo ∧ t.lo ≤ t.hi ∧ t.hi ≤ 288230376151711744) :
    Calls Try.prog 44 #[.agg #[.int .i64 (x).id, .int .i64 (x).mat, .int .i64 (x).lo, .int .i64 (x).hi, (x).pv], .agg #[.int .i64 (t).lo, .int .i64 (t).hi]] w fun e w' => e = .returned (.agg #[.int .i64 (restS x t).lo, .int .i64 (restS x t).hi]) ∧ Below w.heap.size w w' := by
  obtain ⟨xi, xm, xl, xh, xv, ps⟩ := x
  dsimp only at *
  subst hpv
  obtain ⟨a1, a2, a3, a4⟩ := h1
  obtain ⟨b1, b2, b3⟩ := h2
  have hR : restS ⟨xi, xm, xl, xh, .slice pa ps.length pc, ps⟩ t = ⟨if xl - t.hi < 0 then 0 else xl - t.hi, xh - t.lo⟩ := rfl
  generalize restS ⟨xi, xm, xl, xh, .slice pa ps.length pc, ps⟩ t = R at *
  have HR := Lib.hid hR
  clear hR
  rcases (show xl - t.hi < 0 ∨ xl - t.hi = 0 ∨ 0 < xl - t.hi by omega) with d1 | d1 | d1
  all_goals (
    go_enter Try.func44, Try.ntmps44
    go_wp2_with fail
    refine bodyPost_ret (v := .agg #[.int .i64 (R).lo, .int .i64 (R).hi]) (by simp only [results, Try.results44]; go_simp; rw [HR.out]; first | done | rfl | (dsimp only; split <;> first | rfl | omega | (congr 3; omega)) | (simp; omega)) rfl ⟨rfl, ?_⟩
    repeat (first | (with_reducible exact Below.refl _ _) | (with_reducible assumption) | (with_reducible refine Below.drew ?_) | ((with_reducible refine Below.alloc ?_ ?_ _); rotate_left; (first | (with_reducible exact Nat.zero_le _) | (with_reducible exact Nat.le_refl _) | omega | (dsimp only; omega) | (simp only [World.size_alloc, World.size_setCell, World.size_drew]; omega))) | ((with_reducible refine Below.setCell ?_ ?_ _); rotate_left; (first | (with_reducible exact Nat.zero_le _) | (with_reducible exact Nat.le_refl _) | omega | (dsimp only; omega) | (simp only [World.size_alloc, World.size_setCell, World.size_drew]; omega)))))

end Go.Proofs.Ytapfihlfnaebhaa
