/- Contracts: Sub of the program. -/
import Derived.Test.YtpclhjkamplmbaaSpanD
namespace Go.Proofs.Ytpclhjkamplmbaa
set_option linter.unusedVariables false
set_option linter.unusedSimpArgs false
open Go.RowKit

def negS (b : Sp) : Sp := ⟨negW b.hi, negW b.lo⟩
set_option maxHeartbeats 1000000 in
theorem sub_any (a b : Sp) (w : World) : Calls Try.prog 20 #[.agg #[.int .i64 (a).lo, .int .i64 (a).hi], .agg #[.int .i64 (b).lo, .int .i64 (b).hi]] w fun e w' => e = .returned (.tuple #[.agg #[.int .i64 (addS a (negS b)).lo, .int .i64 (addS a (negS b)).hi], .int .i64 (addE a (negS b))]) ∧ Below w.heap.size w w' := by
  have BZ : Blk ((((w.alloc (.cells #[.int .i64 a.lo, .int .i64 a.hi] 23)).alloc (.cells #[.int .i64 b.lo, .int .i64 b.hi] 23)).alloc (.cells #[.int .i64 0, .int .i64 0] 23))) (w.heap.size + 2) 23 #[.int .i64 0, .int .i64 0] := by
    have := Blk.new ((w.alloc (.cells #[.int .i64 a.lo, .int .i64 a.hi] 23)).alloc (.cells #[.int .i64 b.lo, .int .i64 b.hi] 23)) 23 #[.int .i64 0, .int .i64 0]
    simpa using this
  have hb : Below w.heap.size w ((((w.alloc (.cells #[.int .i64 a.lo, .int .i64 a.hi] 23)).alloc (.cells #[.int .i64 b.lo, .int .i64 b.hi] 23)).alloc (.cells #[.int .i64 0, .int .i64 0] 23))) := by repeat (first | (with_reducible exact Below.refl _ _) | (with_reducible assumption) | (with_reducible refine Below.drew ?_) | ((with_reducible refine Below.alloc ?_ ?_ _); rotate_left; (first | (with_reducible exact Nat.zero_le _) | (with_reducible exact Nat.le_refl _) | omega | (dsimp only; omega) | (simp only [World.size_alloc, World.size_setCell, World.size_drew]; omega))) | ((with_reducible refine Below.setCell ?_ ?_ _); rotate_left; (first | (with_reducible exact Nat.zero_le _) | (with_reducible exact Nat.le_refl _) | omega | (dsimp only; omega) | (simp only [World.size_alloc, World.size_setCell, World.size_drew]; omega))))
  have had := fun w => add_any a (negS b) w
  unfold negS at had
  have n1 : ∀ n, wrap64 (-n) = negW n := fun n => by unfold negW wrap64; rw [IntKind.wrap_i64]
  generalize hN1 : negW b.hi = N1 at *
  generalize hN2 : negW b.lo = N2 at *
  have hS : addS a (negS b) = addS a ⟨N1, N2⟩ := by unfold negS; rw [hN1, hN2]
  have hE : addE a (negS b) = addE a ⟨N1, N2⟩ := by unfold negS; rw [hN1, hN2]
  rw [hS, hE]
  have m1 : wrap64 (-b.hi) = N1 := (n1 _).trans hN1
  have m2 : wrap64 (-b.lo) = N2 := (n1 _).trans hN2
  clear hS hE hN1 hN2 n1
  generalize addS a ⟨N1, N2⟩ = rS at *
  generalize addE a ⟨N1, N2⟩ = rE at *
  go_enter Try.func20, Try.ntmps20
  go_wp2_with fail
  refine (had _).mono ?_
  rintro e w1 ⟨rfl, hb1⟩
  replace BZ := BZ.step hb1
  replace hb := hb.trans (hb1.mono hb.size)
  have cz := BZ.cell
  have fz := BZ.free
  have lz := BZ.lt
  go_wp2_with fail
  refine bodyPost_ret (v := .tuple #[.agg #[.int .i64 (rS).lo, .int .i64 (rS).hi], .int .i64 (rE)]) (by simp only [results, Try.results20]; go_simp; first | done | rfl) rfl ⟨rfl, ?_⟩
  repeat (first | (with_reducible exact Below.refl _ _) | (with_reducible assumption) | (with_reducible refine Below.drew ?_) | ((with_reducible refine Below.alloc ?_ ?_ _); rotate_left; (first | (with_reducible exact Nat.zero_le _) | (with_reducible exact Nat.le_refl _) | omega | (dsimp only; omega) | (simp only [World.size_alloc, World.size_setCell, World.size_drew]; omega))) | ((with_reducible refine Below.setCell ?_ ?_ _); rotate_left; (first | (with_reducible exact Nat.zero_le _) | (with_reducible exact Nat.le_refl _) | omega | (dsimp only; omega) | (simp only [World.size_alloc, World.size_setCell, World.size_drew]; omega))))

end Go.Proofs.Ytpclhjkamplmbaa
