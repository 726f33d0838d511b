/- The walks of BalanceTighten, BalanceAttained, BalanceStable. -/
import Derived.Test.YthaoclocachbaaaBalX
import Derived.Test.YthaoclocachbaaaBalZ
namespace Go.Proofs.Ythaoclocachbaaa
set_option linter.unusedVariables false
set_option linter.unusedSimpArgs false
open Go.RowKit

set_option maxRecDepth 100000 in
set_option maxHeartbeats 4000000 in
theorem law_tighten {w : World} {vo vl vc : Value} (n : Int) {o : List Sp} {l : List Tr} {c : List Sp} (ho : RowIn w vo 2 encP o) (hl : RowIn w vl 4 encR l) (hc : RowIn w vc 2 encP c) :
    Calls Try.prog 9 #[.agg #[.int .i64 n, vo, vl, vc]] w fun e w' => e = .returned (.bool true) ∧ Below w.heap.size w w' := by
  have hb : Below w.heap.size w (w.alloc (.cells #[.int .i64 n, vo, vl, vc] 25)) := by repeat (first | (with_reducible exact Below.refl _ _) | (with_reducible assumption) | (with_reducible refine Below.drew ?_) | ((with_reducible refine Below.alloc ?_ ?_ _); rotate_left; (first | (with_reducible exact Nat.zero_le _) | (with_reducible exact Nat.le_refl _) | omega | (dsimp only; omega) | (simp only [World.size_alloc, World.size_setCell, World.size_drew]; omega))) | ((with_reducible refine Below.setCell ?_ ?_ _); rotate_left; (first | (with_reducible exact Nat.zero_le _) | (with_reducible exact Nat.le_refl _) | omega | (dsimp only; omega) | (simp only [World.size_alloc, World.size_setCell, World.size_drew]; omega))))
  have BX := Blk.new w 25 #[.int .i64 n, vo, vl, vc]
  have hrt := fun w' (h : Below w.heap.size w w') => rtighten_any (w := w') n (ho.step h) (hl.step h) (hc.step h)
  have ht := fun w' (h : Below w.heap.size w w') => tighten_any (w := w') n (ho.step h) (hl.step h) (hc.step h)
  generalize tightE n o l c = E at *
  generalize tightV n o l c = V at *
  clear ho hl hc
  go_enter Try.func9, Try.ntmps9
  have cx := BX.cell
  have lx := BX.lt
  go_wp2_with fail
  clear cx lx
  refine (hrt _ hb).mono ?_
  rintro e w1 ⟨v1, rfl, hr1, hb1⟩
  replace BX := BX.step hb1
  replace hb := hb.trans (hb1.mono hb.size)
  have cx := BX.cell
  have lx := BX.lt
  go_wp2_with fail
  clear cx lx
  refine (ht _ hb).mono ?_
  rintro e w2 ⟨v2, rfl, hr2, hb2⟩
  replace hr1 := hr1.step hb2
  replace BX := BX.step hb2
  replace hb := hb.trans (hb2.mono hb.size)
  go_wp2_with fail
  refine (same_any hr2 hr1).mono ?_
  rintro e w3 ⟨rfl, hb3⟩
  replace BX := BX.step hb3
  replace hb := hb.trans (hb3.mono hb.size)
  go_wp2_with fail
  refine (example_any _).mono ?_
  rintro e w4 ⟨rfl, hb4⟩
  go_wp2_with fail
  go_ret
  exact ⟨by simp, hb.trans (hb4.mono hb.size)⟩


end Go.Proofs.Ythaoclocachbaaa
