/- The example of all laws of balances. -/
import Derived.Test.YthaoclocachbaaaBalJ
import Derived.Test.YthaoclocachbaaaBalC
namespace Go.Proofs.Ythaoclocachbaaa
set_option linter.unusedVariables false
set_option linter.unusedSimpArgs false
open Go.RowKit

theorem RowIn.of_blk {α : Type} {w : World} {g : Nat} {e : TypeId} {C : Nat} {cs : Array Value} {f : α → List Value} {l : List α} (hf : ∀ a, (f a).length = C) (h : Blk w g e cs) (hc : cs.toList = l.flatMap f) (hm : l.length ≤ maxLen) :
    RowIn w (.slice (some ⟨g, 0, none⟩) l.length l.length) C f l := by
  have hl : (l.flatMap f).length = l.length * C := rowOf_length hf l
  have hs : cs.size = l.length * C := by rw [← hl, ← hc]; simp
  refine RowIn.of_own (base := 0) (e := e) hf ⟨hl, .inr ⟨g, l.length, cs, rfl, Nat.zero_le _, h, Nat.le_refl _, hm, hs, ?_⟩⟩
  rw [hc, List.take_of_length_le (by omega)]

def exO : List Sp := [⟨10, 20⟩, ⟨0, 0⟩]
def exL : List Tr := [⟨0, 1, ⟨5, 6⟩⟩]
def exC : List Sp := [⟨0, 4⟩, ⟨0, 100⟩]
theorem ex_assign {ms : List Int} (h : holdsB 2 exO exL exC ms = true) : ms = [10, 0, 6] := by
  unfold holdsB at h
  simp only [Bool.and_eq_true, decide_eq_true_eq] at h
  obtain ⟨_, hl, h1, h2, h3⟩ := h
  have hl' : ms.length = 3 := by simp [exL] at hl; omega
  obtain ⟨a, b, c, rfl⟩ : ∃ a b c, ms = [a, b, c] := len3 hl'
  simp [openIn, movesIn, closeIn, exO, exL, exC, List.range_succ, hasV, sval, nodeM, mstep] at h1 h2 h3
  have : a = 10 := by omega
  have : b = 0 := by omega
  have : c = 6 := by omega
  subst_vars
  rfl

set_option maxRecDepth 100000 in
set_option maxHeartbeats 8000000 in
theorem example_any (w : World) : Calls Try.prog 16 #[] w fun e w' => e = .returned (.bool true) ∧ Below w.heap.size w w' := by
  have f1 : stkE 2 exO exL = 0 := by decide +kernel
  have f2 : stkV 2 exO exL = [⟨4, 15⟩, ⟨5, 6⟩] := by decide +kernel
  have f3 : tightE 2 exO exL exC = 0 := by decide +kernel
  have hs := fun w vo vl ho hl => stock_any (w := w) (vo := vo) (vl := vl) 2 (o := exO) (l := exL) ho hl
  rw [f1, f2] at hs
  have F3 := Lib.hid f3
  have HS := Lib.hid hs
  clear f1 f2 f3 hs
  have hb : Below w.heap.size w ((w.alloc (.cells #[.int .i64 10, .int .i64 20, .int .i64 0, .int .i64 0] 41)).alloc (.cells #[.int .i64 0, .int .i64 1, .int .i64 5, .int .i64 6] 43)) := by repeat (first | (with_reducible exact Below.refl _ _) | (with_reducible assumption) | (with_reducible refine Below.drew ?_) | ((with_reducible refine Below.alloc ?_ ?_ _); rotate_left; (first | (with_reducible exact Nat.zero_le _) | (with_reducible exact Nat.le_refl _) | omega | (dsimp only; omega) | (simp only [World.size_alloc, World.size_setCell, World.size_drew]; omega))) | ((with_reducible refine Below.setCell ?_ ?_ _); rotate_left; (first | (with_reducible exact Nat.zero_le _) | (with_reducible exact Nat.le_refl _) | omega | (dsimp only; omega) | (simp only [World.size_alloc, World.size_setCell, World.size_drew]; omega))))
  have BO := (Blk.new w 41 #[.int .i64 10, .int .i64 20, .int .i64 0, .int .i64 0]).alloc (.cells #[.int .i64 0, .int .i64 1, .int .i64 5, .int .i64 6] 43)
  have BL := Blk.new (w.alloc (.cells #[.int .i64 10, .int .i64 20, .int .i64 0, .int .i64 0] 41)) 43 #[.int .i64 0, .int .i64 1, .int .i64 5, .int .i64 6]
  rw [World.size_alloc] at BL
  go_enter Try.func16, Try.ntmps16
  go_wp2_with fail
  have ho : RowIn _ (.slice (some ⟨w.heap.size, 0, none⟩) 2 2) 2 encP exO := RowIn.of_blk (l := exO) encP_len BO rfl (by decide)
  have hl : RowIn _ (.slice (some ⟨w.heap.size + 1, 0, none⟩) 1 1) 4 encR exL := RowIn.of_blk (l := exL) encR_len BL rfl (by decide)
  refine (HS.out _ _ _ ho hl).mono ?_
  rintro e w1 ⟨v, rfl, hr, hb1⟩
  replace hb := hb.trans (hb1.mono hb.size)
  replace ho := ho.step hb1
  replace hl := hl.step hb1
  have hs1 := hb.size
  replace hb := hb.alloc hs1 (.cells #[.int .i64 0, .int .i64 4, .int .i64 0, .int .i64 100] 41)
  have BC := Blk.new w1 41 #[.int .i64 0, .int .i64 4, .int .i64 0, .int .i64 100]
  have ha := Below.alloc (Below.refl w1.heap.size w1) (Nat.le_refl _) (.cells #[.int .i64 0, .int .i64 4, .int .i64 0, .int .i64 100] 41)
  replace ho := ho.step ha
  replace hl := hl.step ha
  replace hr := hr.step ha
  go_wp2_with fail
  have hc : RowIn _ (.slice (some ⟨w1.heap.size, 0, none⟩) 2 2) 2 encP exC := RowIn.of_blk (l := exC) encP_len BC rfl (by decide)
  refine (assign_any 2 ho hl hc).mono ?_
  rintro e w2 ⟨hb2, vm, ms, rfl, hm, _, hh⟩
  rw [F3.out]
  have hms := ex_assign (hh F3.out)
  subst hms
  replace hb := hb.trans (hb2.mono hb.size)
  replace hr := hr.step hb2
  obtain ⟨ra, cr, hv, r1, r2, _, r5⟩ := hr.at_
  obtain ⟨rb, ro, rfl, rz, rc⟩ := r5 (by simp)
  obtain ⟨ma, cm, hv2, m1, m2, _, m5⟩ := hm.at_
  obtain ⟨mb, mo, rfl, mz, mc⟩ := m5 (by simp)
  subst hv hv2
  have g0 : World.cell? w2 ⟨rb, ro, none⟩ = some (.int .i64 4) := by simpa [encP] using rc 0 _ rfl 0 (by omega)
  have g1 : World.cell? w2 ⟨rb, ro + 1, none⟩ = some (.int .i64 15) := by simpa [encP] using rc 0 _ rfl 1 (by omega)
  have g2 : World.cell? w2 ⟨rb, ro + 2, none⟩ = some (.int .i64 5) := by simpa [encP] using rc 1 _ rfl 0 (by omega)
  have g3 : World.cell? w2 ⟨rb, ro + 3, none⟩ = some (.int .i64 6) := by simpa [encP] using rc 1 _ rfl 1 (by omega)
  have k0 : World.cell? w2 ⟨mb, mo, none⟩ = some (.int .i64 10) := by simpa using mc 0 _ rfl 0 (by omega)
  have k1 : World.cell? w2 ⟨mb, mo + 1, none⟩ = some (.int .i64 0) := by simpa using mc 1 _ rfl 0 (by omega)
  have k2 : World.cell? w2 ⟨mb, mo + 2, none⟩ = some (.int .i64 6) := by simpa using mc 2 _ rfl 0 (by omega)
  clear rc mc r5 m5 hr hm ho hl hc hh
  go_wp2_with fail
  go_ret
  exact ⟨rfl, hb⟩

end Go.Proofs.Ythaoclocachbaaa
