/- Contracts: the reference's Sub; the program's and the reference's differences are the same. -/
import Derived.Test.YtpclhjkamplmbaaSpanI
namespace Go.Proofs.Ytpclhjkamplmbaa
set_option linter.unusedVariables false
set_option linter.unusedSimpArgs false
open Go.RowKit

def rsubE (a b : Sp) : Int := if sval a = true ∧ sval b = true then resE ⟨a.lo - b.hi, a.hi - b.lo⟩ else 1
def rsubS (a b : Sp) : Sp := if sval a = true ∧ sval b = true then resS ⟨a.lo - b.hi, a.hi - b.lo⟩ else sp0
theorem neg_val {b : Sp} (h1 : IntKind.i64.has b.lo) (h2 : IntKind.i64.has b.hi) : sval (negS b) = sval b := by
  have e1 := negW_eq h1
  have e2 := negW_eq h2
  have l1 : -9223372036854775808 ≤ b.lo ∧ b.lo ≤ 9223372036854775807 := h1
  have l2 : -9223372036854775808 ≤ b.hi ∧ b.hi ≤ 9223372036854775807 := h2
  unfold sval negS
  rw [Bool.eq_iff_iff, decide_eq_true_eq, decide_eq_true_eq, e1, e2]
  simp only
  (repeat' split) <;> omega
theorem sub_same {a b : Sp} (h1 : IntKind.i64.has b.lo) (h2 : IntKind.i64.has b.hi) : addE a (negS b) = rsubE a b ∧ addS a (negS b) = rsubS a b := by
  have hv := neg_val h1 h2
  obtain ⟨g1, g2⟩ := add_same a (negS b)
  rw [g1, g2]
  unfold raddE raddS rsubE rsubS
  rw [hv]
  by_cases h : sval a = true ∧ sval b = true
  · obtain ⟨b1, b2, b3⟩ := sval_true h.2
    have e1 : negW b.lo = -b.lo := by rw [negW_eq h1, if_neg (by omega)]
    have e2 : negW b.hi = -b.hi := by rw [negW_eq h2, if_neg (by omega)]
    rw [if_pos h, if_pos h, if_pos h, if_pos h]
    unfold negS
    rw [e1, e2]
    exact ⟨rfl, rfl⟩
  · rw [if_neg h, if_neg h, if_neg h, if_neg h]
    exact ⟨rfl, rfl⟩

set_option maxHeartbeats 1000000 in
theorem rsub_any (a b : Sp) (w : World) : Calls Try.prog 21 #[.agg #[.int .i64 (a).lo, .int .i64 (a).hi], .agg #[.int .i64 (b).lo, .int .i64 (b).hi]] w fun e w' => e = .returned (.tuple #[.agg #[.int .i64 (rsubS a b).lo, .int .i64 (rsubS a b).hi], .int .i64 (rsubE a b)]) ∧ Below w.heap.size w w' := by
  have BA : Blk ((((w.alloc (.cells #[.int .i64 a.lo, .int .i64 a.hi] 23)).alloc (.cells #[.int .i64 b.lo, .int .i64 b.hi] 23)).alloc (.cells #[.int .i64 0, .int .i64 0] 23))) w.heap.size 23 #[.int .i64 a.lo, .int .i64 a.hi] := ((Blk.new w 23 #[.int .i64 a.lo, .int .i64 a.hi]).alloc _).alloc _
  have BB : Blk ((((w.alloc (.cells #[.int .i64 a.lo, .int .i64 a.hi] 23)).alloc (.cells #[.int .i64 b.lo, .int .i64 b.hi] 23)).alloc (.cells #[.int .i64 0, .int .i64 0] 23))) (w.heap.size + 1) 23 #[.int .i64 b.lo, .int .i64 b.hi] := by
    have := (Blk.new (w.alloc (.cells #[.int .i64 a.lo, .int .i64 a.hi] 23)) 23 #[.int .i64 b.lo, .int .i64 b.hi]).alloc (.cells #[.int .i64 0, .int .i64 0] 23)
    simpa using this
  have BZ : Blk ((((w.alloc (.cells #[.int .i64 a.lo, .int .i64 a.hi] 23)).alloc (.cells #[.int .i64 b.lo, .int .i64 b.hi] 23)).alloc (.cells #[.int .i64 0, .int .i64 0] 23))) (w.heap.size + 2) 23 #[.int .i64 0, .int .i64 0] := by
    have := Blk.new ((w.alloc (.cells #[.int .i64 a.lo, .int .i64 a.hi] 23)).alloc (.cells #[.int .i64 b.lo, .int .i64 b.hi] 23)) 23 #[.int .i64 0, .int .i64 0]
    simpa using this
  have hb : Below w.heap.size w ((((w.alloc (.cells #[.int .i64 a.lo, .int .i64 a.hi] 23)).alloc (.cells #[.int .i64 b.lo, .int .i64 b.hi] 23)).alloc (.cells #[.int .i64 0, .int .i64 0] 23))) := by repeat (first | (with_reducible exact Below.refl _ _) | (with_reducible assumption) | (with_reducible refine Below.drew ?_) | ((with_reducible refine Below.alloc ?_ ?_ _); rotate_left; (first | (with_reducible exact Nat.zero_le _) | (with_reducible exact Nat.le_refl _) | omega | (dsimp only; omega) | (simp only [World.size_alloc, World.size_setCell, World.size_drew]; omega))) | ((with_reducible refine Below.setCell ?_ ?_ _); rotate_left; (first | (with_reducible exact Nat.zero_le _) | (with_reducible exact Nat.le_refl _) | omega | (dsimp only; omega) | (simp only [World.size_alloc, World.size_setCell, World.size_drew]; omega))))
  have hE : rsubE a b = if sval a = true ∧ sval b = true then resE ⟨a.lo - b.hi, a.hi - b.lo⟩ else 1 := rfl
  have hS : rsubS a b = if sval a = true ∧ sval b = true then resS ⟨a.lo - b.hi, a.hi - b.lo⟩ else sp0 := rfl
  have hva := fun w => rvalid_any a w
  have hvb := fun w => rvalid_any b w
  have hre := fun w => rchecked_any ⟨a.lo - b.hi, a.hi - b.lo⟩ w
  have ha := @sval_true a
  have hbb := @sval_true b
  generalize sval a = p at *
  generalize sval b = q at *
  generalize resE ⟨a.lo - b.hi, a.hi - b.lo⟩ = rE at *
  generalize resS ⟨a.lo - b.hi, a.hi - b.lo⟩ = rS at *
  cases p with
  | false =>
    rw [if_neg (by simp)] at hE hS
    rw [hE, hS]
    clear hE hS ha hbb hre hvb
    go_enter Try.func21, Try.ntmps21
    go_wp2_with fail
    refine (hva _).mono ?_
    rintro e w1 ⟨rfl, hb1⟩
    replace BA := BA.step hb1
    replace BB := BB.step hb1
    replace BZ := BZ.step hb1
    replace hb := hb.trans (hb1.mono hb.size)
    have ca := BA.cell
    have la := BA.lt
    have cb := BB.cell
    have lb := BB.lt
    have cz := BZ.cell
    have fz := BZ.free
    have lz := BZ.lt
    go_wp2_with fail
    refine bodyPost_ret (v := .tuple #[.agg #[.int .i64 0, .int .i64 0], .int .i64 1]) (by simp only [results, Try.results21]; go_simp; first | done | rfl) rfl ⟨rfl, ?_⟩
    repeat (first | (with_reducible exact Below.refl _ _) | (with_reducible assumption) | (with_reducible refine Below.drew ?_) | ((with_reducible refine Below.alloc ?_ ?_ _); rotate_left; (first | (with_reducible exact Nat.zero_le _) | (with_reducible exact Nat.le_refl _) | omega | (dsimp only; omega) | (simp only [World.size_alloc, World.size_setCell, World.size_drew]; omega))) | ((with_reducible refine Below.setCell ?_ ?_ _); rotate_left; (first | (with_reducible exact Nat.zero_le _) | (with_reducible exact Nat.le_refl _) | omega | (dsimp only; omega) | (simp only [World.size_alloc, World.size_setCell, World.size_drew]; omega))))
  | true => cases q with
    | false =>
      rw [if_neg (by simp)] at hE hS
      rw [hE, hS]
      clear hE hS ha hbb hre
      go_enter Try.func21, Try.ntmps21
      go_wp2_with fail
      refine (hva _).mono ?_
      rintro e w1 ⟨rfl, hb1⟩
      replace BA := BA.step hb1
      replace BB := BB.step hb1
      replace BZ := BZ.step hb1
      replace hb := hb.trans (hb1.mono hb.size)
      have ca := BA.cell
      have la := BA.lt
      have cb := BB.cell
      have lb := BB.lt
      have cz := BZ.cell
      have fz := BZ.free
      have lz := BZ.lt
      go_wp2_with fail
      clear ca la cb lb cz fz lz
      refine (hvb _).mono ?_
      rintro e w2 ⟨rfl, hb2⟩
      replace BA := BA.step hb2
      replace BB := BB.step hb2
      replace BZ := BZ.step hb2
      replace hb := hb.trans (hb2.mono hb.size)
      have ca := BA.cell
      have la := BA.lt
      have cb := BB.cell
      have lb := BB.lt
      have cz := BZ.cell
      have fz := BZ.free
      have lz := BZ.lt
      go_wp2_with fail
      refine bodyPost_ret (v := .tuple #[.agg #[.int .i64 0, .int .i64 0], .int .i64 1]) (by simp only [results, Try.results21]; go_simp; first | done | rfl) rfl ⟨rfl, ?_⟩
      repeat (first | (with_reducible exact Below.refl _ _) | (with_reducible assumption) | (with_reducible refine Below.drew ?_) | ((with_reducible refine Below.alloc ?_ ?_ _); rotate_left; (first | (with_reducible exact Nat.zero_le _) | (with_reducible exact Nat.le_refl _) | omega | (dsimp only; omega) | (simp only [World.size_alloc, World.size_setCell, World.size_drew]; omega))) | ((with_reducible refine Below.setCell ?_ ?_ _); rotate_left; (first | (with_reducible exact Nat.zero_le _) | (with_reducible exact Nat.le_refl _) | omega | (dsimp only; omega) | (simp only [World.size_alloc, World.size_setCell, World.size_drew]; omega))))
    | true =>
      rw [if_pos ⟨rfl, rfl⟩] at hE hS
      rw [hE, hS]
      obtain ⟨a1, a2, a3⟩ := ha rfl
      obtain ⟨b1, b2, b3⟩ := hbb rfl
      clear hE hS ha hbb
      go_enter Try.func21, Try.ntmps21
      go_wp2_with fail
      refine (hva _).mono ?_
      rintro e w1 ⟨rfl, hb1⟩
      replace BA := BA.step hb1
      replace BB := BB.step hb1
      replace BZ := BZ.step hb1
      replace hb := hb.trans (hb1.mono hb.size)
      have ca := BA.cell
      have la := BA.lt
      have cb := BB.cell
      have lb := BB.lt
      have cz := BZ.cell
      have fz := BZ.free
      have lz := BZ.lt
      go_wp2_with fail
      clear ca la cb lb cz fz lz
      refine (hvb _).mono ?_
      rintro e w2 ⟨rfl, hb2⟩
      replace BA := BA.step hb2
      replace BB := BB.step hb2
      replace BZ := BZ.step hb2
      replace hb := hb.trans (hb2.mono hb.size)
      have ca := BA.cell
      have la := BA.lt
      have cb := BB.cell
      have lb := BB.lt
      have cz := BZ.cell
      have fz := BZ.free
      have lz := BZ.lt
      go_wp2_with fail
      clear ca la cb lb cz fz lz
      refine (hre _).mono ?_
      rintro e w3 ⟨rfl, hb3⟩
      replace BA := BA.step hb3
      replace BB := BB.step hb3
      replace BZ := BZ.step hb3
      replace hb := hb.trans (hb3.mono hb.size)
      have ca := BA.cell
      have la := BA.lt
      have cb := BB.cell
      have lb := BB.lt
      have cz := BZ.cell
      have fz := BZ.free
      have lz := BZ.lt
      go_wp2_with fail
      refine bodyPost_ret (v := .tuple #[.agg #[.int .i64 (rS).lo, .int .i64 (rS).hi], .int .i64 (rE)]) (by simp only [results, Try.results21]; go_simp; first | done | rfl) rfl ⟨rfl, ?_⟩
      repeat (first | (with_reducible exact Below.refl _ _) | (with_reducible assumption) | (with_reducible refine Below.drew ?_) | ((with_reducible refine Below.alloc ?_ ?_ _); rotate_left; (first | (with_reducible exact Nat.zero_le _) | (with_reducible exact Nat.le_refl _) | omega | (dsimp only; omega) | (simp only [World.size_alloc, World.size_setCell, World.size_drew]; omega))) | ((with_reducible refine Below.setCell ?_ ?_ _); rotate_left; (first | (with_reducible exact Nat.zero_le _) | (with_reducible exact Nat.le_refl _) | omega | (dsimp only; omega) | (simp only [World.size_alloc, World.size_setCell, World.size_drew]; omega))))

end Go.Proofs.Ytpclhjkamplmbaa
