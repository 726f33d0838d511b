/- Contracts: the reference's Add, Sub. -/
import Derived.Test.YtpclhjkamplmbaaSpanE
import Derived.Test.YtpclhjkamplmbaaSpanH
namespace Go.Proofs.Ytpclhjkamplmbaa
set_option linter.unusedVariables false
set_option linter.unusedSimpArgs false
open Go.RowKit

def raddE (a b : Sp) : Int := if sval a = true ∧ sval b = true then resE ⟨a.lo + b.lo, a.hi + b.hi⟩ else 1
def raddS (a b : Sp) : Sp := if sval a = true ∧ sval b = true then resS ⟨a.lo + b.lo, a.hi + b.hi⟩ else sp0
theorem add_same (a b : Sp) : addE a b = raddE a b ∧ addS a b = raddS a b := by
  have h : allV [a, b] = true ↔ sval a = true ∧ sval b = true := by simp [allV]
  have he : endsV plus plus a [b] = ⟨a.lo + b.lo, a.hi + b.hi⟩ := rfl
  unfold addE addS raddE raddS
  rw [he]
  simp only [h]
  simp

set_option maxHeartbeats 1000000 in
theorem radd_any (a b : Sp) (w : World) : Calls Try.prog 19 #[.agg #[.int .i64 (a).lo, .int .i64 (a).hi], .agg #[.int .i64 (b).lo, .int .i64 (b).hi]] w fun e w' => e = .returned (.tuple #[.agg #[.int .i64 (raddS a b).lo, .int .i64 (raddS a b).hi], .int .i64 (raddE a b)]) ∧ Below w.heap.size w w' := by
  have BA : Blk ((((w.alloc (.cells #[.int .i64 a.lo, .int .i64 a.hi] 23)).alloc (.cells #[.int .i64 b.lo, .int .i64 b.hi] 23)).alloc (.cells #[.int .i64 0, .int .i64 0] 23))) w.heap.size 23 #[.int .i64 a.lo, .int .i64 a.hi] := ((Blk.new w 23 #[.int .i64 a.lo, .int .i64 a.hi]).alloc _).alloc _
  have BB : Blk ((((w.alloc (.cells #[.int .i64 a.lo, .int .i64 a.hi] 23)).alloc (.cells #[.int .i64 b.lo, .int .i64 b.hi] 23)).alloc (.cells #[.int .i64 0, .int .i64 0] 23))) (w.heap.size + 1) 23 #[.int .i64 b.lo, .int .i64 b.hi] := by
    have := (Blk.new (w.alloc (.cells #[.int .i64 a.lo, .int .i64 a.hi] 23)) 23 #[.int .i64 b.lo, .int .i64 b.hi]).alloc (.cells #[.int .i64 0, .int .i64 0] 23)
    simpa using this
  have BZ : Blk ((((w.alloc (.cells #[.int .i64 a.lo, .int .i64 a.hi] 23)).alloc (.cells #[.int .i64 b.lo, .int .i64 b.hi] 23)).alloc (.cells #[.int .i64 0, .int .i64 0] 23))) (w.heap.size + 2) 23 #[.int .i64 0, .int .i64 0] := by
    have := Blk.new ((w.alloc (.cells #[.int .i64 a.lo, .int .i64 a.hi] 23)).alloc (.cells #[.int .i64 b.lo, .int .i64 b.hi] 23)) 23 #[.int .i64 0, .int .i64 0]
    simpa using this
  have hb : Below w.heap.size w ((((w.alloc (.cells #[.int .i64 a.lo, .int .i64 a.hi] 23)).alloc (.cells #[.int .i64 b.lo, .int .i64 b.hi] 23)).alloc (.cells #[.int .i64 0, .int .i64 0] 23))) := by repeat (first | (with_reducible exact Below.refl _ _) | (with_reducible assumption) | (with_reducible refine Below.drew ?_) | ((with_reducible refine Below.alloc ?_ ?_ _); rotate_left; (first | (with_reducible exact Nat.zero_le _) | (with_reducible exact Nat.le_refl _) | omega | (dsimp only; omega) | (simp only [World.size_alloc, World.size_setCell, World.size_drew]; omega))) | ((with_reducible refine Below.setCell ?_ ?_ _); rotate_left; (first | (with_reducible exact Nat.zero_le _) | (with_reducible exact Nat.le_refl _) | omega | (dsimp only; omega) | (simp only [World.size_alloc, World.size_setCell, World.size_drew]; omega))))
  have hE : raddE a b = if sval a = true ∧ sval b = true then resE ⟨a.lo + b.lo, a.hi + b.hi⟩ else 1 := rfl
  have hS : raddS a b = if sval a = true ∧ sval b = true then resS ⟨a.lo + b.lo, a.hi + b.hi⟩ else sp0 := rfl
  have hva := fun w => rvalid_any a w
  have hvb := fun w => rvalid_any b w
  have hre := fun w => rchecked_any ⟨a.lo + b.lo, a.hi + b.hi⟩ w
  have ha := @sval_true a
  have hbb := @sval_true b
  generalize sval a = p at *
  generalize sval b = q at *
  generalize resE ⟨a.lo + b.lo, a.hi + b.hi⟩ = rE at *
  generalize resS ⟨a.lo + b.lo, a.hi + b.hi⟩ = rS at *
  cases p with
  | false =>
    rw [if_neg (by simp)] at hE hS
    rw [hE, hS]
    clear hE hS ha hbb hre hvb
    go_enter Try.func19, Try.ntmps19
    go_wp2_with fail
    refine (hva _).mono ?_
    rintro e w1 ⟨rfl, hb1⟩
    replace BA := BA.step hb1
    replace BB := BB.step hb1
    replace BZ := BZ.step hb1
    replace hb := hb.trans (hb1.mono hb.size)
    have ca := BA.cell
    have la := BA.lt
    have cb := BB.cell
    have lb := BB.lt
    have cz := BZ.cell
    have fz := BZ.free
    have lz := BZ.lt
    go_wp2_with fail
    refine bodyPost_ret (v := .tuple #[.agg #[.int .i64 0, .int .i64 0], .int .i64 1]) (by simp only [results, Try.results19]; go_simp; first | done | rfl) rfl ⟨rfl, ?_⟩
    repeat (first | (with_reducible exact Below.refl _ _) | (with_reducible assumption) | (with_reducible refine Below.drew ?_) | ((with_reducible refine Below.alloc ?_ ?_ _); rotate_left; (first | (with_reducible exact Nat.zero_le _) | (with_reducible exact Nat.le_refl _) | omega | (dsimp only; omega) | (simp only [World.size_alloc, World.size_setCell, World.size_drew]; omega))) | ((with_reducible refine Below.setCell ?_ ?_ _); rotate_left; (first | (with_reducible exact Nat.zero_le _) | (with_reducible exact Nat.le_refl _) | omega | (dsimp only; omega) | (simp only [World.size_alloc, World.size_setCell, World.size_drew]; omega))))
  | true => cases q with
    | false =>
      rw [if_neg (by simp)] at hE hS
      rw [hE, hS]
      clear hE hS ha hbb hre
      go_enter Try.func19, Try.ntmps19
      go_wp2_with fail
      refine (hva _).mono ?_
      rintro e w1 ⟨rfl, hb1⟩
      replace BA := BA.step hb1
      replace BB := BB.step hb1
      replace BZ := BZ.step hb1
      replace hb := hb.trans (hb1.mono hb.size)
      have ca := BA.cell
      have la := BA.lt
      have cb := BB.cell
      have lb := BB.lt
      have cz := BZ.cell
      have fz := BZ.free
      have lz := BZ.lt
      go_wp2_with fail
      clear ca la cb lb cz fz lz
      refine (hvb _).mono ?_
      rintro e w2 ⟨rfl, hb2⟩
      replace BA := BA.step hb2
      replace BB := BB.step hb2
      replace BZ := BZ.step hb2
      replace hb := hb.trans (hb2.mono hb.size)
      have ca := BA.cell
      have la := BA.lt
      have cb := BB.cell
      have lb := BB.lt
      have cz := BZ.cell
      have fz := BZ.free
      have lz := BZ.lt
      go_wp2_with fail
      refine bodyPost_ret (v := .tuple #[.agg #[.int .i64 0, .int .i64 0], .int .i64 1]) (by simp only [results, Try.results19]; go_simp; first | done | rfl) rfl ⟨rfl, ?_⟩
      repeat (first | (with_reducible exact Below.refl _ _) | (with_reducible assumption) | (with_reducible refine Below.drew ?_) | ((with_reducible refine Below.alloc ?_ ?_ _); rotate_left; (first | (with_reducible exact Nat.zero_le _) | (with_reducible exact Nat.le_refl _) | omega | (dsimp only; omega) | (simp only [World.size_alloc, World.size_setCell, World.size_drew]; omega))) | ((with_reducible refine Below.setCell ?_ ?_ _); rotate_left; (first | (with_reducible exact Nat.zero_le _) | (with_reducible exact Nat.le_refl _) | omega | (dsimp only; omega) | (simp only [World.size_alloc, World.size_setCell, World.size_drew]; omega))))
    | true =>
      rw [if_pos ⟨rfl, rfl⟩] at hE hS
      rw [hE, hS]
      obtain ⟨a1, a2, a3⟩ := ha rfl
      obtain ⟨b1, b2, b3⟩ := hbb rfl
      clear hE hS ha hbb
      go_enter Try.func19, Try.ntmps19
      go_wp2_with fail
      refine (hva _).mono ?_
      rintro e w1 ⟨rfl, hb1⟩
      replace BA := BA.step hb1
      replace BB := BB.step hb1
      replace BZ := BZ.step hb1
      replace hb := hb.trans (hb1.mono hb.size)
      have ca := BA.cell
      have la := BA.lt
      have cb := BB.cell
      have lb := BB.lt
      have cz := BZ.cell
      have fz := BZ.free
      have lz := BZ.lt
      go_wp2_with fail
      clear ca la cb lb cz fz lz
      refine (hvb _).mono ?_
      rintro e w2 ⟨rfl, hb2⟩
      replace BA := BA.step hb2
      replace BB := BB.step hb2
      replace BZ := BZ.step hb2
      replace hb := hb.trans (hb2.mono hb.size)
      have ca := BA.cell
      have la := BA.lt
      have cb := BB.cell
      have lb := BB.lt
      have cz := BZ.cell
      have fz := BZ.free
      have lz := BZ.lt
      go_wp2_with fail
      clear ca la cb lb cz fz lz
      refine (hre _).mono ?_
      rintro e w3 ⟨rfl, hb3⟩
      replace BA := BA.step hb3
      replace BB := BB.step hb3
      replace BZ := BZ.step hb3
      replace hb := hb.trans (hb3.mono hb.size)
      have ca := BA.cell
      have la := BA.lt
      have cb := BB.cell
      have lb := BB.lt
      have cz := BZ.cell
      have fz := BZ.free
      have lz := BZ.lt
      go_wp2_with fail
      refine bodyPost_ret (v := .tuple #[.agg #[.int .i64 (rS).lo, .int .i64 (rS).hi], .int .i64 (rE)]) (by simp only [results, Try.results19]; go_simp; first | done | rfl) rfl ⟨rfl, ?_⟩
      repeat (first | (with_reducible exact Below.refl _ _) | (with_reducible assumption) | (with_reducible refine Below.drew ?_) | ((with_reducible refine Below.alloc ?_ ?_ _); rotate_left; (first | (with_reducible exact Nat.zero_le _) | (with_reducible exact Nat.le_refl _) | omega | (dsimp only; omega) | (simp only [World.size_alloc, World.size_setCell, World.size_drew]; omega))) | ((with_reducible refine Below.setCell ?_ ?_ _); rotate_left; (first | (with_reducible exact Nat.zero_le _) | (with_reducible exact Nat.le_refl _) | omega | (dsimp only; omega) | (simp only [World.size_alloc, World.size_setCell, World.size_drew]; omega))))

end Go.Proofs.Ytpclhjkamplmbaa
