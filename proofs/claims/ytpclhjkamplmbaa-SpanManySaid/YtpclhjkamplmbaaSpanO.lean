/- Contracts: the reference's Meet and Hull. -/
import Derived.Test.YtpclhjkamplmbaaSpanF
import Derived.Test.YtpclhjkamplmbaaSpanG
namespace Go.Proofs.Ytpclhjkamplmbaa
set_option linter.unusedVariables false
set_option linter.unusedSimpArgs false
open Go.RowKit

theorem mini_pos {a b : Int} (h : a ≤ b) : mini a b = a := if_pos h
theorem mini_neg {a b : Int} (h : b < a) : mini a b = b := if_neg (by omega)
theorem maxi_pos {a b : Int} (h : a ≤ b) : maxi a b = b := if_pos h
theorem maxi_neg {a b : Int} (h : b < a) : maxi a b = a := if_neg (by omega)
def rmS (a b : Sp) : Sp := ⟨maxi a.lo b.lo, mini a.hi b.hi⟩
def rhS (a b : Sp) : Sp := ⟨mini a.lo b.lo, maxi a.hi b.hi⟩
def rmeetE (a b : Sp) : Int := if sval a = true ∧ sval b = true then (if (rmS a b).lo > (rmS a b).hi then 10 else 0) else 1
def rmeetS (a b : Sp) : Sp := if sval a = true ∧ sval b = true then (if (rmS a b).lo > (rmS a b).hi then sp0 else rmS a b) else sp0
def rhullE (a b : Sp) : Int := if sval a = true ∧ sval b = true then 0 else 1
def rhullS (a b : Sp) : Sp := if sval a = true ∧ sval b = true then rhS a b else sp0
theorem meet_same (a b : Sp) : meetE a b = rmeetE a b ∧ meetS a b = rmeetS a b := by
  have h : allV [a, b] = true ↔ sval a = true ∧ sval b = true := by simp [allV]
  have he : endsV maxi mini a [b] = rmS a b := rfl
  unfold meetE meetS rmeetE rmeetS
  rw [he]
  simp only [h]
  by_cases hv : sval a = true ∧ sval b = true
  · rw [if_pos hv, if_pos hv, if_pos hv, if_pos hv]
    by_cases hab : a = b
    · subst hab
      have h1 := sval_true hv.1
      have e : rmS a a = a := by
        cases a; simp [rmS, maxi, mini]
      rw [if_pos rfl, if_pos rfl, e, if_neg (by omega), if_neg (by omega)]
      exact ⟨rfl, rfl⟩
    · rw [if_neg hab, if_neg hab]
      exact ⟨rfl, rfl⟩
  · rw [if_neg hv, if_neg hv, if_neg hv, if_neg hv]
    exact ⟨rfl, rfl⟩
theorem hull_same (a b : Sp) : hullE a b = rhullE a b ∧ hullS a b = rhullS a b := by
  have h : allV [a, b] = true ↔ sval a = true ∧ sval b = true := by simp [allV]
  have he : endsV mini maxi a [b] = rhS a b := rfl
  unfold hullE hullS rhullE rhullS
  rw [he]
  simp only [h]
  simp

set_option maxHeartbeats 2000000 in
theorem rhull_any (a b : Sp) (w : World) : Calls Try.prog 27 #[.agg #[.int .i64 (a).lo, .int .i64 (a).hi], .agg #[.int .i64 (b).lo, .int .i64 (b).hi]] w fun e w' => e = .returned (.tuple #[.agg #[.int .i64 (rhullS a b).lo, .int .i64 (rhullS a b).hi], .int .i64 (rhullE a b)]) ∧ Below w.heap.size w w' := by
  have BA : Blk ((((w.alloc (.cells #[.int .i64 a.lo, .int .i64 a.hi] 23)).alloc (.cells #[.int .i64 b.lo, .int .i64 b.hi] 23)).alloc (.cells #[.int .i64 0, .int .i64 0] 23))) w.heap.size 23 #[.int .i64 a.lo, .int .i64 a.hi] := ((Blk.new w 23 #[.int .i64 a.lo, .int .i64 a.hi]).alloc _).alloc _
  have BB : Blk ((((w.alloc (.cells #[.int .i64 a.lo, .int .i64 a.hi] 23)).alloc (.cells #[.int .i64 b.lo, .int .i64 b.hi] 23)).alloc (.cells #[.int .i64 0, .int .i64 0] 23))) (w.heap.size + 1) 23 #[.int .i64 b.lo, .int .i64 b.hi] := by
    have := (Blk.new (w.alloc (.cells #[.int .i64 a.lo, .int .i64 a.hi] 23)) 23 #[.int .i64 b.lo, .int .i64 b.hi]).alloc (.cells #[.int .i64 0, .int .i64 0] 23)
    simpa using this
  have BZ : Blk ((((w.alloc (.cells #[.int .i64 a.lo, .int .i64 a.hi] 23)).alloc (.cells #[.int .i64 b.lo, .int .i64 b.hi] 23)).alloc (.cells #[.int .i64 0, .int .i64 0] 23))) (w.heap.size + 2) 23 #[.int .i64 0, .int .i64 0] := by
    have := Blk.new ((w.alloc (.cells #[.int .i64 a.lo, .int .i64 a.hi] 23)).alloc (.cells #[.int .i64 b.lo, .int .i64 b.hi] 23)) 23 #[.int .i64 0, .int .i64 0]
    simpa using this
  have hb : Below w.heap.size w ((((w.alloc (.cells #[.int .i64 a.lo, .int .i64 a.hi] 23)).alloc (.cells #[.int .i64 b.lo, .int .i64 b.hi] 23)).alloc (.cells #[.int .i64 0, .int .i64 0] 23))) := by repeat (first | (with_reducible exact Below.refl _ _) | (with_reducible assumption) | (with_reducible refine Below.drew ?_) | ((with_reducible refine Below.alloc ?_ ?_ _); rotate_left; (first | (with_reducible exact Nat.zero_le _) | (with_reducible exact Nat.le_refl _) | omega | (dsimp only; omega) | (simp only [World.size_alloc, World.size_setCell, World.size_drew]; omega))) | ((with_reducible refine Below.setCell ?_ ?_ _); rotate_left; (first | (with_reducible exact Nat.zero_le _) | (with_reducible exact Nat.le_refl _) | omega | (dsimp only; omega) | (simp only [World.size_alloc, World.size_setCell, World.size_drew]; omega))))
  have hva := fun w => rvalid_any a w
  have hvb := fun w => rvalid_any b w
  have hE : ∀ x, rhullE a b = x → rhullE a b = x := fun _ h => h
  unfold rhullE rhullS
  generalize hp : sval a = p at *
  generalize hq : sval b = q at *
  clear hp hq hE
  cases p with
  | false =>
    simp only [Bool.false_eq_true, false_and, and_false, if_false]
    go_enter Try.func27, Try.ntmps27
    go_wp2_with fail
    refine (hva _).mono ?_
    rintro e w1 ⟨rfl, hb1⟩
    replace BA := BA.step hb1
    replace BB := BB.step hb1
    replace BZ := BZ.step hb1
    replace hb := hb.trans (hb1.mono hb.size)
    have ca := BA.cell
    have la := BA.lt
    have cb := BB.cell
    have lb := BB.lt
    have cz := BZ.cell
    have fz := BZ.free
    have lz := BZ.lt
    go_wp2_with fail
    refine bodyPost_ret (v := .tuple #[.agg #[.int .i64 0, .int .i64 0], .int .i64 1]) (by simp only [results, Try.results27]; go_simp; first | done | rfl) rfl ⟨rfl, ?_⟩
    repeat (first | (with_reducible exact Below.refl _ _) | (with_reducible assumption) | (with_reducible refine Below.drew ?_) | ((with_reducible refine Below.alloc ?_ ?_ _); rotate_left; (first | (with_reducible exact Nat.zero_le _) | (with_reducible exact Nat.le_refl _) | omega | (dsimp only; omega) | (simp only [World.size_alloc, World.size_setCell, World.size_drew]; omega))) | ((with_reducible refine Below.setCell ?_ ?_ _); rotate_left; (first | (with_reducible exact Nat.zero_le _) | (with_reducible exact Nat.le_refl _) | omega | (dsimp only; omega) | (simp only [World.size_alloc, World.size_setCell, World.size_drew]; omega))))
  | true => cases q with
    | false =>
      simp only [Bool.false_eq_true, false_and, and_false, if_false]
      skip
      go_enter Try.func27, Try.ntmps27
      go_wp2_with fail
      refine (hva _).mono ?_
      rintro e w1 ⟨rfl, hb1⟩
      replace BA := BA.step hb1
      replace BB := BB.step hb1
      replace BZ := BZ.step hb1
      replace hb := hb.trans (hb1.mono hb.size)
      have ca := BA.cell
      have la := BA.lt
      have cb := BB.cell
      have lb := BB.lt
      have cz := BZ.cell
      have fz := BZ.free
      have lz := BZ.lt
      go_wp2_with fail
      clear ca la cb lb cz fz lz
      refine (hvb _).mono ?_
      rintro e w2 ⟨rfl, hb2⟩
      replace BA := BA.step hb2
      replace BB := BB.step hb2
      replace BZ := BZ.step hb2
      replace hb := hb.trans (hb2.mono hb.size)
      have ca := BA.cell
      have la := BA.lt
      have cb := BB.cell
      have lb := BB.lt
      have cz := BZ.cell
      have fz := BZ.free
      have lz := BZ.lt
      go_wp2_with fail
      refine bodyPost_ret (v := .tuple #[.agg #[.int .i64 0, .int .i64 0], .int .i64 1]) (by simp only [results, Try.results27]; go_simp; first | done | rfl) rfl ⟨rfl, ?_⟩
      repeat (first | (with_reducible exact Below.refl _ _) | (with_reducible assumption) | (with_reducible refine Below.drew ?_) | ((with_reducible refine Below.alloc ?_ ?_ _); rotate_left; (first | (with_reducible exact Nat.zero_le _) | (with_reducible exact Nat.le_refl _) | omega | (dsimp only; omega) | (simp only [World.size_alloc, World.size_setCell, World.size_drew]; omega))) | ((with_reducible refine Below.setCell ?_ ?_ _); rotate_left; (first | (with_reducible exact Nat.zero_le _) | (with_reducible exact Nat.le_refl _) | omega | (dsimp only; omega) | (simp only [World.size_alloc, World.size_setCell, World.size_drew]; omega))))
    | true =>
      simp only [and_self, if_true]
      unfold rhS
      rcases Int.lt_or_le b.lo a.lo with h1 | h1 <;> rcases Int.lt_or_le b.hi a.hi with h2 | h2
      · rw [mini_neg h1, maxi_neg h2]
        skip
        skip
        go_enter Try.func27, Try.ntmps27
        go_wp2_with fail
        refine (hva _).mono ?_
        rintro e w1 ⟨rfl, hb1⟩
        replace BA := BA.step hb1
        replace BB := BB.step hb1
        replace BZ := BZ.step hb1
        replace hb := hb.trans (hb1.mono hb.size)
        have ca := BA.cell
        have la := BA.lt
        have cb := BB.cell
        have lb := BB.lt
        have cz := BZ.cell
        have fz := BZ.free
        have lz := BZ.lt
        go_wp2_with fail
        clear ca la cb lb cz fz lz
        refine (hvb _).mono ?_
        rintro e w2 ⟨rfl, hb2⟩
        replace BA := BA.step hb2
        replace BB := BB.step hb2
        replace BZ := BZ.step hb2
        replace hb := hb.trans (hb2.mono hb.size)
        have ca := BA.cell
        have la := BA.lt
        have cb := BB.cell
        have lb := BB.lt
        have cz := BZ.cell
        have fz := BZ.free
        have lz := BZ.lt
        go_wp2_with fail
        all_goals (
          refine bodyPost_ret (v := .tuple #[.agg #[.int .i64 b.lo, .int .i64 a.hi], .int .i64 0]) (by simp only [results, Try.results27]; go_simp; first | done | rfl | omega) rfl ⟨rfl, ?_⟩
          repeat (first | (with_reducible exact Below.refl _ _) | (with_reducible assumption) | (with_reducible refine Below.drew ?_) | ((with_reducible refine Below.alloc ?_ ?_ _); rotate_left; (first | (with_reducible exact Nat.zero_le _) | (with_reducible exact Nat.le_refl _) | omega | (dsimp only; omega) | (simp only [World.size_alloc, World.size_setCell, World.size_drew]; omega))) | ((with_reducible refine Below.setCell ?_ ?_ _); rotate_left; (first | (with_reducible exact Nat.zero_le _) | (with_reducible exact Nat.le_refl _) | omega | (dsimp only; omega) | (simp only [World.size_alloc, World.size_setCell, World.size_drew]; omega)))))
      · rw [mini_neg h1, maxi_pos h2]
        skip
        skip
        go_enter Try.func27, Try.ntmps27
        go_wp2_with fail
        refine (hva _).mono ?_
        rintro e w1 ⟨rfl, hb1⟩
        replace BA := BA.step hb1
        replace BB := BB.step hb1
        replace BZ := BZ.step hb1
        replace hb := hb.trans (hb1.mono hb.size)
        have ca := BA.cell
        have la := BA.lt
        have cb := BB.cell
        have lb := BB.lt
        have cz := BZ.cell
        have fz := BZ.free
        have lz := BZ.lt
        go_wp2_with fail
        clear ca la cb lb cz fz lz
        refine (hvb _).mono ?_
        rintro e w2 ⟨rfl, hb2⟩
        replace BA := BA.step hb2
        replace BB := BB.step hb2
        replace BZ := BZ.step hb2
        replace hb := hb.trans (hb2.mono hb.size)
        have ca := BA.cell
        have la := BA.lt
        have cb := BB.cell
        have lb := BB.lt
        have cz := BZ.cell
        have fz := BZ.free
        have lz := BZ.lt
        go_wp2_with fail
        all_goals (
          refine bodyPost_ret (v := .tuple #[.agg #[.int .i64 b.lo, .int .i64 b.hi], .int .i64 0]) (by simp only [results, Try.results27]; go_simp; first | done | rfl | omega) rfl ⟨rfl, ?_⟩
          repeat (first | (with_reducible exact Below.refl _ _) | (with_reducible assumption) | (with_reducible refine Below.drew ?_) | ((with_reducible refine Below.alloc ?_ ?_ _); rotate_left; (first | (with_reducible exact Nat.zero_le _) | (with_reducible exact Nat.le_refl _) | omega | (dsimp only; omega) | (simp only [World.size_alloc, World.size_setCell, World.size_drew]; omega))) | ((with_reducible refine Below.setCell ?_ ?_ _); rotate_left; (first | (with_reducible exact Nat.zero_le _) | (with_reducible exact Nat.le_refl _) | omega | (dsimp only; omega) | (simp only [World.size_alloc, World.size_setCell, World.size_drew]; omega)))))
      · rw [mini_pos h1, maxi_neg h2]
        skip
        skip
        go_enter Try.func27, Try.ntmps27
        go_wp2_with fail
        refine (hva _).mono ?_
        rintro e w1 ⟨rfl, hb1⟩
        replace BA := BA.step hb1
        replace BB := BB.step hb1
        replace BZ := BZ.step hb1
        replace hb := hb.trans (hb1.mono hb.size)
        have ca := BA.cell
        have la := BA.lt
        have cb := BB.cell
        have lb := BB.lt
        have cz := BZ.cell
        have fz := BZ.free
        have lz := BZ.lt
        go_wp2_with fail
        clear ca la cb lb cz fz lz
        refine (hvb _).mono ?_
        rintro e w2 ⟨rfl, hb2⟩
        replace BA := BA.step hb2
        replace BB := BB.step hb2
        replace BZ := BZ.step hb2
        replace hb := hb.trans (hb2.mono hb.size)
        have ca := BA.cell
        have la := BA.lt
        have cb := BB.cell
        have lb := BB.lt
        have cz := BZ.cell
        have fz := BZ.free
        have lz := BZ.lt
        go_wp2_with fail
        all_goals (
          refine bodyPost_ret (v := .tuple #[.agg #[.int .i64 a.lo, .int .i64 a.hi], .int .i64 0]) (by simp only [results, Try.results27]; go_simp; first | done | rfl | omega) rfl ⟨rfl, ?_⟩
          repeat (first | (with_reducible exact Below.refl _ _) | (with_reducible assumption) | (with_reducible refine Below.drew ?_) | ((with_reducible refine Below.alloc ?_ ?_ _); rotate_left; (first | (with_reducible exact Nat.zero_le _) | (with_reducible exact Nat.le_refl _) | omega | (dsimp only; omega) | (simp only [World.size_alloc, World.size_setCell, World.size_drew]; omega))) | ((with_reducible refine Below.setCell ?_ ?_ _); rotate_left; (first | (with_reducible exact Nat.zero_le _) | (with_reducible exact Nat.le_refl _) | omega | (dsimp only; omega) | (simp only [World.size_alloc, World.size_setCell, World.size_drew]; omega)))))
      · rw [mini_pos h1, maxi_pos h2]
        skip
        skip
        go_enter Try.func27, Try.ntmps27
        go_wp2_with fail
        refine (hva _).mono ?_
        rintro e w1 ⟨rfl, hb1⟩
        replace BA := BA.step hb1
        replace BB := BB.step hb1
        replace BZ := BZ.step hb1
        replace hb := hb.trans (hb1.mono hb.size)
        have ca := BA.cell
        have la := BA.lt
        have cb := BB.cell
        have lb := BB.lt
        have cz := BZ.cell
        have fz := BZ.free
        have lz := BZ.lt
        go_wp2_with fail
        clear ca la cb lb cz fz lz
        refine (hvb _).mono ?_
        rintro e w2 ⟨rfl, hb2⟩
        replace BA := BA.step hb2
        replace BB := BB.step hb2
        replace BZ := BZ.step hb2
        replace hb := hb.trans (hb2.mono hb.size)
        have ca := BA.cell
        have la := BA.lt
        have cb := BB.cell
        have lb := BB.lt
        have cz := BZ.cell
        have fz := BZ.free
        have lz := BZ.lt
        go_wp2_with fail
        all_goals (
          refine bodyPost_ret (v := .tuple #[.agg #[.int .i64 a.lo, .int .i64 b.hi], .int .i64 0]) (by simp only [results, Try.results27]; go_simp; first | done | rfl | omega) rfl ⟨rfl, ?_⟩
          repeat (first | (with_reducible exact Below.refl _ _) | (with_reducible assumption) | (with_reducible refine Below.drew ?_) | ((with_reducible refine Below.alloc ?_ ?_ _); rotate_left; (first | (with_reducible exact Nat.zero_le _) | (with_reducible exact Nat.le_refl _) | omega | (dsimp only; omega) | (simp only [World.size_alloc, World.size_setCell, World.size_drew]; omega))) | ((with_reducible refine Below.setCell ?_ ?_ _); rotate_left; (first | (with_reducible exact Nat.zero_le _) | (with_reducible exact Nat.le_refl _) | omega | (dsimp only; omega) | (simp only [World.size_alloc, World.size_setCell, World.size_drew]; omega)))))
set_option maxHeartbeats 2000000 in
theorem rmeet_any (a b : Sp) (w : World) : Calls Try.prog 25 #[.agg #[.int .i64 (a).lo, .int .i64 (a).hi], .agg #[.int .i64 (b).lo, .int .i64 (b).hi]] w fun e w' => e = .returned (.tuple #[.agg #[.int .i64 (rmeetS a b).lo, .int .i64 (rmeetS a b).hi], .int .i64 (rmeetE a b)]) ∧ Below w.heap.size w w' := by
  have BA : Blk ((((w.alloc (.cells #[.int .i64 a.lo, .int .i64 a.hi] 23)).alloc (.cells #[.int .i64 b.lo, .int .i64 b.hi] 23)).alloc (.cells #[.int .i64 0, .int .i64 0] 23))) w.heap.size 23 #[.int .i64 a.lo, .int .i64 a.hi] := ((Blk.new w 23 #[.int .i64 a.lo, .int .i64 a.hi]).alloc _).alloc _
  have BB : Blk ((((w.alloc (.cells #[.int .i64 a.lo, .int .i64 a.hi] 23)).alloc (.cells #[.int .i64 b.lo, .int .i64 b.hi] 23)).alloc (.cells #[.int .i64 0, .int .i64 0] 23))) (w.heap.size + 1) 23 #[.int .i64 b.lo, .int .i64 b.hi] := by
    have := (Blk.new (w.alloc (.cells #[.int .i64 a.lo, .int .i64 a.hi] 23)) 23 #[.int .i64 b.lo, .int .i64 b.hi]).alloc (.cells #[.int .i64 0, .int .i64 0] 23)
    simpa using this
  have BZ : Blk ((((w.alloc (.cells #[.int .i64 a.lo, .int .i64 a.hi] 23)).alloc (.cells #[.int .i64 b.lo, .int .i64 b.hi] 23)).alloc (.cells #[.int .i64 0, .int .i64 0] 23))) (w.heap.size + 2) 23 #[.int .i64 0, .int .i64 0] := by
    have := Blk.new ((w.alloc (.cells #[.int .i64 a.lo, .int .i64 a.hi] 23)).alloc (.cells #[.int .i64 b.lo, .int .i64 b.hi] 23)) 23 #[.int .i64 0, .int .i64 0]
    simpa using this
  have hb : Below w.heap.size w ((((w.alloc (.cells #[.int .i64 a.lo, .int .i64 a.hi] 23)).alloc (.cells #[.int .i64 b.lo, .int .i64 b.hi] 23)).alloc (.cells #[.int .i64 0, .int .i64 0] 23))) := by repeat (first | (with_reducible exact Below.refl _ _) | (with_reducible assumption) | (with_reducible refine Below.drew ?_) | ((with_reducible refine Below.alloc ?_ ?_ _); rotate_left; (first | (with_reducible exact Nat.zero_le _) | (with_reducible exact Nat.le_refl _) | omega | (dsimp only; omega) | (simp only [World.size_alloc, World.size_setCell, World.size_drew]; omega))) | ((with_reducible refine Below.setCell ?_ ?_ _); rotate_left; (first | (with_reducible exact Nat.zero_le _) | (with_reducible exact Nat.le_refl _) | omega | (dsimp only; omega) | (simp only [World.size_alloc, World.size_setCell, World.size_drew]; omega))))
  have hva := fun w => rvalid_any a w
  have hvb := fun w => rvalid_any b w
  have hE : ∀ x, rmeetE a b = x → rmeetE a b = x := fun _ h => h
  unfold rmeetE rmeetS
  generalize hp : sval a = p at *
  generalize hq : sval b = q at *
  clear hp hq hE
  cases p with
  | false =>
    simp only [Bool.false_eq_true, false_and, and_false, if_false]
    go_enter Try.func25, Try.ntmps25
    go_wp2_with fail
    refine (hva _).mono ?_
    rintro e w1 ⟨rfl, hb1⟩
    replace BA := BA.step hb1
    replace BB := BB.step hb1
    replace BZ := BZ.step hb1
    replace hb := hb.trans (hb1.mono hb.size)
    have ca := BA.cell
    have la := BA.lt
    have cb := BB.cell
    have lb := BB.lt
    have cz := BZ.cell
    have fz := BZ.free
    have lz := BZ.lt
    go_wp2_with fail
    refine bodyPost_ret (v := .tuple #[.agg #[.int .i64 0, .int .i64 0], .int .i64 1]) (by simp only [results, Try.results25]; go_simp; first | done | rfl) rfl ⟨rfl, ?_⟩
    repeat (first | (with_reducible exact Below.refl _ _) | (with_reducible assumption) | (with_reducible refine Below.drew ?_) | ((with_reducible refine Below.alloc ?_ ?_ _); rotate_left; (first | (with_reducible exact Nat.zero_le _) | (with_reducible exact Nat.le_refl _) | omega | (dsimp only; omega) | (simp only [World.size_alloc, World.size_setCell, World.size_drew]; omega))) | ((with_reducible refine Below.setCell ?_ ?_ _); rotate_left; (first | (with_reducible exact Nat.zero_le _) | (with_reducible exact Nat.le_refl _) | omega | (dsimp only; omega) | (simp only [World.size_alloc, World.size_setCell, World.size_drew]; omega))))
  | true => cases q with
    | false =>
      simp only [Bool.false_eq_true, false_and, and_false, if_false]
      skip
      go_enter Try.func25, Try.ntmps25
      go_wp2_with fail
      refine (hva _).mono ?_
      rintro e w1 ⟨rfl, hb1⟩
      replace BA := BA.step hb1
      replace BB := BB.step hb1
      replace BZ := BZ.step hb1
      replace hb := hb.trans (hb1.mono hb.size)
      have ca := BA.cell
      have la := BA.lt
      have cb := BB.cell
      have lb := BB.lt
      have cz := BZ.cell
      have fz := BZ.free
      have lz := BZ.lt
      go_wp2_with fail
      clear ca la cb lb cz fz lz
      refine (hvb _).mono ?_
      rintro e w2 ⟨rfl, hb2⟩
      replace BA := BA.step hb2
      replace BB := BB.step hb2
      replace BZ := BZ.step hb2
      replace hb := hb.trans (hb2.mono hb.size)
      have ca := BA.cell
      have la := BA.lt
      have cb := BB.cell
      have lb := BB.lt
      have cz := BZ.cell
      have fz := BZ.free
      have lz := BZ.lt
      go_wp2_with fail
      refine bodyPost_ret (v := .tuple #[.agg #[.int .i64 0, .int .i64 0], .int .i64 1]) (by simp only [results, Try.results25]; go_simp; first | done | rfl) rfl ⟨rfl, ?_⟩
      repeat (first | (with_reducible exact Below.refl _ _) | (with_reducible assumption) | (with_reducible refine Below.drew ?_) | ((with_reducible refine Below.alloc ?_ ?_ _); rotate_left; (first | (with_reducible exact Nat.zero_le _) | (with_reducible exact Nat.le_refl _) | omega | (dsimp only; omega) | (simp only [World.size_alloc, World.size_setCell, World.size_drew]; omega))) | ((with_reducible refine Below.setCell ?_ ?_ _); rotate_left; (first | (with_reducible exact Nat.zero_le _) | (with_reducible exact Nat.le_refl _) | omega | (dsimp only; omega) | (simp only [World.size_alloc, World.size_setCell, World.size_drew]; omega))))
    | true =>
      simp only [and_self, if_true]
      unfold rmS
      rcases Int.lt_or_le b.lo a.lo with h1 | h1 <;> rcases Int.lt_or_le b.hi a.hi with h2 | h2
      · rw [maxi_neg h1, mini_neg h2]
        dsimp only
        skip
        by_cases h3 : a.lo > b.hi
        · rw [if_pos h3, if_pos h3]
          skip
          skip
          go_enter Try.func25, Try.ntmps25
          go_wp2_with fail
          refine (hva _).mono ?_
          rintro e w1 ⟨rfl, hb1⟩
          replace BA := BA.step hb1
          replace BB := BB.step hb1
          replace BZ := BZ.step hb1
          replace hb := hb.trans (hb1.mono hb.size)
          have ca := BA.cell
          have la := BA.lt
          have cb := BB.cell
          have lb := BB.lt
          have cz := BZ.cell
          have fz := BZ.free
          have lz := BZ.lt
          go_wp2_with fail
          clear ca la cb lb cz fz lz
          refine (hvb _).mono ?_
          rintro e w2 ⟨rfl, hb2⟩
          replace BA := BA.step hb2
          replace BB := BB.step hb2
          replace BZ := BZ.step hb2
          replace hb := hb.trans (hb2.mono hb.size)
          have ca := BA.cell
          have la := BA.lt
          have cb := BB.cell
          have lb := BB.lt
          have cz := BZ.cell
          have fz := BZ.free
          have lz := BZ.lt
          go_wp2_with fail
          all_goals (
            refine bodyPost_ret (v := .tuple #[.agg #[.int .i64 0, .int .i64 0], .int .i64 10]) (by simp only [results, Try.results25]; go_simp; first | done | rfl | omega) rfl ⟨rfl, ?_⟩
            repeat (first | (with_reducible exact Below.refl _ _) | (with_reducible assumption) | (with_reducible refine Below.drew ?_) | ((with_reducible refine Below.alloc ?_ ?_ _); rotate_left; (first | (with_reducible exact Nat.zero_le _) | (with_reducible exact Nat.le_refl _) | omega | (dsimp only; omega) | (simp only [World.size_alloc, World.size_setCell, World.size_drew]; omega))) | ((with_reducible refine Below.setCell ?_ ?_ _); rotate_left; (first | (with_reducible exact Nat.zero_le _) | (with_reducible exact Nat.le_refl _) | omega | (dsimp only; omega) | (simp only [World.size_alloc, World.size_setCell, World.size_drew]; omega)))))
        · rw [if_neg h3, if_neg h3]
          skip
          skip
          go_enter Try.func25, Try.ntmps25
          go_wp2_with fail
          refine (hva _).mono ?_
          rintro e w1 ⟨rfl, hb1⟩
          replace BA := BA.step hb1
          replace BB := BB.step hb1
          replace BZ := BZ.step hb1
          replace hb := hb.trans (hb1.mono hb.size)
          have ca := BA.cell
          have la := BA.lt
          have cb := BB.cell
          have lb := BB.lt
          have cz := BZ.cell
          have fz := BZ.free
          have lz := BZ.lt
          go_wp2_with fail
          clear ca la cb lb cz fz lz
          refine (hvb _).mono ?_
          rintro e w2 ⟨rfl, hb2⟩
          replace BA := BA.step hb2
          replace BB := BB.step hb2
          replace BZ := BZ.step hb2
          replace hb := hb.trans (hb2.mono hb.size)
          have ca := BA.cell
          have la := BA.lt
          have cb := BB.cell
          have lb := BB.lt
          have cz := BZ.cell
          have fz := BZ.free
          have lz := BZ.lt
          go_wp2_with fail
          all_goals (
            refine bodyPost_ret (v := .tuple #[.agg #[.int .i64 a.lo, .int .i64 b.hi], .int .i64 0]) (by simp only [results, Try.results25]; go_simp; first | done | rfl | omega) rfl ⟨rfl, ?_⟩
            repeat (first | (with_reducible exact Below.refl _ _) | (with_reducible assumption) | (with_reducible refine Below.drew ?_) | ((with_reducible refine Below.alloc ?_ ?_ _); rotate_left; (first | (with_reducible exact Nat.zero_le _) | (with_reducible exact Nat.le_refl _) | omega | (dsimp only; omega) | (simp only [World.size_alloc, World.size_setCell, World.size_drew]; omega))) | ((with_reducible refine Below.setCell ?_ ?_ _); rotate_left; (first | (with_reducible exact Nat.zero_le _) | (with_reducible exact Nat.le_refl _) | omega | (dsimp only; omega) | (simp only [World.size_alloc, World.size_setCell, World.size_drew]; omega)))))
      · rw [maxi_neg h1, mini_pos h2]
        dsimp only
        skip
        by_cases h3 : a.lo > a.hi
        · rw [if_pos h3, if_pos h3]
          skip
          skip
          go_enter Try.func25, Try.ntmps25
          go_wp2_with fail
          refine (hva _).mono ?_
          rintro e w1 ⟨rfl, hb1⟩
          replace BA := BA.step hb1
          replace BB := BB.step hb1
          replace BZ := BZ.step hb1
          replace hb := hb.trans (hb1.mono hb.size)
          have ca := BA.cell
          have la := BA.lt
          have cb := BB.cell
          have lb := BB.lt
          have cz := BZ.cell
          have fz := BZ.free
          have lz := BZ.lt
          go_wp2_with fail
          clear ca la cb lb cz fz lz
          refine (hvb _).mono ?_
          rintro e w2 ⟨rfl, hb2⟩
          replace BA := BA.step hb2
          replace BB := BB.step hb2
          replace BZ := BZ.step hb2
          replace hb := hb.trans (hb2.mono hb.size)
          have ca := BA.cell
          have la := BA.lt
          have cb := BB.cell
          have lb := BB.lt
          have cz := BZ.cell
          have fz := BZ.free
          have lz := BZ.lt
          go_wp2_with fail
          all_goals (
            refine bodyPost_ret (v := .tuple #[.agg #[.int .i64 0, .int .i64 0], .int .i64 10]) (by simp only [results, Try.results25]; go_simp; first | done | rfl | omega) rfl ⟨rfl, ?_⟩
            repeat (first | (with_reducible exact Below.refl _ _) | (with_reducible assumption) | (with_reducible refine Below.drew ?_) | ((with_reducible refine Below.alloc ?_ ?_ _); rotate_left; (first | (with_reducible exact Nat.zero_le _) | (with_reducible exact Nat.le_refl _) | omega | (dsimp only; omega) | (simp only [World.size_alloc, World.size_setCell, World.size_drew]; omega))) | ((with_reducible refine Below.setCell ?_ ?_ _); rotate_left; (first | (with_reducible exact Nat.zero_le _) | (with_reducible exact Nat.le_refl _) | omega | (dsimp only; omega) | (simp only [World.size_alloc, World.size_setCell, World.size_drew]; omega)))))
        · rw [if_neg h3, if_neg h3]
          skip
          skip
          go_enter Try.func25, Try.ntmps25
          go_wp2_with fail
          refine (hva _).mono ?_
          rintro e w1 ⟨rfl, hb1⟩
          replace BA := BA.step hb1
          replace BB := BB.step hb1
          replace BZ := BZ.step hb1
          replace hb := hb.trans (hb1.mono hb.size)
          have ca := BA.cell
          have la := BA.lt
          have cb := BB.cell
          have lb := BB.lt
          have cz := BZ.cell
          have fz := BZ.free
          have lz := BZ.lt
          go_wp2_with fail
          clear ca la cb lb cz fz lz
          refine (hvb _).mono ?_
          rintro e w2 ⟨rfl, hb2⟩
          replace BA := BA.step hb2
          replace BB := BB.step hb2
          replace BZ := BZ.step hb2
          replace hb := hb.trans (hb2.mono hb.size)
          have ca := BA.cell
          have la := BA.lt
          have cb := BB.cell
          have lb := BB.lt
          have cz := BZ.cell
          have fz := BZ.free
          have lz := BZ.lt
          go_wp2_with fail
          all_goals (
            refine bodyPost_ret (v := .tuple #[.agg #[.int .i64 a.lo, .int .i64 a.hi], .int .i64 0]) (by simp only [results, Try.results25]; go_simp; first | done | rfl | omega) rfl ⟨rfl, ?_⟩
            repeat (first | (with_reducible exact Below.refl _ _) | (with_reducible assumption) | (with_reducible refine Below.drew ?_) | ((with_reducible refine Below.alloc ?_ ?_ _); rotate_left; (first | (with_reducible exact Nat.zero_le _) | (with_reducible exact Nat.le_refl _) | omega | (dsimp only; omega) | (simp only [World.size_alloc, World.size_setCell, World.size_drew]; omega))) | ((with_reducible refine Below.setCell ?_ ?_ _); rotate_left; (first | (with_reducible exact Nat.zero_le _) | (with_reducible exact Nat.le_refl _) | omega | (dsimp only; omega) | (simp only [World.size_alloc, World.size_setCell, World.size_drew]; omega)))))
      · rw [maxi_pos h1, mini_neg h2]
        dsimp only
        skip
        by_cases h3 : b.lo > b.hi
        · rw [if_pos h3, if_pos h3]
          skip
          skip
          go_enter Try.func25, Try.ntmps25
          go_wp2_with fail
          refine (hva _).mono ?_
          rintro e w1 ⟨rfl, hb1⟩
          replace BA := BA.step hb1
          replace BB := BB.step hb1
          replace BZ := BZ.step hb1
          replace hb := hb.trans (hb1.mono hb.size)
          have ca := BA.cell
          have la := BA.lt
          have cb := BB.cell
          have lb := BB.lt
          have cz := BZ.cell
          have fz := BZ.free
          have lz := BZ.lt
          go_wp2_with fail
          clear ca la cb lb cz fz lz
          refine (hvb _).mono ?_
          rintro e w2 ⟨rfl, hb2⟩
          replace BA := BA.step hb2
          replace BB := BB.step hb2
          replace BZ := BZ.step hb2
          replace hb := hb.trans (hb2.mono hb.size)
          have ca := BA.cell
          have la := BA.lt
          have cb := BB.cell
          have lb := BB.lt
          have cz := BZ.cell
          have fz := BZ.free
          have lz := BZ.lt
          go_wp2_with fail
          all_goals (
            refine bodyPost_ret (v := .tuple #[.agg #[.int .i64 0, .int .i64 0], .int .i64 10]) (by simp only [results, Try.results25]; go_simp; first | done | rfl | omega) rfl ⟨rfl, ?_⟩
            repeat (first | (with_reducible exact Below.refl _ _) | (with_reducible assumption) | (with_reducible refine Below.drew ?_) | ((with_reducible refine Below.alloc ?_ ?_ _); rotate_left; (first | (with_reducible exact Nat.zero_le _) | (with_reducible exact Nat.le_refl _) | omega | (dsimp only; omega) | (simp only [World.size_alloc, World.size_setCell, World.size_drew]; omega))) | ((with_reducible refine Below.setCell ?_ ?_ _); rotate_left; (first | (with_reducible exact Nat.zero_le _) | (with_reducible exact Nat.le_refl _) | omega | (dsimp only; omega) | (simp only [World.size_alloc, World.size_setCell, World.size_drew]; omega)))))
        · rw [if_neg h3, if_neg h3]
          skip
          skip
          go_enter Try.func25, Try.ntmps25
          go_wp2_with fail
          refine (hva _).mono ?_
          rintro e w1 ⟨rfl, hb1⟩
          replace BA := BA.step hb1
          replace BB := BB.step hb1
          replace BZ := BZ.step hb1
          replace hb := hb.trans (hb1.mono hb.size)
          have ca := BA.cell
          have la := BA.lt
          have cb := BB.cell
          have lb := BB.lt
          have cz := BZ.cell
          have fz := BZ.free
          have lz := BZ.lt
          go_wp2_with fail
          clear ca la cb lb cz fz lz
          refine (hvb _).mono ?_
          rintro e w2 ⟨rfl, hb2⟩
          replace BA := BA.step hb2
          replace BB := BB.step hb2
          replace BZ := BZ.step hb2
          replace hb := hb.trans (hb2.mono hb.size)
          have ca := BA.cell
          have la := BA.lt
          have cb := BB.cell
          have lb := BB.lt
          have cz := BZ.cell
          have fz := BZ.free
          have lz := BZ.lt
          go_wp2_with fail
          all_goals (
            refine bodyPost_ret (v := .tuple #[.agg #[.int .i64 b.lo, .int .i64 b.hi], .int .i64 0]) (by simp only [results, Try.results25]; go_simp; first | done | rfl | omega) rfl ⟨rfl, ?_⟩
            repeat (first | (with_reducible exact Below.refl _ _) | (with_reducible assumption) | (with_reducible refine Below.drew ?_) | ((with_reducible refine Below.alloc ?_ ?_ _); rotate_left; (first | (with_reducible exact Nat.zero_le _) | (with_reducible exact Nat.le_refl _) | omega | (dsimp only; omega) | (simp only [World.size_alloc, World.size_setCell, World.size_drew]; omega))) | ((with_reducible refine Below.setCell ?_ ?_ _); rotate_left; (first | (with_reducible exact Nat.zero_le _) | (with_reducible exact Nat.le_refl _) | omega | (dsimp only; omega) | (simp only [World.size_alloc, World.size_setCell, World.size_drew]; omega)))))
      · rw [maxi_pos h1, mini_pos h2]
        dsimp only
        skip
        by_cases h3 : b.lo > a.hi
        · rw [if_pos h3, if_pos h3]
          skip
          skip
          go_enter Try.func25, Try.ntmps25
          go_wp2_with fail
          refine (hva _).mono ?_
          rintro e w1 ⟨rfl, hb1⟩
          replace BA := BA.step hb1
          replace BB := BB.step hb1
          replace BZ := BZ.step hb1
          replace hb := hb.trans (hb1.mono hb.size)
          have ca := BA.cell
          have la := BA.lt
          have cb := BB.cell
          have lb := BB.lt
          have cz := BZ.cell
          have fz := BZ.free
          have lz := BZ.lt
          go_wp2_with fail
          clear ca la cb lb cz fz lz
          refine (hvb _).mono ?_
          rintro e w2 ⟨rfl, hb2⟩
          replace BA := BA.step hb2
          replace BB := BB.step hb2
          replace BZ := BZ.step hb2
          replace hb := hb.trans (hb2.mono hb.size)
          have ca := BA.cell
          have la := BA.lt
          have cb := BB.cell
          have lb := BB.lt
          have cz := BZ.cell
          have fz := BZ.free
          have lz := BZ.lt
          go_wp2_with fail
          all_goals (
            refine bodyPost_ret (v := .tuple #[.agg #[.int .i64 0, .int .i64 0], .int .i64 10]) (by simp only [results, Try.results25]; go_simp; first | done | rfl | omega) rfl ⟨rfl, ?_⟩
            repeat (first | (with_reducible exact Below.refl _ _) | (with_reducible assumption) | (with_reducible refine Below.drew ?_) | ((with_reducible refine Below.alloc ?_ ?_ _); rotate_left; (first | (with_reducible exact Nat.zero_le _) | (with_reducible exact Nat.le_refl _) | omega | (dsimp only; omega) | (simp only [World.size_alloc, World.size_setCell, World.size_drew]; omega))) | ((with_reducible refine Below.setCell ?_ ?_ _); rotate_left; (first | (with_reducible exact Nat.zero_le _) | (with_reducible exact Nat.le_refl _) | omega | (dsimp only; omega) | (simp only [World.size_alloc, World.size_setCell, World.size_drew]; omega)))))
        · rw [if_neg h3, if_neg h3]
          skip
          skip
          go_enter Try.func25, Try.ntmps25
          go_wp2_with fail
          refine (hva _).mono ?_
          rintro e w1 ⟨rfl, hb1⟩
          replace BA := BA.step hb1
          replace BB := BB.step hb1
          replace BZ := BZ.step hb1
          replace hb := hb.trans (hb1.mono hb.size)
          have ca := BA.cell
          have la := BA.lt
          have cb := BB.cell
          have lb := BB.lt
          have cz := BZ.cell
          have fz := BZ.free
          have lz := BZ.lt
          go_wp2_with fail
          clear ca la cb lb cz fz lz
          refine (hvb _).mono ?_
          rintro e w2 ⟨rfl, hb2⟩
          replace BA := BA.step hb2
          replace BB := BB.step hb2
          replace BZ := BZ.step hb2
          replace hb := hb.trans (hb2.mono hb.size)
          have ca := BA.cell
          have la := BA.lt
          have cb := BB.cell
          have lb := BB.lt
          have cz := BZ.cell
          have fz := BZ.free
          have lz := BZ.lt
          go_wp2_with fail
          all_goals (
            refine bodyPost_ret (v := .tuple #[.agg #[.int .i64 b.lo, .int .i64 a.hi], .int .i64 0]) (by simp only [results, Try.results25]; go_simp; first | done | rfl | omega) rfl ⟨rfl, ?_⟩
            repeat (first | (with_reducible exact Below.refl _ _) | (with_reducible assumption) | (with_reducible refine Below.drew ?_) | ((with_reducible refine Below.alloc ?_ ?_ _); rotate_left; (first | (with_reducible exact Nat.zero_le _) | (with_reducible exact Nat.le_refl _) | omega | (dsimp only; omega) | (simp only [World.size_alloc, World.size_setCell, World.size_drew]; omega))) | ((with_reducible refine Below.setCell ?_ ?_ _); rotate_left; (first | (with_reducible exact Nat.zero_le _) | (with_reducible exact Nat.le_refl _) | omega | (dsimp only; omega) | (simp only [World.size_alloc, World.size_setCell, World.size_drew]; omega)))))

end Go.Proofs.Ytpclhjkamplmbaa
