/- Contracts: kilograms and items of an emptying, in both; equal lists of items. -/
import Derived.Test.YtaidcdcikjbjjaaTariffB
import Derived.Test.YtaidcdcikjbjjaaAppend
import Derived.Deep.RegionHeld3
import Derived.Deep.QuietTactic
import Derived.BigQuiet
namespace Go.Proofs.Ytaidcdcikjbjjaa
set_option linter.unusedVariables false
set_option linter.unusedSimpArgs false
open Go.RowKit

def encI (x : Itm) : List Value := [.int .i64 x.kind, .int .i64 x.ref, .int .i64 x.cnt, .int .i64 x.price, .int .i64 x.amt]
theorem encI_len (t : Itm) : (encI t).length = 5 := rfl

theorem wok_cases (lo hi : Int) : (wok lo hi = false ∧ (lo < 0 ∨ (0 ≤ lo ∧ lo > hi) ∨ (0 ≤ lo ∧ lo ≤ hi ∧ hi > 1073741824))) ∨ (wok lo hi = true ∧ 0 ≤ lo ∧ lo ≤ hi ∧ hi ≤ 1073741824) := by
  have he : wok lo hi = decide (0 ≤ lo ∧ lo ≤ hi ∧ hi ≤ 1073741824) := by rw [Bool.eq_iff_iff]; simp [wok]; omega
  rw [he]
  by_cases h : 0 ≤ lo ∧ lo ≤ hi ∧ hi ≤ 1073741824
  · exact .inr ⟨decide_eq_true h, h⟩
  · exact .inl ⟨decide_eq_false h, by omega⟩

theorem weighed_any (lo hi : Int) (w : World) : Calls Try.prog 26 #[.agg #[.int .i64 lo, .int .i64 hi]] w fun e w' => e = .returned (.bool (wok lo hi)) ∧ Below w.heap.size w w' := by
  rcases wok_cases lo hi with ⟨h, hc⟩ | ⟨h, h1, h2, h3⟩
  · rw [h]
    clear h
    rcases hc with h1 | ⟨h1, h2⟩ | ⟨h1, h2, h3⟩
    all_goals (
      go_enter Try.func26, Try.ntmps26
      go_wp2_with fail
      go_ret
      refine ⟨by first | rfl | (simp; try omega), ?_⟩
      repeat (first | (with_reducible exact Below.refl _ _) | (with_reducible assumption) | (with_reducible refine Below.drew ?_) | ((with_reducible refine Below.alloc ?_ ?_ _); rotate_left; (first | (with_reducible exact Nat.zero_le _) | (with_reducible exact Nat.le_refl _) | omega | (dsimp only; omega) | (simp only [World.size_alloc, World.size_setCell, World.size_drew]; omega))) | ((with_reducible refine Below.setCell ?_ ?_ _); rotate_left; (first | (with_reducible exact Nat.zero_le _) | (with_reducible exact Nat.le_refl _) | omega | (dsimp only; omega) | (simp only [World.size_alloc, World.size_setCell, World.size_drew]; omega)))))
  · rw [h]
    clear h
    go_enter Try.func26, Try.ntmps26
    go_wp2_with fail
    go_ret
    refine ⟨by first | rfl | (simp; try omega), ?_⟩
    repeat (first | (with_reducible exact Below.refl _ _) | (with_reducible assumption) | (with_reducible refine Below.drew ?_) | ((with_reducible refine Below.alloc ?_ ?_ _); rotate_left; (first | (with_reducible exact Nat.zero_le _) | (with_reducible exact Nat.le_refl _) | omega | (dsimp only; omega) | (simp only [World.size_alloc, World.size_setCell, World.size_drew]; omega))) | ((with_reducible refine Below.setCell ?_ ?_ _); rotate_left; (first | (with_reducible exact Nat.zero_le _) | (with_reducible exact Nat.le_refl _) | omega | (dsimp only; omega) | (simp only [World.size_alloc, World.size_setCell, World.size_drew]; omega))))
theorem rmass_any (lo hi : Int) (w : World) : Calls Try.prog 27 #[.agg #[.int .i64 lo, .int .i64 hi]] w fun e w' => e = .returned (.bool (wok lo hi)) ∧ Below w.heap.size w w' := by
  rcases wok_cases lo hi with ⟨h, hc⟩ | ⟨h, h1, h2, h3⟩
  · rw [h]
    clear h
    rcases hc with h1 | ⟨h1, h2⟩ | ⟨h1, h2, h3⟩
    all_goals (
      go_enter Try.func27, Try.ntmps27
      go_wp2_with fail
      go_ret
      refine ⟨by first | rfl | (simp; try omega), ?_⟩
      repeat (first | (with_reducible exact Below.refl _ _) | (with_reducible assumption) | (with_reducible refine Below.drew ?_) | ((with_reducible refine Below.alloc ?_ ?_ _); rotate_left; (first | (with_reducible exact Nat.zero_le _) | (with_reducible exact Nat.le_refl _) | omega | (dsimp only; omega) | (simp only [World.size_alloc, World.size_setCell, World.size_drew]; omega))) | ((with_reducible refine Below.setCell ?_ ?_ _); rotate_left; (first | (with_reducible exact Nat.zero_le _) | (with_reducible exact Nat.le_refl _) | omega | (dsimp only; omega) | (simp only [World.size_alloc, World.size_setCell, World.size_drew]; omega)))))
  · rw [h]
    clear h
    go_enter Try.func27, Try.ntmps27
    go_wp2_with fail
    go_ret
    refine ⟨by first | rfl | (simp; try omega), ?_⟩
    repeat (first | (with_reducible exact Below.refl _ _) | (with_reducible assumption) | (with_reducible refine Below.drew ?_) | ((with_reducible refine Below.alloc ?_ ?_ _); rotate_left; (first | (with_reducible exact Nat.zero_le _) | (with_reducible exact Nat.le_refl _) | omega | (dsimp only; omega) | (simp only [World.size_alloc, World.size_setCell, World.size_drew]; omega))) | ((with_reducible refine Below.setCell ?_ ?_ _); rotate_left; (first | (with_reducible exact Nat.zero_le _) | (with_reducible exact Nat.le_refl _) | omega | (dsimp only; omega) | (simp only [World.size_alloc, World.size_setCell, World.size_drew]; omega))))

theorem wV_ok {t : Tf} {lo hi : Int} (h : wE t lo hi = 0) : tuse t = true ∧ wok lo hi = true := by
  unfold wE at h
  split at h
  · assumption
  · omega
theorem tuse_bd {t : Tf} (h : tuse t = true) : 0 ≤ t.base ∧ t.base ≤ 100000 ∧ 0 ≤ t.empty ∧ t.empty ≤ 100000 ∧ 0 ≤ t.kilo ∧ t.kilo ≤ 100000 ∧ 0 ≤ t.free ∧ t.free ≤ 1000 := by
  rw [tuse_eq] at h
  exact of_decide_eq_true h
theorem wok_bd {lo hi : Int} (h : wok lo hi = true) : 0 ≤ lo ∧ lo ≤ hi ∧ hi ≤ 1073741824 := by
  rcases wok_cases lo hi with ⟨h1, _⟩ | ⟨_, h1⟩
  · rw [h] at h1; cases h1
  · exact h1

/-! ### The kilograms -/
set_option maxHeartbeats 1000000 in
theorem weight_any (t : Tf) (lo hi : Int) (w : World) : Calls Try.prog 15 #[.agg (encT (t)).toArray, .agg #[.int .i64 lo, .int .i64 hi]] w fun e w' => e = .returned (.tuple #[.int .i64 (wV t lo hi), .int .i64 (wE t lo hi)]) ∧ Below w.heap.size w w' := by
  have hE : wE t lo hi = if tuse t = true ∧ wok lo hi = true then 0 else 1 := rfl
  have hV : wV t lo hi = if wE t lo hi = 0 then (if lo / 1000 - t.free < 0 then 0 else lo / 1000 - t.free) else 0 := rfl
  have B0 : Blk ((w.alloc (.cells #[.int .i64 t.frm, .int .i64 t.base, .int .i64 t.empty, .int .i64 t.kilo, .int .i64 t.free] 31)).alloc (.cells #[.int .i64 lo, .int .i64 hi] 33)) w.heap.size 31 #[.int .i64 t.frm, .int .i64 t.base, .int .i64 t.empty, .int .i64 t.kilo, .int .i64 t.free] := (Blk.new w 31 #[.int .i64 t.frm, .int .i64 t.base, .int .i64 t.empty, .int .i64 t.kilo, .int .i64 t.free]).alloc _
  have B1 : Blk ((w.alloc (.cells #[.int .i64 t.frm, .int .i64 t.base, .int .i64 t.empty, .int .i64 t.kilo, .int .i64 t.free] 31)).alloc (.cells #[.int .i64 lo, .int .i64 hi] 33)) (w.heap.size + 1) 33 #[.int .i64 lo, .int .i64 hi] := by
    have := Blk.new (w.alloc (.cells #[.int .i64 t.frm, .int .i64 t.base, .int .i64 t.empty, .int .i64 t.kilo, .int .i64 t.free] 31)) 33 #[.int .i64 lo, .int .i64 hi]
    simpa using this
  have hb0 : Below w.heap.size w ((w.alloc (.cells #[.int .i64 t.frm, .int .i64 t.base, .int .i64 t.empty, .int .i64 t.kilo, .int .i64 t.free] 31)).alloc (.cells #[.int .i64 lo, .int .i64 hi] 33)) := by repeat (first | (with_reducible exact Below.refl _ _) | (with_reducible assumption) | (with_reducible refine Below.drew ?_) | ((with_reducible refine Below.alloc ?_ ?_ _); rotate_left; (first | (with_reducible exact Nat.zero_le _) | (with_reducible exact Nat.le_refl _) | omega | (dsimp only; omega) | (simp only [World.size_alloc, World.size_setCell, World.size_drew]; omega))) | ((with_reducible refine Below.setCell ?_ ?_ _); rotate_left; (first | (with_reducible exact Nat.zero_le _) | (with_reducible exact Nat.le_refl _) | omega | (dsimp only; omega) | (simp only [World.size_alloc, World.size_setCell, World.size_drew]; omega))))
  have hu := fun w => usable_any t w
  have hm := fun w => weighed_any lo hi w
  have hub := @tuse_bd t
  have hmb := @wok_bd lo hi
  unfold encT at *
  generalize tuse t = b1 at *
  cases b1 with
  | false =>
    rw [if_neg (by simp)] at hE
    rw [hE, if_neg (by omega)] at hV
    rw [hV, hE]
    clear hV hE hub hmb
    go_enter Try.func15, Try.ntmps15
    go_wp2_with fail
    refine (hu _).mono ?_
    rintro e w1 ⟨rfl, hb1⟩
    go_wp2_with fail
    go_ret2
    exact ⟨rfl, hb0.trans (hb1.mono hb0.size)⟩
  | true =>
    generalize wok lo hi = b2 at *
    cases b2 with
    | false =>
      rw [if_neg (by simp)] at hE
      rw [hE, if_neg (by omega)] at hV
      rw [hV, hE]
      clear hV hE hub hmb
      go_enter Try.func15, Try.ntmps15
      go_wp2_with fail
      refine (hu _).mono ?_
      rintro e w1 ⟨rfl, hb1⟩
      replace B1 := B1.step hb1
      replace hb0 := hb0.trans (hb1.mono hb0.size)
      have c1 := B1.cell
      have l1 := B1.lt
      go_wp2_with fail
      refine (hm _).mono ?_
      rintro e w2 ⟨rfl, hb2⟩
      clear c1 l1
      go_wp2_with fail
      go_ret2
      exact ⟨rfl, hb0.trans (hb2.mono hb0.size)⟩
    | true =>
      rw [if_pos ⟨rfl, rfl⟩] at hE
      rw [hE, if_pos rfl] at hV
      obtain ⟨h1, h2, h3, h4, h5, h6, h7, h8⟩ := hub rfl
      obtain ⟨g1, g2, g3⟩ := hmb rfl
      rw [hE]
      have HV := Lib.hid hV
      clear hV hE hub hmb
      go_enter Try.func15, Try.ntmps15
      go_wp2_with fail
      refine (hu _).mono ?_
      rintro e w1 ⟨rfl, hb1⟩
      replace B0 := B0.step hb1
      replace B1 := B1.step hb1
      replace hb0 := hb0.trans (hb1.mono hb0.size)
      have c1 := B1.cell
      have l1 := B1.lt
      go_wp2_with fail
      refine (hm _).mono ?_
      rintro e w2 ⟨rfl, hb2⟩
      replace B0 := B0.step hb2
      replace B1 := B1.step hb2
      replace hb0 := hb0.trans (hb2.mono hb0.size)
      clear c1 l1
      have c0 := B0.cell
      have l0 := B0.lt
      have c1 := B1.cell
      have l1 := B1.lt
      by_cases hn : lo / 1000 - t.free < 0
      · go_wp2_with fail
        go_ret2
        refine ⟨?_, hb0⟩
        rw [HV.out, if_pos hn]
        first | rfl | (simp; try omega)
      · go_wp2_with fail
        all_goals (
          go_ret2
          refine ⟨?_, hb0⟩
          rw [HV.out, if_neg (show ¬ lo / 1000 - t.free < 0 by omega)]
          first | rfl | (rw [show lo / 1000 - t.free = 0 by omega]; rfl))
set_option maxHeartbeats 1000000 in
theorem rweight_any (t : Tf) (lo hi : Int) (w : World) : Calls Try.prog 16 #[.agg (encT (t)).toArray, .agg #[.int .i64 lo, .int .i64 hi]] w fun e w' => e = .returned (.tuple #[.int .i64 (wV t lo hi), .int .i64 (wE t lo hi)]) ∧ Below w.heap.size w w' := by
  have hE : wE t lo hi = if tuse t = true ∧ wok lo hi = true then 0 else 1 := rfl
  have hV : wV t lo hi = if wE t lo hi = 0 then (if lo / 1000 - t.free < 0 then 0 else lo / 1000 - t.free) else 0 := rfl
  have B0 : Blk ((w.alloc (.cells #[.int .i64 t.frm, .int .i64 t.base, .int .i64 t.empty, .int .i64 t.kilo, .int .i64 t.free] 31)).alloc (.cells #[.int .i64 lo, .int .i64 hi] 33)) w.heap.size 31 #[.int .i64 t.frm, .int .i64 t.base, .int .i64 t.empty, .int .i64 t.kilo, .int .i64 t.free] := (Blk.new w 31 #[.int .i64 t.frm, .int .i64 t.base, .int .i64 t.empty, .int .i64 t.kilo, .int .i64 t.free]).alloc _
  have B1 : Blk ((w.alloc (.cells #[.int .i64 t.frm, .int .i64 t.base, .int .i64 t.empty, .int .i64 t.kilo, .int .i64 t.free] 31)).alloc (.cells #[.int .i64 lo, .int .i64 hi] 33)) (w.heap.size + 1) 33 #[.int .i64 lo, .int .i64 hi] := by
    have := Blk.new (w.alloc (.cells #[.int .i64 t.frm, .int .i64 t.base, .int .i64 t.empty, .int .i64 t.kilo, .int .i64 t.free] 31)) 33 #[.int .i64 lo, .int .i64 hi]
    simpa using this
  have hb0 : Below w.heap.size w ((w.alloc (.cells #[.int .i64 t.frm, .int .i64 t.base, .int .i64 t.empty, .int .i64 t.kilo, .int .i64 t.free] 31)).alloc (.cells #[.int .i64 lo, .int .i64 hi] 33)) := by repeat (first | (with_reducible exact Below.refl _ _) | (with_reducible assumption) | (with_reducible refine Below.drew ?_) | ((with_reducible refine Below.alloc ?_ ?_ _); rotate_left; (first | (with_reducible exact Nat.zero_le _) | (with_reducible exact Nat.le_refl _) | omega | (dsimp only; omega) | (simp only [World.size_alloc, World.size_setCell, World.size_drew]; omega))) | ((with_reducible refine Below.setCell ?_ ?_ _); rotate_left; (first | (with_reducible exact Nat.zero_le _) | (with_reducible exact Nat.le_refl _) | omega | (dsimp only; omega) | (simp only [World.size_alloc, World.size_setCell, World.size_drew]; omega))))
  have hu := fun w => rusable_any t w
  have hm := fun w => rmass_any lo hi w
  have hub := @tuse_bd t
  have hmb := @wok_bd lo hi
  unfold encT at *
  generalize tuse t = b1 at *
  cases b1 with
  | false =>
    rw [if_neg (by simp)] at hE
    rw [hE, if_neg (by omega)] at hV
    rw [hV, hE]
    clear hV hE hub hmb
    go_enter Try.func16, Try.ntmps16
    go_wp2_with fail
    refine (hu _).mono ?_
    rintro e w1 ⟨rfl, hb1⟩
    go_wp2_with fail
    go_ret2
    exact ⟨rfl, hb0.trans (hb1.mono hb0.size)⟩
  | true =>
    generalize wok lo hi = b2 at *
    cases b2 with
    | false =>
      rw [if_neg (by simp)] at hE
      rw [hE, if_neg (by omega)] at hV
      rw [hV, hE]
      clear hV hE hub hmb
      go_enter Try.func16, Try.ntmps16
      go_wp2_with fail
      refine (hu _).mono ?_
      rintro e w1 ⟨rfl, hb1⟩
      replace B1 := B1.step hb1
      replace hb0 := hb0.trans (hb1.mono hb0.size)
      have c1 := B1.cell
      have l1 := B1.lt
      go_wp2_with fail
      refine (hm _).mono ?_
      rintro e w2 ⟨rfl, hb2⟩
      clear c1 l1
      go_wp2_with fail
      go_ret2
      exact ⟨rfl, hb0.trans (hb2.mono hb0.size)⟩
    | true =>
      rw [if_pos ⟨rfl, rfl⟩] at hE
      rw [hE, if_pos rfl] at hV
      obtain ⟨h1, h2, h3, h4, h5, h6, h7, h8⟩ := hub rfl
      obtain ⟨g1, g2, g3⟩ := hmb rfl
      rw [hE]
      have HV := Lib.hid hV
      clear hV hE hub hmb
      go_enter Try.func16, Try.ntmps16
      go_wp2_with fail
      refine (hu _).mono ?_
      rintro e w1 ⟨rfl, hb1⟩
      replace B0 := B0.step hb1
      replace B1 := B1.step hb1
      replace hb0 := hb0.trans (hb1.mono hb0.size)
      have c1 := B1.cell
      have l1 := B1.lt
      go_wp2_with fail
      refine (hm _).mono ?_
      rintro e w2 ⟨rfl, hb2⟩
      replace B0 := B0.step hb2
      replace B1 := B1.step hb2
      replace hb0 := hb0.trans (hb2.mono hb0.size)
      clear c1 l1
      have c0 := B0.cell
      have l0 := B0.lt
      have c1 := B1.cell
      have l1 := B1.lt
      by_cases hn : lo / 1000 - t.free < 0
      · go_wp2_with fail
        go_ret2
        refine ⟨?_, hb0⟩
        rw [HV.out, if_pos hn]
        first | rfl | (simp; try omega)
      · go_wp2_with fail
        all_goals (
          go_ret2
          refine ⟨?_, hb0⟩
          rw [HV.out, if_neg (show ¬ lo / 1000 - t.free < 0 by omega)]
          first | rfl | (rw [show lo / 1000 - t.free = 0 by omega]; rfl))

end Go.Proofs.Ytaidcdcikjbjjaa
