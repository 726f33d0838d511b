/- Contracts: valid intervals, results, ends of intervals. -/
import Derived.Test.YtpjdoopcjdbefaaProg
import Derived.Test.YtpjdoopcjdbefaaSpanK
import Derived.Test.YtpjdoopcjdbefaaArgs
import Derived.Test.YtpjdoopcjdbefaaTy
namespace Go.Proofs.Ytpjdoopcjdbefaa
set_option linter.unusedVariables false
set_option linter.unusedSimpArgs false
open Go.RowKit

def encP (s : Sp) : List Value := [.int .i64 s.lo, .int .i64 s.hi]
theorem encP_len (s : Sp) : (encP s).length = 2 := rfl

theorem valid1_any (s : Sp) (w : World) : Calls Try.prog 54 #[.agg #[.int .i64 (s).lo, .int .i64 (s).hi]] w fun e w' => e = .returned (.bool (sval s)) ∧ Below w.heap.size w w' := by
  rcases sval_cases s with ⟨h, hc⟩ | ⟨h, h1, h2, h3⟩
  · rw [h]
    clear h
    rcases hc with h1 | ⟨h1, h2⟩ | ⟨h1, h2, h3⟩
    all_goals (
      go_enter Try.func54, Try.ntmps54
      go_wp2_with fail
      go_ret
      refine ⟨by first | rfl | (simp; try omega), ?_⟩
      repeat (first | (with_reducible exact Below.refl _ _) | (with_reducible assumption) | (with_reducible refine Below.drew ?_) | ((with_reducible refine Below.alloc ?_ ?_ _); rotate_left; (first | (with_reducible exact Nat.zero_le _) | (with_reducible exact Nat.le_refl _) | omega | (dsimp only; omega) | (simp only [World.size_alloc, World.size_setCell, World.size_drew]; omega))) | ((with_reducible refine Below.setCell ?_ ?_ _); rotate_left; (first | (with_reducible exact Nat.zero_le _) | (with_reducible exact Nat.le_refl _) | omega | (dsimp only; omega) | (simp only [World.size_alloc, World.size_setCell, World.size_drew]; omega)))))
  · rw [h]
    clear h
    go_enter Try.func54, Try.ntmps54
    go_wp2_with fail
    go_ret
    refine ⟨by first | rfl | (simp; try omega), ?_⟩
    repeat (first | (with_reducible exact Below.refl _ _) | (with_reducible assumption) | (with_reducible refine Below.drew ?_) | ((with_reducible refine Below.alloc ?_ ?_ _); rotate_left; (first | (with_reducible exact Nat.zero_le _) | (with_reducible exact Nat.le_refl _) | omega | (dsimp only; omega) | (simp only [World.size_alloc, World.size_setCell, World.size_drew]; omega))) | ((with_reducible refine Below.setCell ?_ ?_ _); rotate_left; (first | (with_reducible exact Nat.zero_le _) | (with_reducible exact Nat.le_refl _) | omega | (dsimp only; omega) | (simp only [World.size_alloc, World.size_setCell, World.size_drew]; omega))))

def ValRel (w : World) (l : List Sp) (i : Value) (wr : World) : Prop := ∃ k : Nat, k ≤ l.length ∧ i = .int .i64 k ∧ allV (l.take k) = true ∧ Below w.heap.size w wr

set_option maxHeartbeats 1000000 in
theorem valids_any {w : World} {v : Value} {l : List Sp} (hl : RowIn w v 2 encP l) : Calls Try.prog 44 #[v] w fun e w' => e = .returned (.bool (allV l)) ∧ Below w.heap.size w w' := by
  obtain ⟨oa, cap, rfl, hlc1, hlc2, _, hlc⟩ := hl.at_
  unfold maxLen at hlc2
  have HL := Lib.hid hlc
  clear hlc
  go_enter Try.func44, Try.ntmps44
  go_wp2_with fail
  go_loopw [7] (fun i wr => ValRel w l i wr) (fun i _ => (l.length - intOf i).toNat)
  case atStart => exact ⟨0, Nat.zero_le _, rfl, rfl, Below.refl _ _⟩
  case round =>
    obtain ⟨k, hk, rfl, hok, hb⟩ := hrel
    have hwz := hb.size
    by_cases hlt : k < l.length
    · obtain ⟨x, hx⟩ : ∃ x, l[k]? = some x := ⟨_, List.getElem?_eq_getElem hlt⟩
      obtain ⟨lb, lo, ho, hll, hlc⟩ := HL.out (by rintro rfl; simp at hlt)
      rw [ho]
      have hkl : (k : Int) < l.length := by omega
      have q : ∀ j, wr.cell? ⟨lb, j, none⟩ = w.cell? ⟨lb, j, none⟩ := fun j => hb.cell (p := ⟨lb, j, none⟩) hll
      have e0 : World.cell? w ⟨lb, lo + k * 2, none⟩ = some (.int .i64 (x).lo) := hlc k x hx 0 (by omega)
      have e1 : World.cell? w ⟨lb, lo + k * 2 + 1, none⟩ = some (.int .i64 (x).hi) := hlc k x hx 1 (by omega)
      rw [← q] at e0 e1
      clear q
      have hs := allV_take hx
      rw [hok, Bool.true_and] at hs
      have hv := fun w => valid1_any x w
      have hb1 := hb.alloc hwz (.cells #[.int .i64 x.lo, .int .i64 x.hi] 35)
      generalize sval x = b at *
      cases b with
      | false =>
        go_wp2_with fail
        refine (hv _).mono ?_
        rintro e w1 ⟨rfl, hb2⟩
        have hfin : allV l = false := Bool.eq_false_iff.2 fun h => by
          have := allV_le (k := k + 1) h
          rw [hs] at this; cases this
        have HF := Lib.hid hfin
        clear hfin hs
        go_wp2_with fail
        go_ret
        exact ⟨by rw [HF.out]; rfl, hb1.trans (hb2.mono hb1.size)⟩
      | true =>
        have HS := Lib.hid hs
        clear hs
        go_wp2_with fail
        refine (hv _).mono ?_
        rintro e w1 ⟨rfl, hb2⟩
        go_wp2_with fail
        go_roundw
        case rel => exact ⟨k + 1, hlt, by simp, HS.out, hb1.trans (hb2.mono hb1.size)⟩
        case measure => simp [intOf]; omega
    · obtain rfl : k = l.length := by omega
      rw [List.take_length] at hok
      have HF := Lib.hid hok
      clear hok
      go_wp2_with fail
      go_ret
      exact ⟨by rw [HF.out]; rfl, hb⟩

theorem least_any (a b : Int) (w : World) : Calls Try.prog 47 #[.int .i64 a, .int .i64 b] w fun e w' => e = .returned (.int .i64 (mini a b)) ∧ Below w.heap.size w w' := by
  unfold mini
  by_cases h : a ≤ b
  · rw [if_pos h]
    go_enter Try.func47, Try.ntmps47
    go_wp2_with fail
    all_goals (
      go_ret
      refine ⟨?_, Below.refl _ _⟩
      first | rfl | (have : a = b := by omega
                     subst this; rfl))
  · rw [if_neg h]
    go_enter Try.func47, Try.ntmps47
    go_wp2_with fail
    all_goals (
      go_ret
      exact ⟨rfl, Below.refl _ _⟩)

theorem most_any (a b : Int) (w : World) : Calls Try.prog 46 #[.int .i64 a, .int .i64 b] w fun e w' => e = .returned (.int .i64 (maxi a b)) ∧ Below w.heap.size w w' := by
  unfold maxi
  by_cases h : a ≤ b
  · rw [if_pos h]
    go_enter Try.func46, Try.ntmps46
    go_wp2_with fail
    all_goals (
      go_ret
      refine ⟨?_, Below.refl _ _⟩
      first | rfl | (have : a = b := by omega
                     subst this; rfl))
  · rw [if_neg h]
    go_enter Try.func46, Try.ntmps46
    go_wp2_with fail
    all_goals (
      go_ret
      exact ⟨rfl, Below.refl _ _⟩)

end Go.Proofs.Ytpjdoopcjdbefaa
