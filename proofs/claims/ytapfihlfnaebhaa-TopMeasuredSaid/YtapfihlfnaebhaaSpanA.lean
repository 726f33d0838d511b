/- Contracts: valid intervals, results, ends of intervals. -/
import Derived.Test.YtapfihlfnaebhaaProg
import Derived.Test.YtapfihlfnaebhaaSpanK
import Derived.Test.YtapfihlfnaebhaaArgs
import Derived.Test.YtapfihlfnaebhaaTy
namespace Go.Proofs.Ytapfihlfnaebhaa
set_option linter.unusedVariables false
set_option linter.unusedSimpArgs false
open Go.RowKit

def encP (s : Sp) : List Value := [.int .i64 s.lo, .int .i64 s.hi]
theorem encP_len (s : Sp) : (encP s).length = 2 := rfl

theorem valid1_any (s : Sp) (w : World) : Calls Try.prog 34 #[.agg #[.int .i64 (s).lo, .int .i64 (s).hi]] w fun e w' => e = .returned (.bool (sval s)) ∧ Below w.heap.size w w' := by
  rcases sval_cases s with ⟨h, hc⟩ | ⟨h, h1, h2, h3⟩
  · rw [h]
    clear h
    rcases hc with h1 | ⟨h1, h2⟩ | ⟨h1, h2, h3⟩
    all_goals (
      go_enter Try.func34, Try.ntmps34
      go_wp2_with fail
      go_ret
      refine ⟨by first | rfl | (simp; try omega), ?_⟩
      repeat (first | (with_reducible exact Below.refl _ _) | (with_reducible assumption) | (with_reducible refine Below.drew ?_) | ((with_reducible refine Below.alloc ?_ ?_ _); rotate_left; (first | (with_reducible exact Nat.zero_le _) | (with_reducible exact Nat.le_refl _) | omega | (dsimp only; omega) | (simp only [World.size_alloc, World.size_setCell, World.size_drew]; omega))) | ((with_reducible refine Below.setCell ?_ ?_ _); rotate_left; (first | (with_reducible exact Nat.zero_le _) | (with_reducible exact Nat.le_refl _) | omega | (dsimp only; omega) | (simp only [World.size_alloc, World.size_setCell, World.size_drew]; omega)))))
  · rw [h]
    clear h
    go_enter Try.func34, Try.ntmps34
    go_wp2_with fail
    go_ret
    refine ⟨by first | rfl | (simp; try omega), ?_⟩
    repeat (first | (with_reducible exact Below.refl _ _) | (with_reducible assumption) | (with_reducible refine Below.drew ?_) | ((with_reducible refine Below.alloc ?_ ?_ _); rotate_left; (first | (with_reducible exact Nat.zero_le _) | (with_reducible exact Nat.le_refl _) | omega | (dsimp only; omega) | (simp only [World.size_alloc, World.size_setCell, World.size_drew]; omega))) | ((with_reducible refine Below.setCell ?_ ?_ _); rotate_left; (first | (with_reducible exact Nat.zero_le _) | (with_reducible exact Nat.le_refl _) | omega | (dsimp only; omega) | (simp only [World.size_alloc, World.size_setCell, World.size_drew]; omega))))


theorem result_any (s : Sp) (w : World) : Calls Try.prog 66 #[.agg #[.int .i64 (s).lo, .int .i64 (s).hi]] w fun e w' => e = .returned (.tuple #[.agg #[.int .i64 (resS s).lo, .int .i64 (resS s).hi], .int .i64 (resE s)]) ∧ Below w.heap.size w w' := by
  have hv := fun w => valid1_any s w
  have B0 := Blk.new w 32 #[.int .i64 s.lo, .int .i64 s.hi]
  have B1 : Blk ((w.alloc (.cells #[.int .i64 s.lo, .int .i64 s.hi] 32)).alloc (.cells #[.int .i64 0, .int .i64 0] 32)) (w.heap.size + 1) 32 #[.int .i64 0, .int .i64 0] := by
    have := Blk.new (w.alloc (.cells #[.int .i64 s.lo, .int .i64 s.hi] 32)) 32 #[.int .i64 0, .int .i64 0]
    simpa using this
  replace B0 := B0.alloc (.cells #[.int .i64 0, .int .i64 0] 32)
  have hb : Below w.heap.size w ((w.alloc (.cells #[.int .i64 s.lo, .int .i64 s.hi] 32)).alloc (.cells #[.int .i64 0, .int .i64 0] 32)) := by repeat (first | (with_reducible exact Below.refl _ _) | (with_reducible assumption) | (with_reducible refine Below.drew ?_) | ((with_reducible refine Below.alloc ?_ ?_ _); rotate_left; (first | (with_reducible exact Nat.zero_le _) | (with_reducible exact Nat.le_refl _) | omega | (dsimp only; omega) | (simp only [World.size_alloc, World.size_setCell, World.size_drew]; omega))) | ((with_reducible refine Below.setCell ?_ ?_ _); rotate_left; (first | (with_reducible exact Nat.zero_le _) | (with_reducible exact Nat.le_refl _) | omega | (dsimp only; omega) | (simp only [World.size_alloc, World.size_setCell, World.size_drew]; omega))))
  have hS : resS s = if sval s = true then s else sp0 := rfl
  have hE : resE s = if sval s = true then 0 else 2 := rfl
  generalize sval s = b at *
  cases b with
  | false =>
    rw [if_neg (by simp)] at hS hE
    rw [hS, hE]
    clear hS hE
    go_enter Try.func66, Try.ntmps66
    go_wp2_with fail
    refine (hv _).mono ?_
    rintro e w1 ⟨rfl, hb1⟩
    replace B1 := B1.step hb1
    replace hb := hb.trans (hb1.mono hb.size)
    have c1 := B1.cell
    have f1 := B1.free
    have l1 := B1.lt
    go_wp2_with fail
    refine bodyPost_ret (v := .tuple #[.agg #[.int .i64 0, .int .i64 0], .int .i64 2]) (by simp only [results, Try.results66]; go_simp; first | done | rfl) rfl ⟨rfl, ?_⟩
    repeat (first | (with_reducible exact Below.refl _ _) | (with_reducible assumption) | (with_reducible refine Below.drew ?_) | ((with_reducible refine Below.alloc ?_ ?_ _); rotate_left; (first | (with_reducible exact Nat.zero_le _) | (with_reducible exact Nat.le_refl _) | omega | (dsimp only; omega) | (simp only [World.size_alloc, World.size_setCell, World.size_drew]; omega))) | ((with_reducible refine Below.setCell ?_ ?_ _); rotate_left; (first | (with_reducible exact Nat.zero_le _) | (with_reducible exact Nat.le_refl _) | omega | (dsimp only; omega) | (simp only [World.size_alloc, World.size_setCell, World.size_drew]; omega))))
  | true =>
    rw [if_pos rfl] at hS hE
    rw [hS, hE]
    clear hS hE
    go_enter Try.func66, Try.ntmps66
    go_wp2_with fail
    refine (hv _).mono ?_
    rintro e w1 ⟨rfl, hb1⟩
    replace B0 := B0.step hb1
    replace B1 := B1.step hb1
    replace hb := hb.trans (hb1.mono hb.size)
    have c0 := B0.cell
    have l0 := B0.lt
    have c1 := B1.cell
    have f1 := B1.free
    have l1 := B1.lt
    go_wp2_with fail
    refine bodyPost_ret (v := .tuple #[.agg #[.int .i64 s.lo, .int .i64 s.hi], .int .i64 0]) (by simp only [results, Try.results66]; go_simp; first | done | rfl) rfl ⟨rfl, ?_⟩
    repeat (first | (with_reducible exact Below.refl _ _) | (with_reducible assumption) | (with_reducible refine Below.drew ?_) | ((with_reducible refine Below.alloc ?_ ?_ _); rotate_left; (first | (with_reducible exact Nat.zero_le _) | (with_reducible exact Nat.le_refl _) | omega | (dsimp only; omega) | (simp only [World.size_alloc, World.size_setCell, World.size_drew]; omega))) | ((with_reducible refine Below.setCell ?_ ?_ _); rotate_left; (first | (with_reducible exact Nat.zero_le _) | (with_reducible exact Nat.le_refl _) | omega | (dsimp only; omega) | (simp only [World.size_alloc, World.size_setCell, World.size_drew]; omega))))

def ValRel (w : World) (l : List Sp) (i : Value) (wr : World) : Prop := ∃ k : Nat, k ≤ l.length ∧ i = .int .i64 k ∧ allV (l.take k) = true ∧ Below w.heap.size w wr

set_option maxHeartbeats 1000000 in
theorem valids_any {w : World} {v : Value} {l : List Sp} (hl : RowIn w v 2 encP l) : Calls Try.prog 65 #[v] w fun e w' => e = .returned (.bool (allV l)) ∧ Below w.heap.size w w' := by
  obtain ⟨oa, cap, rfl, hlc1, hlc2, _, hlc⟩ := hl.at_
  unfold maxLen at hlc2
  have HL := Lib.hid hlc
  clear hlc
  go_enter Try.func65, Try.ntmps65
  go_wp2_with fail
  go_loopw [7] (fun i wr => ValRel w l i wr) (fun i _ => (l.length - intOf i).toNat)
  case atStart => exact ⟨0, Nat.zero_le _, rfl, rfl, Below.refl _ _⟩
  case round =>
    obtain ⟨k, hk, rfl, hok, hb⟩ := hrel
    have hwz := hb.size
    by_cases hlt : k < l.length
    · obtain ⟨x, hx⟩ : ∃ x, l[k]? = some x := ⟨_, List.getElem?_eq_getElem hlt⟩
      obtain ⟨lb, lo, ho, hll, hlc⟩ := HL.out (by rintro rfl; simp at hlt)
      rw [ho]
      have hkl : (k : Int) < l.length := by omega
      have q : ∀ j, wr.cell? ⟨lb, j, none⟩ = w.cell? ⟨lb, j, none⟩ := fun j => hb.cell (p := ⟨lb, j, none⟩) hll
      have e0 : World.cell? w ⟨lb, lo + k * 2, none⟩ = some (.int .i64 (x).lo) := hlc k x hx 0 (by omega)
      have e1 : World.cell? w ⟨lb, lo + k * 2 + 1, none⟩ = some (.int .i64 (x).hi) := hlc k x hx 1 (by omega)
      rw [← q] at e0 e1
      clear q
      have hs := allV_take hx
      rw [hok, Bool.true_and] at hs
      have hv := fun w => valid1_any x w
      have hb1 := hb.alloc hwz (.cells #[.int .i64 x.lo, .int .i64 x.hi] 32)
      generalize sval x = b at *
      cases b with
      | false =>
        go_wp2_with fail
        refine (hv _).mono ?_
        rintro e w1 ⟨rfl, hb2⟩
        have hfin : allV l = false := Bool.eq_false_iff.2 fun h => by
          have := allV_le (k := k + 1) h
          rw [hs] at this; cases this
        have HF := Lib.hid hfin
        clear hfin hs
        go_wp2_with fail
        go_ret
        exact ⟨by rw [HF.out]; rfl, hb1.trans (hb2.mono hb1.size)⟩
      | true =>
        have HS := Lib.hid hs
        clear hs
        go_wp2_with fail
        refine (hv _).mono ?_
        rintro e w1 ⟨rfl, hb2⟩
        go_wp2_with fail
        go_roundw
        case rel => exact ⟨k + 1, hlt, by simp, HS.out, hb1.trans (hb2.mono hb1.size)⟩
        case measure => simp [intOf]; omega
    · obtain rfl : k = l.length := by omega
      rw [List.take_length] at hok
      have HF := Lib.hid hok
      clear hok
      go_wp2_with fail
      go_ret
      exact ⟨by rw [HF.out]; rfl, hb⟩

theorem sum_any (a b : Int) (h1 : -9223372036854775808 ≤ a + b) (h2 : a + b ≤ 9223372036854775807) (w : World) : Calls Try.prog 68 #[.int .i64 a, .int .i64 b] w fun e w' => e = .returned (.int .i64 (plus a b)) ∧ Below w.heap.size w w' := by
  unfold plus
  go_enter Try.func68, Try.ntmps68
  go_wp2_with fail
  go_ret
  exact ⟨rfl, Below.refl _ _⟩

theorem least_any (a b : Int) (w : World) : Calls Try.prog 70 #[.int .i64 a, .int .i64 b] w fun e w' => e = .returned (.int .i64 (mini a b)) ∧ Below w.heap.size w w' := by
  unfold mini
  by_cases h : a ≤ b
  · rw [if_pos h]
    go_enter Try.func70, Try.ntmps70
    go_wp2_with fail
    all_goals (
      go_ret
      refine ⟨?_, Below.refl _ _⟩
      first | rfl | (have : a = b := by omega
                     subst this; rfl))
  · rw [if_neg h]
    go_enter Try.func70, Try.ntmps70
    go_wp2_with fail
    all_goals (
      go_ret
      exact ⟨rfl, Below.refl _ _⟩)

theorem most_any (a b : Int) (w : World) : Calls Try.prog 69 #[.int .i64 a, .int .i64 b] w fun e w' => e = .returned (.int .i64 (maxi a b)) ∧ Below w.heap.size w w' := by
  unfold maxi
  by_cases h : a ≤ b
  · rw [if_pos h]
    go_enter Try.func69, Try.ntmps69
    go_wp2_with fail
    all_goals (
      go_ret
      refine ⟨?_, Below.refl _ _⟩
      first | rfl | (have : a = b := by omega
                     subst this; rfl))
  · rw [if_neg h]
    go_enter Try.func69, Try.ntmps69
    go_wp2_with fail
    all_goals (
      go_ret
      exact ⟨rfl, Below.refl _ _⟩)

end Go.Proofs.Ytapfihlfnaebhaa
