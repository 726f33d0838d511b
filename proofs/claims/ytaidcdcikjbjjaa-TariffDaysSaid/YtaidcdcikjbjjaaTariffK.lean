/- The laws TariffChecks, TariffAts, TariffWeights, TariffItems, TariffBases. -/
import Derived.Test.YtaidcdcikjbjjaaTariffJ
namespace Go.Proofs.Ytaidcdcikjbjjaa
set_option linter.unusedVariables false
set_option linter.unusedSimpArgs false
open Go.RowKit

def decT (x : List Int) : Tf := ⟨x.getD 0 0, x.getD 1 0, x.getD 2 0, x.getD 3 0, x.getD 4 0⟩
theorem decT_enc (x : List Int) (h : x.length = 5) : encT (decT x) = x.map (Value.int .i64) := by
  obtain ⟨a, b, c, d, e, rfl⟩ := len5 h; rfl


theorem law_checks {w : World} {v : Value} {l : List Tf} (hl : RowIn w v 5 encT l) : Calls Try.prog 3 #[v] w fun e w' => e = .returned (.bool true) ∧ Below w.heap.size w w' := by
  obtain ⟨oa, cap, hv, hlc1, hlc2, _, _⟩ := hl.at_
  unfold maxLen at hlc2
  subst hv
  by_cases h : l.length > 100
  · have h' : (l.length : Int) > 100 := by omega
    go_enter Try.func3, Try.ntmps3
    go_wp2_with fail
    refine (awake_any _).mono ?_
    rintro e w1 ⟨rfl, hb1⟩
    go_wp2_with fail
    go_ret
    exact ⟨rfl, hb1⟩
  · have h' : ¬ (l.length : Int) > 100 := by omega
    go_enter Try.func3, Try.ntmps3
    go_wp2_with fail
    refine (check_any hl).mono ?_
    rintro e w1 ⟨rfl, hb1⟩
    go_wp2_with fail
    refine (rcheck_any (hl.step hb1)).mono ?_
    rintro e w2 ⟨rfl, hb2⟩
    go_wp2_with fail
    refine (awake_any _).mono ?_
    rintro e w3 ⟨rfl, hb3⟩
    go_wp2_with fail
    go_ret
    exact ⟨by simp, hb1.trans ((hb2.mono hb1.size).trans (hb3.mono (Nat.le_trans hb1.size hb2.size)))⟩

theorem law_ats {w : World} {v : Value} {l : List Tf} (hl : RowIn w v 5 encT l) (d : Int) : Calls Try.prog 4 #[v, .int .i64 d] w fun e w' => e = .returned (.bool true) ∧ Below w.heap.size w w' := by
  obtain ⟨oa, cap, hv, hlc1, hlc2, _, _⟩ := hl.at_
  unfold maxLen at hlc2
  subst hv
  by_cases h : l.length > 100
  · have h' : (l.length : Int) > 100 := by omega
    go_enter Try.func4, Try.ntmps4
    go_wp2_with fail
    refine (awake_any _).mono ?_
    rintro e w1 ⟨rfl, hb1⟩
    go_wp2_with fail
    go_ret
    exact ⟨rfl, hb1⟩
  · have h' : ¬ (l.length : Int) > 100 := by omega
    go_enter Try.func4, Try.ntmps4
    go_wp2_with fail
    refine (at_any hl d).mono ?_
    rintro e w1 ⟨rfl, hb1⟩
    go_wp2_with fail
    refine (rat_any (hl.step hb1) d).mono ?_
    rintro e w2 ⟨rfl, hb2⟩
    go_wp2_with fail
    refine (awake_any _).mono ?_
    rintro e w3 ⟨rfl, hb3⟩
    go_wp2_with fail
    go_ret
    exact ⟨by simp, hb1.trans ((hb2.mono hb1.size).trans (hb3.mono (Nat.le_trans hb1.size hb2.size)))⟩

theorem law_weights (t : Tf) (lo hi : Int) (w : World) : Calls Try.prog 5 #[.agg (encT (t)).toArray, .agg #[.int .i64 lo, .int .i64 hi]] w fun e w' => e = .returned (.bool true) ∧ Below w.heap.size w w' := by
  have h1 := fun w => weight_any t lo hi w
  have h2 := fun w => rweight_any t lo hi w
  unfold encT at *
  have hb0 : Below w.heap.size w ((w.alloc (.cells #[.int .i64 t.frm, .int .i64 t.base, .int .i64 t.empty, .int .i64 t.kilo, .int .i64 t.free] 31)).alloc (.cells #[.int .i64 lo, .int .i64 hi] 33)) := by repeat (first | (with_reducible exact Below.refl _ _) | (with_reducible assumption) | (with_reducible refine Below.drew ?_) | ((with_reducible refine Below.alloc ?_ ?_ _); rotate_left; (first | (with_reducible exact Nat.zero_le _) | (with_reducible exact Nat.le_refl _) | omega | (dsimp only; omega) | (simp only [World.size_alloc, World.size_setCell, World.size_drew]; omega))) | ((with_reducible refine Below.setCell ?_ ?_ _); rotate_left; (first | (with_reducible exact Nat.zero_le _) | (with_reducible exact Nat.le_refl _) | omega | (dsimp only; omega) | (simp only [World.size_alloc, World.size_setCell, World.size_drew]; omega))))
  have B0 : Blk ((w.alloc (.cells #[.int .i64 t.frm, .int .i64 t.base, .int .i64 t.empty, .int .i64 t.kilo, .int .i64 t.free] 31)).alloc (.cells #[.int .i64 lo, .int .i64 hi] 33)) w.heap.size 31 #[.int .i64 t.frm, .int .i64 t.base, .int .i64 t.empty, .int .i64 t.kilo, .int .i64 t.free] := (Blk.new w 31 #[.int .i64 t.frm, .int .i64 t.base, .int .i64 t.empty, .int .i64 t.kilo, .int .i64 t.free]).alloc _
  have B1 : Blk ((w.alloc (.cells #[.int .i64 t.frm, .int .i64 t.base, .int .i64 t.empty, .int .i64 t.kilo, .int .i64 t.free] 31)).alloc (.cells #[.int .i64 lo, .int .i64 hi] 33)) (w.heap.size + 1) 33 #[.int .i64 lo, .int .i64 hi] := by
    have := Blk.new (w.alloc (.cells #[.int .i64 t.frm, .int .i64 t.base, .int .i64 t.empty, .int .i64 t.kilo, .int .i64 t.free] 31)) 33 #[.int .i64 lo, .int .i64 hi]
    simpa using this
  go_enter Try.func5, Try.ntmps5
  go_wp2_with fail
  refine (h1 _).mono ?_
  rintro e w1 ⟨rfl, hb1⟩
  replace B0 := B0.step hb1
  replace B1 := B1.step hb1
  replace hb0 := hb0.trans (hb1.mono hb0.size)
  have c0 := B0.cell
  have l0 := B0.lt
  have c1 := B1.cell
  have l1 := B1.lt
  go_wp2_with fail
  refine (h2 _).mono ?_
  rintro e w2 ⟨rfl, hb2⟩
  replace hb0 := hb0.trans (hb2.mono hb0.size)
  clear c0 l0 c1 l1
  go_wp2_with fail
  refine (awake_any _).mono ?_
  rintro e w3 ⟨rfl, hb3⟩
  go_wp2_with fail
  go_ret
  exact ⟨by simp, hb0.trans (hb3.mono hb0.size)⟩

theorem law_items (t : Tf) (id cn ve at_ lo hi : Int) (vo : Bool) (w : World) : Calls Try.prog 6 #[.agg (encT (t)).toArray, .agg #[.int .i64 id, .int .i64 cn, .int .i64 ve, .int .i64 at_, .int .i64 lo, .int .i64 hi, .bool vo]] w fun e w' => e = .returned (.bool true) ∧ Below w.heap.size w w' := by
  have h1 := fun w => items_any t id cn ve at_ lo hi vo w
  have h2 := fun w => ritems_any t id cn ve at_ lo hi vo w
  unfold encT at *
  have hb0 : Below w.heap.size w ((w.alloc (.cells #[.int .i64 t.frm, .int .i64 t.base, .int .i64 t.empty, .int .i64 t.kilo, .int .i64 t.free] 31)).alloc (.cells #[.int .i64 id, .int .i64 cn, .int .i64 ve, .int .i64 at_, .int .i64 lo, .int .i64 hi, .bool vo] 37)) := by repeat (first | (with_reducible exact Below.refl _ _) | (with_reducible assumption) | (with_reducible refine Below.drew ?_) | ((with_reducible refine Below.alloc ?_ ?_ _); rotate_left; (first | (with_reducible exact Nat.zero_le _) | (with_reducible exact Nat.le_refl _) | omega | (dsimp only; omega) | (simp only [World.size_alloc, World.size_setCell, World.size_drew]; omega))) | ((with_reducible refine Below.setCell ?_ ?_ _); rotate_left; (first | (with_reducible exact Nat.zero_le _) | (with_reducible exact Nat.le_refl _) | omega | (dsimp only; omega) | (simp only [World.size_alloc, World.size_setCell, World.size_drew]; omega))))
  have B0 : Blk ((w.alloc (.cells #[.int .i64 t.frm, .int .i64 t.base, .int .i64 t.empty, .int .i64 t.kilo, .int .i64 t.free] 31)).alloc (.cells #[.int .i64 id, .int .i64 cn, .int .i64 ve, .int .i64 at_, .int .i64 lo, .int .i64 hi, .bool vo] 37)) w.heap.size 31 #[.int .i64 t.frm, .int .i64 t.base, .int .i64 t.empty, .int .i64 t.kilo, .int .i64 t.free] := (Blk.new w 31 #[.int .i64 t.frm, .int .i64 t.base, .int .i64 t.empty, .int .i64 t.kilo, .int .i64 t.free]).alloc _
  have B1 : Blk ((w.alloc (.cells #[.int .i64 t.frm, .int .i64 t.base, .int .i64 t.empty, .int .i64 t.kilo, .int .i64 t.free] 31)).alloc (.cells #[.int .i64 id, .int .i64 cn, .int .i64 ve, .int .i64 at_, .int .i64 lo, .int .i64 hi, .bool vo] 37)) (w.heap.size + 1) 37 #[.int .i64 id, .int .i64 cn, .int .i64 ve, .int .i64 at_, .int .i64 lo, .int .i64 hi, .bool vo] := by
    have := Blk.new (w.alloc (.cells #[.int .i64 t.frm, .int .i64 t.base, .int .i64 t.empty, .int .i64 t.kilo, .int .i64 t.free] 31)) 37 #[.int .i64 id, .int .i64 cn, .int .i64 ve, .int .i64 at_, .int .i64 lo, .int .i64 hi, .bool vo]
    simpa using this
  go_enter Try.func6, Try.ntmps6
  go_wp2_with fail
  refine (h1 _).mono ?_
  rintro e w1 ⟨v1, rfl, R1, hb1⟩
  replace B0 := B0.step hb1
  replace B1 := B1.step hb1
  replace hb0 := hb0.trans (hb1.mono hb0.size)
  have c0 := B0.cell
  have l0 := B0.lt
  have c1 := B1.cell
  have l1 := B1.lt
  go_wp2_with fail
  refine (h2 _).mono ?_
  rintro e w2 ⟨v2, rfl, R2, hb2⟩
  replace hb0 := hb0.trans (hb2.mono hb0.size)
  clear c0 l0 c1 l1
  go_wp2_with fail
  refine (same_any (R1.step hb2) R2).mono ?_
  rintro e w4 ⟨rfl, hb4⟩
  replace hb0 := hb0.trans (hb4.mono hb0.size)
  go_wp2_with fail
  refine (awake_any _).mono ?_
  rintro e w3 ⟨rfl, hb3⟩
  go_wp2_with fail
  go_ret
  exact ⟨by simp, hb0.trans (hb3.mono hb0.size)⟩

theorem law_bases {w : World} {v : Value} {l : List Tf} (hl : RowIn w v 5 encT l) (a b : Int) : Calls Try.prog 7 #[v, .agg #[.int .i64 a, .int .i64 b]] w fun e w' => e = .returned (.bool true) ∧ Below w.heap.size w w' := by
  obtain ⟨oa, cap, hv, hlc1, hlc2, _, _⟩ := hl.at_
  unfold maxLen at hlc2
  subst hv
  have hb0 : Below w.heap.size w (w.alloc (.cells #[.int .i64 a, .int .i64 b] 44)) := by repeat (first | (with_reducible exact Below.refl _ _) | (with_reducible assumption) | (with_reducible refine Below.drew ?_) | ((with_reducible refine Below.alloc ?_ ?_ _); rotate_left; (first | (with_reducible exact Nat.zero_le _) | (with_reducible exact Nat.le_refl _) | omega | (dsimp only; omega) | (simp only [World.size_alloc, World.size_setCell, World.size_drew]; omega))) | ((with_reducible refine Below.setCell ?_ ?_ _); rotate_left; (first | (with_reducible exact Nat.zero_le _) | (with_reducible exact Nat.le_refl _) | omega | (dsimp only; omega) | (simp only [World.size_alloc, World.size_setCell, World.size_drew]; omega))))
  have B0 := Blk.new w 44 #[.int .i64 a, .int .i64 b]
  have hl1 := hl.step (w' := w.alloc (.cells #[.int .i64 a, .int .i64 b] 44)) (by repeat (first | (with_reducible exact Below.refl _ _) | (with_reducible assumption) | (with_reducible refine Below.drew ?_) | ((with_reducible refine Below.alloc ?_ ?_ _); rotate_left; (first | (with_reducible exact Nat.zero_le _) | (with_reducible exact Nat.le_refl _) | omega | (dsimp only; omega) | (simp only [World.size_alloc, World.size_setCell, World.size_drew]; omega))) | ((with_reducible refine Below.setCell ?_ ?_ _); rotate_left; (first | (with_reducible exact Nat.zero_le _) | (with_reducible exact Nat.le_refl _) | omega | (dsimp only; omega) | (simp only [World.size_alloc, World.size_setCell, World.size_drew]; omega)))))
  by_cases h : l.length > 100
  · have h' : (l.length : Int) > 100 := by omega
    go_enter Try.func7, Try.ntmps7
    go_wp2_with fail
    refine (awake_any _).mono ?_
    rintro e w1 ⟨rfl, hb1⟩
    go_wp2_with fail
    go_ret
    exact ⟨rfl, hb0.trans (hb1.mono hb0.size)⟩
  · have h' : ¬ (l.length : Int) > 100 := by omega
    go_enter Try.func7, Try.ntmps7
    go_wp2_with fail
    refine (base_any hl1 a b).mono ?_
    rintro e w1 ⟨v1, rfl, R1, hb1⟩
    replace B0 := B0.step hb1
    replace hb0 := hb0.trans (hb1.mono hb0.size)
    have c0 := B0.cell
    have l0 := B0.lt
    go_wp2_with fail
    refine (rbase_any (hl1.step hb1) a b).mono ?_
    rintro e w2 ⟨v2, rfl, R2, hb2⟩
    replace hb0 := hb0.trans (hb2.mono hb0.size)
    clear c0 l0
    go_wp2_with fail
    refine (same_any (R1.step hb2) R2).mono ?_
    rintro e w4 ⟨rfl, hb4⟩
    replace hb0 := hb0.trans (hb4.mono hb0.size)
    go_wp2_with fail
    refine (awake_any _).mono ?_
    rintro e w3 ⟨rfl, hb3⟩
    go_wp2_with fail
    go_ret
    exact ⟨by simp, hb0.trans (hb3.mono hb0.size)⟩

end Go.Proofs.Ytaidcdcikjbjjaa
