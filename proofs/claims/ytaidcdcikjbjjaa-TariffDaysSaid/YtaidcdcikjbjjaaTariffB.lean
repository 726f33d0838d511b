/- Contracts: the reference's Usable and Check of tariffs. -/
import Derived.Test.YtaidcdcikjbjjaaTariffA
namespace Go.Proofs.Ytaidcdcikjbjjaa
set_option linter.unusedVariables false
set_option linter.unusedSimpArgs false
open Go.RowKit

theorem tuse_eq (t : Tf) : tuse t = decide (0 ≤ t.base ∧ t.base ≤ 100000 ∧ 0 ≤ t.empty ∧ t.empty ≤ 100000 ∧ 0 ≤ t.kilo ∧ t.kilo ≤ 100000 ∧ 0 ≤ t.free ∧ t.free ≤ 1000) := by
  rw [Bool.eq_iff_iff]
  simp [tuse, within]
  omega
set_option maxHeartbeats 1000000 in
theorem rusable_any (t : Tf) (w : World) : Calls Try.prog 25 #[.agg (encT (t)).toArray] w fun e w' => e = .returned (.bool (tuse t)) ∧ Below w.heap.size w w' := by
  have hc : (t.base < 0 ∨ (0 ≤ t.base ∧ t.base > 100000) ∨ (0 ≤ t.base ∧ t.base ≤ 100000 ∧ t.empty < 0) ∨ (0 ≤ t.base ∧ t.base ≤ 100000 ∧ 0 ≤ t.empty ∧ t.empty > 100000) ∨
    (0 ≤ t.base ∧ t.base ≤ 100000 ∧ 0 ≤ t.empty ∧ t.empty ≤ 100000 ∧ t.kilo < 0) ∨ (0 ≤ t.base ∧ t.base ≤ 100000 ∧ 0 ≤ t.empty ∧ t.empty ≤ 100000 ∧ 0 ≤ t.kilo ∧ t.kilo > 100000) ∨
    (0 ≤ t.base ∧ t.base ≤ 100000 ∧ 0 ≤ t.empty ∧ t.empty ≤ 100000 ∧ 0 ≤ t.kilo ∧ t.kilo ≤ 100000 ∧ t.free < 0) ∨ (0 ≤ t.base ∧ t.base ≤ 100000 ∧ 0 ≤ t.empty ∧ t.empty ≤ 100000 ∧ 0 ≤ t.kilo ∧ t.kilo ≤ 100000 ∧ 0 ≤ t.free ∧ t.free > 1000)) ∨
    (0 ≤ t.base ∧ t.base ≤ 100000 ∧ 0 ≤ t.empty ∧ t.empty ≤ 100000 ∧ 0 ≤ t.kilo ∧ t.kilo ≤ 100000 ∧ 0 ≤ t.free ∧ t.free ≤ 1000) := by omega
  rw [tuse_eq]
  rcases hc with hc | h
  · rw [decide_eq_false (by omega)]
    unfold encT
    rcases hc with h1 | ⟨h1, h2⟩ | ⟨h1, h2, h3⟩ | ⟨h1, h2, h3, h4⟩ | ⟨h1, h2, h3, h4, h5⟩ | ⟨h1, h2, h3, h4, h5, h6⟩ | ⟨h1, h2, h3, h4, h5, h6, h7⟩ | ⟨h1, h2, h3, h4, h5, h6, h7, h8⟩
    all_goals (
      go_enter Try.func25, Try.ntmps25
      go_wp2_with fail
      go_ret
      refine ⟨by first | rfl | (simp; try omega), ?_⟩
      repeat (first | (with_reducible exact Below.refl _ _) | (with_reducible assumption) | (with_reducible refine Below.drew ?_) | ((with_reducible refine Below.alloc ?_ ?_ _); rotate_left; (first | (with_reducible exact Nat.zero_le _) | (with_reducible exact Nat.le_refl _) | omega | (dsimp only; omega) | (simp only [World.size_alloc, World.size_setCell, World.size_drew]; omega))) | ((with_reducible refine Below.setCell ?_ ?_ _); rotate_left; (first | (with_reducible exact Nat.zero_le _) | (with_reducible exact Nat.le_refl _) | omega | (dsimp only; omega) | (simp only [World.size_alloc, World.size_setCell, World.size_drew]; omega)))))
  · rw [decide_eq_true h]
    obtain ⟨h1, h2, h3, h4, h5, h6, h7, h8⟩ := h
    unfold encT
    go_enter Try.func25, Try.ntmps25
    go_wp2_with fail
    go_ret
    refine ⟨by first | rfl | (simp; try omega), ?_⟩
    repeat (first | (with_reducible exact Below.refl _ _) | (with_reducible assumption) | (with_reducible refine Below.drew ?_) | ((with_reducible refine Below.alloc ?_ ?_ _); rotate_left; (first | (with_reducible exact Nat.zero_le _) | (with_reducible exact Nat.le_refl _) | omega | (dsimp only; omega) | (simp only [World.size_alloc, World.size_setCell, World.size_drew]; omega))) | ((with_reducible refine Below.setCell ?_ ?_ _); rotate_left; (first | (with_reducible exact Nat.zero_le _) | (with_reducible exact Nat.le_refl _) | omega | (dsimp only; omega) | (simp only [World.size_alloc, World.size_setCell, World.size_drew]; omega))))

set_option maxHeartbeats 1000000 in
theorem rcheck_any {w : World} {v : Value} {l : List Tf} (hl : RowIn w v 5 encT l) : Calls Try.prog 11 #[v] w fun e w' => e = .returned (.int .i64 (tchk l)) ∧ Below w.heap.size w w' := by
  obtain ⟨oa, cap, rfl, hlc1, hlc2, _, hlc⟩ := hl.at_
  unfold maxLen at hlc2
  have HL := Lib.hid hlc
  clear hlc
  have hE : tchk l = if l.length = 0 then 10 else if l.length > 8 then 8 else if okTo l l.length = false then 1 else if ordTo l l.length = false then 9 else 0 := rfl
  by_cases h0 : l.length = 0
  · rw [if_pos h0] at hE
    rw [hE, h0]
    go_enter Try.func11, Try.ntmps11
    go_wp2_with fail
    go_ret
    exact ⟨rfl, Below.refl _ _⟩
  rw [if_neg h0] at hE
  by_cases h8 : l.length > 8
  · rw [if_pos h8] at hE
    rw [hE]
    have h8' : (l.length : Int) > 8 := by omega
    have h0' : ((l.length : Int) == 0) = false := by rw [beq_eq_false_iff_ne]; omega
    clear hE
    go_enter Try.func11, Try.ntmps11
    go_wp2_with fail
    go_ret
    exact ⟨rfl, Below.refl _ _⟩
  rw [if_neg h8] at hE
  have h8' : ¬ (l.length : Int) > 8 := by omega
  have h0' : ((l.length : Int) == 0) = false := by rw [beq_eq_false_iff_ne]; omega
  have HE := Lib.hid hE
  clear hE
  go_enter Try.func11, Try.ntmps11
  go_wp2_with fail
  go_loopw [3] (fun i wr => ChkRel1 w l i wr) (fun i _ => (l.length - intOf i).toNat)
  case atStart => exact ⟨0, Nat.zero_le _, rfl, rfl, Below.refl _ _⟩
  case round =>
    obtain ⟨k, hk, rfl, hok, hb⟩ := hrel
    have hwz := hb.size
    by_cases hlt : k < l.length
    · obtain ⟨x, hx⟩ : ∃ x, l[k]? = some x := ⟨_, List.getElem?_eq_getElem hlt⟩
      obtain ⟨lb, lo, ho, hll, hlc⟩ := HL.out (by rintro rfl; simp at hlt)
      rw [ho]
      have hkl : (k : Int) < l.length := by omega
      have q : ∀ j, wr.cell? ⟨lb, j, none⟩ = w.cell? ⟨lb, j, none⟩ := fun j => hb.cell (p := ⟨lb, j, none⟩) hll
      have e0 : World.cell? w ⟨lb, lo + k * 5, none⟩ = some (.int .i64 (x).frm) := hlc (k) x hx 0 (by omega); have e1 : World.cell? w ⟨lb, lo + k * 5 + 1, none⟩ = some (.int .i64 (x).base) := hlc (k) x hx 1 (by omega); have e2 : World.cell? w ⟨lb, lo + k * 5 + 2, none⟩ = some (.int .i64 (x).empty) := hlc (k) x hx 2 (by omega); have e3 : World.cell? w ⟨lb, lo + k * 5 + 3, none⟩ = some (.int .i64 (x).kilo) := hlc (k) x hx 3 (by omega); have e4 : World.cell? w ⟨lb, lo + k * 5 + 4, none⟩ = some (.int .i64 (x).free) := hlc (k) x hx 4 (by omega)
      rw [← q] at e0 e1 e2 e3 e4
      clear q
      have hs := okTo_succ hlt
      rw [getD_of hx, hok, Bool.true_and] at hs
      unfold tok within at hs
      have i0 : (0 : Int) ≤ k := by omega
      by_cases h1 : x.frm < 0
      · go_wp2_with fail
        go_ret
        refine ⟨?_, hb⟩
        rw [HE.out, if_pos]
        · rfl
        · exact Bool.eq_false_iff.2 fun h => by
            have := okTo_le (show k + 1 ≤ l.length by omega) h
            rw [hs] at this
            simp at this
            try omega
      by_cases h2 : x.frm > 36524
      · go_wp2_with fail
        go_ret
        refine ⟨?_, hb⟩
        rw [HE.out, if_pos]
        · rfl
        · exact Bool.eq_false_iff.2 fun h => by
            have := okTo_le (show k + 1 ≤ l.length by omega) h
            rw [hs] at this
            simp at this
            try omega
      rw [show (decide (0 ≤ x.frm) && decide (x.frm ≤ 36524)) = true by simp; omega, Bool.true_and] at hs
      go_wp2_with fail
      refine (rusable_any x _).mono ?_
      rintro e w1 ⟨rfl, hb2⟩
      have hb3 := hb.trans (hb2.mono hwz)
      generalize tuse x = b2 at *
      cases b2 with
      | false =>
        go_wp2_with fail
        go_ret
        refine ⟨?_, hb3⟩
        rw [HE.out, if_pos]
        · rfl
        · exact Bool.eq_false_iff.2 fun h => by
            have := okTo_le (show k + 1 ≤ l.length by omega) h
            rw [hs] at this
            simp at this
      | true =>
        have HS := Lib.hid hs
        clear hs
        go_wp2_with fail
        go_roundw
        case rel => exact ⟨k + 1, hlt, by simp, HS.out, hb3⟩
        case measure => simp [intOf]; omega
    · obtain rfl : k = l.length := by omega
      have hE := HE.out
      rw [hok] at hE
      simp only [Bool.true_eq_false, if_false] at hE
      have HE2 := Lib.hid hE
      have HO := Lib.hid hok
      clear HE hE hok
      go_wp2_with fail
      go_loopw [4] (fun i wr => ChkRel2 w l i wr) (fun i _ => (l.length - intOf i).toNat)
      case atStart => exact ⟨0, by omega, rfl, rfl, hb⟩
      case round =>
        clear hb hwz
        obtain ⟨k, hk, rfl, hok, hb⟩ := hrel
        have hwz := hb.size
        by_cases hlt : k + 1 < l.length
        · obtain ⟨x, hx⟩ : ∃ x, l[k]? = some x := ⟨_, List.getElem?_eq_getElem (by omega)⟩
          obtain ⟨y, hy⟩ : ∃ x, l[k + 1]? = some x := ⟨_, List.getElem?_eq_getElem hlt⟩
          obtain ⟨lb, lo, ho, hll, hlc⟩ := HL.out (by rintro rfl; simp at hlt)
          rw [ho]
          have q : ∀ j, wr.cell? ⟨lb, j, none⟩ = w.cell? ⟨lb, j, none⟩ := fun j => hb.cell (p := ⟨lb, j, none⟩) hll
          have e0 : wr.cell? ⟨lb, lo + k * 5, none⟩ = some (.int .i64 x.frm) := (q _).trans (hlc k x hx 0 (by omega))
          have e1 : wr.cell? ⟨lb, lo + (k + 1) * 5, none⟩ = some (.int .i64 y.frm) := (q _).trans (hlc (k + 1) y hy 0 (by omega))
          clear q
          have hs : ordTo l (k + 2) = decide (x.frm < y.frm) := by
            show (ordTo l (k + 1) && decide ((l.getD k tf0).frm < (l.getD (k + 1) tf0).frm)) = _
            rw [hok, getD_of hx, getD_of hy, Bool.true_and]
          have i0 : (0 : Int) ≤ k := by omega
          have i1 : (k : Int) < l.length := by omega
          have i2 : (k : Int) + 1 < l.length := by omega
          have i3 : (0 : Int) ≤ (k : Int) + 1 := by omega
          have i4 : ((k : Int) + 1).toNat = k + 1 := by omega
          have hw1 : IntKind.i64.wrap ((k : Int) + 1 - 1) = k := by rw [show (k : Int) + 1 - 1 = k by omega]; exact wrapI _ (by omega)
          have HS := Lib.hid hs
          clear hs hok
          by_cases hxy : y.frm ≤ x.frm
          · go_wp2_with fail
            go_quiet (fail)
            go_wp2_with fail
            go_ret
            refine ⟨?_, hb.trans ((Below.of_drewN wr nq).mono hwz)⟩
            rw [HE2.out, if_pos]
            · rfl
            · exact Bool.eq_false_iff.2 fun h => by
                have := ordTo_le (show k + 2 ≤ l.length by omega) h
                rw [HS.out] at this
                simp at this
                omega
          · have hyx : x.frm < y.frm := by omega
            go_wp2_with fail
            go_quiet (fail)
            go_wp2_with fail
            go_roundw
            case rel => exact ⟨k + 1, hlt, by simp, by rw [HS.out]; simpa using hyx, hb.trans ((Below.of_drewN wr nq).mono hwz)⟩
            case measure => simp [intOf]; omega
        · have hkl : k + 1 = l.length := by omega
          have hge : ¬ ((k : Int) + 1 < l.length) := by omega
          rw [hkl] at hok
          have HO2 := Lib.hid hok
          clear hok hkl
          go_wp2_with fail
          go_ret
          refine ⟨?_, hb⟩
          rw [HE2.out, if_neg (by rw [HO2.out]; simp)]
          rfl

end Go.Proofs.Ytaidcdcikjbjjaa
