/- Contracts: the program's small functions of tariffs, and Check. -/
import Derived.Test.YtaidcdcikjbjjaaProg
import Derived.Test.YtaidcdcikjbjjaaTariffP
import Derived.Test.YtaidcdcikjbjjaaArgs
import Derived.Test.YtaidcdcikjbjjaaTy
import Derived.Deep.QuietTactic
import Derived.BigQuiet
namespace Go.Proofs.Ytaidcdcikjbjjaa
set_option linter.unusedVariables false
set_option linter.unusedSimpArgs false
open Go.RowKit

def encT (t : Tf) : List Value := [.int .i64 t.frm, .int .i64 t.base, .int .i64 t.empty, .int .i64 t.kilo, .int .i64 t.free]
theorem encT_len (t : Tf) : (encT t).length = 5 := rfl
theorem getD_of {l : List Tf} {k : Nat} {x : Tf} (h : l[k]? = some x) : l.getD k tf0 = x := by rw [List.getD_eq_getElem?_getD, h]; rfl

theorem between_any (a b c : Int) (w : World) : Calls Try.prog 23 #[.int .i64 a, .int .i64 b, .int .i64 c] w fun e w' => e = .returned (.bool (within a b c)) ∧ w = w' := by
  unfold within
  by_cases h1 : a ≤ b
  · go_enter Try.func23, Try.ntmps23
    go_wp2_with fail
    go_ret
    exact ⟨by simp [h1], rfl⟩
  · go_enter Try.func23, Try.ntmps23
    go_wp2_with fail
    go_ret
    exact ⟨by rw [decide_eq_false (show ¬ a ≤ b by omega), Bool.false_and]; rfl, rfl⟩


theorem usable_any (t : Tf) (w : World) : Calls Try.prog 24 #[.agg (encT (t)).toArray] w fun e w' => e = .returned (.bool (tuse t)) ∧ Below w.heap.size w w' := by
  unfold tuse encT
  generalize h1 : within 0 t.base 100000 = b1
  generalize h2 : within 0 t.empty 100000 = b2
  generalize h3 : within 0 t.kilo 100000 = b3
  generalize h4 : within 0 t.free 1000 = b4
  have BA := Blk.new w 31 #[.int .i64 t.frm, .int .i64 t.base, .int .i64 t.empty, .int .i64 t.kilo, .int .i64 t.free]
  cases b1 with
  | false =>
    go_enter Try.func24, Try.ntmps24
    go_wp2_with (go_at_call 23; refine (between_any _ _ _ _).mono ?_; rintro e w' ⟨rfl, rfl⟩)
    go_ret
    refine ⟨by simp, ?_⟩
    repeat (first | (with_reducible exact Below.refl _ _) | (with_reducible assumption) | (with_reducible refine Below.drew ?_) | ((with_reducible refine Below.alloc ?_ ?_ _); rotate_left; (first | (with_reducible exact Nat.zero_le _) | (with_reducible exact Nat.le_refl _) | omega | (dsimp only; omega) | (simp only [World.size_alloc, World.size_setCell, World.size_drew]; omega))) | ((with_reducible refine Below.setCell ?_ ?_ _); rotate_left; (first | (with_reducible exact Nat.zero_le _) | (with_reducible exact Nat.le_refl _) | omega | (dsimp only; omega) | (simp only [World.size_alloc, World.size_setCell, World.size_drew]; omega))))
  | true => cases b2 with
    | false =>
      go_enter Try.func24, Try.ntmps24
      go_wp2_with (go_at_call 23; refine (between_any _ _ _ _).mono ?_; rintro e w' ⟨rfl, rfl⟩)
      go_ret
      refine ⟨by simp, ?_⟩
      repeat (first | (with_reducible exact Below.refl _ _) | (with_reducible assumption) | (with_reducible refine Below.drew ?_) | ((with_reducible refine Below.alloc ?_ ?_ _); rotate_left; (first | (with_reducible exact Nat.zero_le _) | (with_reducible exact Nat.le_refl _) | omega | (dsimp only; omega) | (simp only [World.size_alloc, World.size_setCell, World.size_drew]; omega))) | ((with_reducible refine Below.setCell ?_ ?_ _); rotate_left; (first | (with_reducible exact Nat.zero_le _) | (with_reducible exact Nat.le_refl _) | omega | (dsimp only; omega) | (simp only [World.size_alloc, World.size_setCell, World.size_drew]; omega))))
    | true => cases b3 with
      | false =>
        go_enter Try.func24, Try.ntmps24
        go_wp2_with (go_at_call 23; refine (between_any _ _ _ _).mono ?_; rintro e w' ⟨rfl, rfl⟩)
        go_ret
        refine ⟨by simp, ?_⟩
        repeat (first | (with_reducible exact Below.refl _ _) | (with_reducible assumption) | (with_reducible refine Below.drew ?_) | ((with_reducible refine Below.alloc ?_ ?_ _); rotate_left; (first | (with_reducible exact Nat.zero_le _) | (with_reducible exact Nat.le_refl _) | omega | (dsimp only; omega) | (simp only [World.size_alloc, World.size_setCell, World.size_drew]; omega))) | ((with_reducible refine Below.setCell ?_ ?_ _); rotate_left; (first | (with_reducible exact Nat.zero_le _) | (with_reducible exact Nat.le_refl _) | omega | (dsimp only; omega) | (simp only [World.size_alloc, World.size_setCell, World.size_drew]; omega))))
      | true =>
        go_enter Try.func24, Try.ntmps24
        go_wp2_with (go_at_call 23; refine (between_any _ _ _ _).mono ?_; rintro e w' ⟨rfl, rfl⟩)
        go_ret
        refine ⟨by simp, ?_⟩
        repeat (first | (with_reducible exact Below.refl _ _) | (with_reducible assumption) | (with_reducible refine Below.drew ?_) | ((with_reducible refine Below.alloc ?_ ?_ _); rotate_left; (first | (with_reducible exact Nat.zero_le _) | (with_reducible exact Nat.le_refl _) | omega | (dsimp only; omega) | (simp only [World.size_alloc, World.size_setCell, World.size_drew]; omega))) | ((with_reducible refine Below.setCell ?_ ?_ _); rotate_left; (first | (with_reducible exact Nat.zero_le _) | (with_reducible exact Nat.le_refl _) | omega | (dsimp only; omega) | (simp only [World.size_alloc, World.size_setCell, World.size_drew]; omega))))

theorem Below.of_drewN (w : World) (n : Nat) : Below w.heap.size w (w.drewN n) := ⟨rfl, rfl, rfl, Nat.le_refl _, fun _ _ => rfl⟩
def ChkRel1 (w : World) (l : List Tf) (i : Value) (wr : World) : Prop := ∃ k : Nat, k ≤ l.length ∧ i = .int .i64 k ∧ okTo l k = true ∧ Below w.heap.size w wr
def ChkRel2 (w : World) (l : List Tf) (i : Value) (wr : World) : Prop := ∃ k : Nat, k + 1 ≤ l.length ∧ i = .int .i64 (k + 1) ∧ ordTo l (k + 1) = true ∧ Below w.heap.size w wr

set_option maxHeartbeats 1000000 in
theorem check_any {w : World} {v : Value} {l : List Tf} (hl : RowIn w v 5 encT l) : Calls Try.prog 10 #[v] w fun e w' => e = .returned (.int .i64 (tchk l)) ∧ Below w.heap.size w w' := by
  obtain ⟨oa, cap, rfl, hlc1, hlc2, _, hlc⟩ := hl.at_
  unfold maxLen at hlc2
  have HL := Lib.hid hlc
  clear hlc
  have hE : tchk l = if l.length = 0 then 10 else if l.length > 8 then 8 else if okTo l l.length = false then 1 else if ordTo l l.length = false then 9 else 0 := rfl
  by_cases h0 : l.length = 0
  · rw [if_pos h0] at hE
    rw [hE, h0]
    go_enter Try.func10, Try.ntmps10
    go_wp2_with fail
    go_ret
    exact ⟨rfl, Below.refl _ _⟩
  rw [if_neg h0] at hE
  by_cases h8 : l.length > 8
  · rw [if_pos h8] at hE
    rw [hE]
    have h8' : (l.length : Int) > 8 := by omega
    have h0' : ((l.length : Int) == 0) = false := by rw [beq_eq_false_iff_ne]; omega
    clear hE
    go_enter Try.func10, Try.ntmps10
    go_wp2_with fail
    go_ret
    exact ⟨rfl, Below.refl _ _⟩
  rw [if_neg h8] at hE
  have h8' : ¬ (l.length : Int) > 8 := by omega
  have h0' : ((l.length : Int) == 0) = false := by rw [beq_eq_false_iff_ne]; omega
  have HE := Lib.hid hE
  clear hE
  go_enter Try.func10, Try.ntmps10
  go_wp2_with fail
  go_loopw [14] (fun i wr => ChkRel1 w l i wr) (fun i _ => (l.length - intOf i).toNat)
  case atStart => exact ⟨0, Nat.zero_le _, rfl, rfl, Below.refl _ _⟩
  case round =>
    obtain ⟨k, hk, rfl, hok, hb⟩ := hrel
    have hwz := hb.size
    by_cases hlt : k < l.length
    · obtain ⟨x, hx⟩ : ∃ x, l[k]? = some x := ⟨_, List.getElem?_eq_getElem hlt⟩
      obtain ⟨lb, lo, ho, hll, hlc⟩ := HL.out (by rintro rfl; simp at hlt)
      rw [ho]
      have hkl : (k : Int) < l.length := by omega
      have q : ∀ j, wr.cell? ⟨lb, j, none⟩ = w.cell? ⟨lb, j, none⟩ := fun j => hb.cell (p := ⟨lb, j, none⟩) hll
      have e0 : World.cell? w ⟨lb, lo + k * 5, none⟩ = some (.int .i64 (x).frm) := hlc (k) x hx 0 (by omega); have e1 : World.cell? w ⟨lb, lo + k * 5 + 1, none⟩ = some (.int .i64 (x).base) := hlc (k) x hx 1 (by omega); have e2 : World.cell? w ⟨lb, lo + k * 5 + 2, none⟩ = some (.int .i64 (x).empty) := hlc (k) x hx 2 (by omega); have e3 : World.cell? w ⟨lb, lo + k * 5 + 3, none⟩ = some (.int .i64 (x).kilo) := hlc (k) x hx 3 (by omega); have e4 : World.cell? w ⟨lb, lo + k * 5 + 4, none⟩ = some (.int .i64 (x).free) := hlc (k) x hx 4 (by omega)
      rw [← q] at e0 e1 e2 e3 e4
      clear q
      have hs := okTo_succ hlt
      rw [getD_of hx, hok, Bool.true_and] at hs
      unfold tok at hs
      have BV := Blk.new wr 31 #[.int .i64 x.frm, .int .i64 x.base, .int .i64 x.empty, .int .i64 x.kilo, .int .i64 x.free]
      generalize h1 : within 0 x.frm 36524 = b1 at hs
      cases b1 with
      | false =>
        go_wp2_with (go_at_call 23; refine (between_any _ _ _ _).mono ?_; rintro e w' ⟨rfl, rfl⟩)
        go_ret
        refine ⟨?_, ?_⟩
        · rw [HE.out, if_pos]
          · rfl
          · exact Bool.eq_false_iff.2 fun h => by
              have := okTo_le (show k + 1 ≤ l.length by omega) h
              rw [hs] at this
              simp at this
        · have hb1 := hb.alloc hwz (.cells #[.int .i64 x.frm, .int .i64 x.base, .int .i64 x.empty, .int .i64 x.kilo, .int .i64 x.free] 31)
          exact hb1
      | true =>
        rw [Bool.true_and] at hs
        have hb1 := hb.alloc hwz (.cells #[.int .i64 x.frm, .int .i64 x.base, .int .i64 x.empty, .int .i64 x.kilo, .int .i64 x.free] 31)
        have hz1 := hb1.size
        go_wp2_with (go_at_call 23; refine (between_any _ _ _ _).mono ?_; rintro e w' ⟨rfl, rfl⟩)
        refine (usable_any x _).mono ?_
        rintro e w1 ⟨rfl, hb2⟩
        have hb3 := hb1.trans (hb2.mono hz1)
        generalize tuse x = b2 at *
        cases b2 with
        | false =>
          go_wp2_with fail
          go_ret
          refine ⟨?_, hb3⟩
          rw [HE.out, if_pos]
          · rfl
          · exact Bool.eq_false_iff.2 fun h => by
              have := okTo_le (show k + 1 ≤ l.length by omega) h
              rw [hs] at this
              simp at this
        | true =>
          clear h1
          have HS := Lib.hid hs
          clear hs
          go_wp2_with fail
          go_roundw
          case rel => exact ⟨k + 1, hlt, by simp, HS.out, hb3⟩
          case measure => simp [intOf]; omega
    · obtain rfl : k = l.length := by omega
      have hE := HE.out
      rw [hok] at hE
      simp only [Bool.true_eq_false, if_false] at hE
      have HE2 := Lib.hid hE
      have HO := Lib.hid hok
      clear HE hE hok
      go_wp2_with fail
      go_loopw [5] (fun i wr => ChkRel2 w l i wr) (fun i _ => (l.length - intOf i).toNat)
      case atStart => exact ⟨0, by omega, rfl, rfl, hb⟩
      case round =>
        clear hb hwz
        obtain ⟨k, hk, rfl, hok, hb⟩ := hrel
        have hwz := hb.size
        by_cases hlt : k + 1 < l.length
        · obtain ⟨x, hx⟩ : ∃ x, l[k]? = some x := ⟨_, List.getElem?_eq_getElem (by omega)⟩
          obtain ⟨y, hy⟩ : ∃ x, l[k + 1]? = some x := ⟨_, List.getElem?_eq_getElem hlt⟩
          obtain ⟨lb, lo, ho, hll, hlc⟩ := HL.out (by rintro rfl; simp at hlt)
          rw [ho]
          have q : ∀ j, wr.cell? ⟨lb, j, none⟩ = w.cell? ⟨lb, j, none⟩ := fun j => hb.cell (p := ⟨lb, j, none⟩) hll
          have e0 : wr.cell? ⟨lb, lo + k * 5, none⟩ = some (.int .i64 x.frm) := (q _).trans (hlc k x hx 0 (by omega))
          have e1 : wr.cell? ⟨lb, lo + (k + 1) * 5, none⟩ = some (.int .i64 y.frm) := (q _).trans (hlc (k + 1) y hy 0 (by omega))
          clear q
          have hs : ordTo l (k + 2) = decide (x.frm < y.frm) := by
            show (ordTo l (k + 1) && decide ((l.getD k tf0).frm < (l.getD (k + 1) tf0).frm)) = _
            rw [hok, getD_of hx, getD_of hy, Bool.true_and]
          have i0 : (0 : Int) ≤ k := by omega
          have i1 : (k : Int) < l.length := by omega
          have i2 : (k : Int) + 1 < l.length := by omega
          have i3 : (0 : Int) ≤ (k : Int) + 1 := by omega
          have i4 : ((k : Int) + 1).toNat = k + 1 := by omega
          have hw1 : IntKind.i64.wrap ((k : Int) + 1 - 1) = k := by rw [show (k : Int) + 1 - 1 = k by omega]; exact wrapI _ (by omega)
          have HS := Lib.hid hs
          clear hs hok
          by_cases hxy : y.frm ≤ x.frm
          · go_wp2_with fail
            go_quiet (fail)
            go_wp2_with fail
            go_ret
            refine ⟨?_, hb.trans ((Below.of_drewN wr nq).mono hwz)⟩
            rw [HE2.out, if_pos]
            · rfl
            · exact Bool.eq_false_iff.2 fun h => by
                have := ordTo_le (show k + 2 ≤ l.length by omega) h
                rw [HS.out] at this
                simp at this
                omega
          · have hyx : x.frm < y.frm := by omega
            go_wp2_with fail
            go_quiet (fail)
            go_wp2_with fail
            go_roundw
            case rel => exact ⟨k + 1, hlt, by simp, by rw [HS.out]; simpa using hyx, hb.trans ((Below.of_drewN wr nq).mono hwz)⟩
            case measure => simp [intOf]; omega
        · have hkl : k + 1 = l.length := by omega
          have hge : ¬ ((k : Int) + 1 < l.length) := by omega
          rw [hkl] at hok
          have HO2 := Lib.hid hok
          clear hok hkl
          go_wp2_with fail
          go_ret
          refine ⟨?_, hb⟩
          rw [HE2.out, if_neg (by rw [HO2.out]; simp)]
          rfl

end Go.Proofs.Ytaidcdcikjbjjaa
