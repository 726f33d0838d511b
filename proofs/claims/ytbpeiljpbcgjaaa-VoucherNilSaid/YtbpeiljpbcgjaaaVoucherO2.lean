/- The laws VoucherTwice, VoucherPasses and VoucherNil. -/
import Derived.Test.YtbpeiljpbcgjaaaVoucherO
namespace Go.Proofs.Ytbpeiljpbcgjaaa
set_option linter.unusedVariables false
set_option linter.unusedSimpArgs false
open Go.RowKit

def StRel (W : World) (g : Nat) (B : Bk) (l : List Stp) (i : Value) (wr : World) : Prop :=
  ∃ k : Nat, k ≤ l.length ∧ i = .int .i64 k ∧ FrT g TB W wr ∧ ∃ sv, Holds wr g g sv (stBs B (l.take k))

theorem red_same {B : Bk} {n t : Int} (h : redE B n t ≠ 0) : redB B n t = B ∧ redV B n t = 0 := by
  unfold redB redV; simp [h]


set_option maxHeartbeats 2000000 in
theorem law_twice (n : Int) (hn0 : 0 ≤ n) (hn1 : n < 4294967296) (v : Value) (l : List Stp) (x0 x1 x2 : Int) (w : World) (hl : RowIn w v 4 encS l) :
    Calls Try.prog 6 #[.int .u32 n, v, .agg #[.int .i64 x0, .int .i64 x1, .int .i64 x2]] w fun e w' => e = .returned (.bool true) ∧ Below w.heap.size w w' := by
  obtain ⟨hs1, hs2⟩ := spanV_bd hn0
  obtain ⟨oa, cap, rfl, hlc1, hlc2, _, hlc⟩ := hl.at_
  unfold maxLen at hlc2
  have BA := Blk.new w 52 #[.int .i64 x0, .int .i64 x1, .int .i64 x2]
  have c0 := BA.cell
  by_cases h100 : l.length > 100
  · have h100' : (l.length : Int) > 100 := by omega
    go_enter Try.func6, Try.ntmps6
    go_wp2_with (go_at_call 13; refine (awake_any _).mono ?_; rintro e w1 ⟨rfl, hb1⟩)
    go_ret
    exact ⟨rfl, (((Below.refl _ _).alloc (Nat.le_refl _) _).trans (hb1.mono (by simp)))⟩
  · have h100' : ¬ (l.length : Int) > 100 := by omega
    have HL := Lib.hid hlc
    clear hlc
    go_enter Try.func6, Try.ntmps6
    go_wp2_with (first | (go_at_call 14; refine (span_any' _ hn0 hn1 _).mono ?_; rintro e w' ⟨rfl, rfl⟩) | (go_at_call 11; refine (new_ok (spanV n) hs1 hs2 _).mono ?_; rintro e w1 ⟨rfl, H1, hb1⟩))
    generalize spanV n = S at *
    have ok0 := new_bk_ok hs1 hs2
    obtain ⟨B0, hB0⟩ : ∃ B0 : Bk, B0 = ⟨S, 0, []⟩ := ⟨_, rfl⟩
    rw [← hB0] at H1 ok0
    replace hB0 := Lib.hid hB0
    simp only [World.size_alloc] at H1 hb1
    go_loopw [9] (fun i wr => StRel (w.alloc (.cells #[.int .i64 x0, .int .i64 x1, .int .i64 x2] 52)) (w.heap.size + 1) B0 l i wr) (fun i _ => (l.length - intOf i).toNat)
    case atStart => exact ⟨0, Nat.zero_le _, rfl, .of_below (by simpa using hb1), _, H1⟩
    case round =>
      obtain ⟨k, hk, rfl, hF, sv, hH⟩ := hrel
      have okk := stBs_ok ok0 (l.take k)
      have hFb := hF.below (by simp)
      have hwz := hFb.size
      simp only [World.size_alloc] at hwz
      by_cases hlt : k < l.length
      · obtain ⟨s, hx⟩ : ∃ x, l[k]? = some x := ⟨_, List.getElem?_eq_getElem hlt⟩
        obtain ⟨lb, lo, ho, hll, hlc⟩ := HL.out (by rintro rfl; simp at hlt)
        rw [ho]
        have hst := stBs_take B0 hx
        have hkl : (k : Int) < l.length := by omega
        generalize stBs B0 (l.take k) = B at *
        have q : ∀ j, wr.cell? ⟨lb, j, none⟩ = w.cell? ⟨lb, j, none⟩ := fun j => (hFb.cell (p := ⟨lb, j, none⟩) (by dsimp only; omega)).trans (((Below.refl _ _).alloc (Nat.le_refl _) _).cell (p := ⟨lb, j, none⟩) hll)
        have hlw : lb < wr.heap.size := by omega
        have e0 : World.cell? w ⟨lb, lo + k * 4, none⟩ = some (.int .i64 (s).kind) := hlc k s hx 0 (by omega); have e1 : World.cell? w ⟨lb, lo + k * 4 + 1, none⟩ = some (.int .i64 (s).a) := hlc k s hx 1 (by omega); have e2 : World.cell? w ⟨lb, lo + k * 4 + 2, none⟩ = some (.int .i64 (s).b) := hlc k s hx 2 (by omega); have e3 : World.cell? w ⟨lb, lo + k * 4 + 3, none⟩ = some (.int .i64 (s).at_) := hlc k s hx 3 (by omega)
        rw [← q] at e0 e1 e2 e3
        clear q
        go_wp2_with fail
        refine (step_any hH okk (by omega) s).mono ?_
        unfold stOut
        rintro e w1 ⟨rfl, sv', H2, hf2⟩
        have hF3 := hF.trans hf2
        rw [← hst] at H2
        clear hst hH H1 okk
        unfold encV
        go_wp2_with fail
        go_roundw
        case rel => exact ⟨k + 1, hlt, by simp, hF3, _, H2⟩
        case measure => simp [intOf]; omega
      · obtain rfl : k = l.length := by omega
        rw [List.take_length] at *
        generalize stBs B0 l = B at *
        clear H1 ok0 c0
        have BB := BA.frT hF (.inl (by omega))
        have c0 := BB.cell
        have l0 := BB.lt
        go_wp2_with fail
        refine (redeem_any hH okk x0 x1).mono ?_
        rintro e w1 ⟨rfl, H2, hf1⟩
        have ok1 := redB_ok okk x0 x1
        have hF1 := hF.trans hf1
        replace BB := BB.frT hf1 (.inl (by omega))
        clear c0 l0
        by_cases he : redE B x0 x1 = 0
        · obtain ⟨t1, t2, t3⟩ := twice okk he x2
          obtain ⟨s1, s2⟩ := red_same (B := redB B x0 x1) (n := x0) (t := x1) (by omega)
          obtain ⟨s3, s4⟩ := red_same t3
          rw [he]
          generalize redV B x0 x1 = V at *
          generalize redB B x0 x1 = B1 at *
          have c0 := BB.cell
          have l0 := BB.lt
          go_wp2_with fail
          refine (redeem_any H2 ok1 x0 x1).mono ?_
          rintro e w2 ⟨rfl, H3, hf2⟩
          have hF2 := hF1.trans hf2
          replace BB := BB.frT hf2 (.inl (by omega))
          clear c0 l0
          rw [s1] at H3
          rw [s2, t2]
          have c0 := BB.cell
          have l0 := BB.lt
          go_wp2_with fail
          refine (redeem_any H3 ok1 x0 x2).mono ?_
          rintro e w3 ⟨rfl, H4, hf3⟩
          have hF3 := hF2.trans hf3
          rw [s4]
          have t3' : (redE B1 x0 x2 != 0) = true := by simpa using t3
          clear t3 s4 s3 s1 s2 t2 he
          generalize redE B1 x0 x2 = E at *
          go_wp2_with fail
          refine (awake_any _).mono ?_
          rintro e w4 ⟨rfl, hb4⟩
          go_wp2_with fail
          go_ret
          exact ⟨by simp, ((Below.refl _ _).alloc (Nat.le_refl _) _).trans (((hF3.trans (.of_below hb4)).below (by simp)).mono (by simp))⟩
        · obtain ⟨s1, s2⟩ := red_same he
          rw [s2]
          have he' : (redE B x0 x1 != 0) = true := by simpa using he
          clear he
          generalize redE B x0 x1 = E at *
          go_wp2_with fail
          refine (awake_any _).mono ?_
          rintro e w4 ⟨rfl, hb4⟩
          go_wp2_with fail
          go_ret
          exact ⟨by simp, ((Below.refl _ _).alloc (Nat.le_refl _) _).trans (((hF1.trans (.of_below hb4)).below (by simp)).mono (by simp))⟩

set_option maxHeartbeats 2000000 in
theorem law_passes (n : Int) (hn0 : 0 ≤ n) (hn1 : n < 4294967296) (v : Value) (l : List Stp) (x0 x1 : Int) (w : World) (hl : RowIn w v 4 encS l) :
    Calls Try.prog 9 #[.int .u32 n, v, .agg #[.int .i64 x0, .int .i64 x1]] w fun e w' => e = .returned (.bool true) ∧ Below w.heap.size w w' := by
  obtain ⟨hs1, hs2⟩ := spanV_bd hn0
  obtain ⟨oa, cap, rfl, hlc1, hlc2, _, hlc⟩ := hl.at_
  unfold maxLen at hlc2
  have BA := Blk.new w 59 #[.int .i64 x0, .int .i64 x1]
  have c0 := BA.cell
  by_cases h100 : l.length > 100
  · have h100' : (l.length : Int) > 100 := by omega
    go_enter Try.func9, Try.ntmps9
    go_wp2_with (go_at_call 13; refine (awake_any _).mono ?_; rintro e w1 ⟨rfl, hb1⟩)
    go_ret
    exact ⟨rfl, (((Below.refl _ _).alloc (Nat.le_refl _) _).trans (hb1.mono (by simp)))⟩
  have h100' : ¬ (l.length : Int) > 100 := by omega
  by_cases hx : x1 < x0
  · go_enter Try.func9, Try.ntmps9
    go_wp2_with (go_at_call 13; refine (awake_any _).mono ?_; rintro e w1 ⟨rfl, hb1⟩)
    go_ret
    exact ⟨rfl, (((Below.refl _ _).alloc (Nat.le_refl _) _).trans (hb1.mono (by simp)))⟩
  · have HL := Lib.hid hlc
    clear hlc
    go_enter Try.func9, Try.ntmps9
    go_wp2_with (first | (go_at_call 14; refine (span_any' _ hn0 hn1 _).mono ?_; rintro e w' ⟨rfl, rfl⟩) | (go_at_call 11; refine (new_ok (spanV n) hs1 hs2 _).mono ?_; rintro e w1 ⟨rfl, H1, hb1⟩))
    generalize spanV n = S at *
    have ok0 := new_bk_ok hs1 hs2
    obtain ⟨B0, hB0⟩ : ∃ B0 : Bk, B0 = ⟨S, 0, []⟩ := ⟨_, rfl⟩
    rw [← hB0] at H1 ok0
    replace hB0 := Lib.hid hB0
    simp only [World.size_alloc] at H1 hb1
    go_loopw [9] (fun i wr => StRel (w.alloc (.cells #[.int .i64 x0, .int .i64 x1] 59)) (w.heap.size + 1) B0 l i wr) (fun i _ => (l.length - intOf i).toNat)
    case atStart => exact ⟨0, Nat.zero_le _, rfl, .of_below (by simpa using hb1), _, H1⟩
    case round =>
      obtain ⟨k, hk, rfl, hF, sv, hH⟩ := hrel
      have okk := stBs_ok ok0 (l.take k)
      have hFb := hF.below (by simp)
      have hwz := hFb.size
      simp only [World.size_alloc] at hwz
      by_cases hlt : k < l.length
      · obtain ⟨s, hx⟩ : ∃ x, l[k]? = some x := ⟨_, List.getElem?_eq_getElem hlt⟩
        obtain ⟨lb, lo, ho, hll, hlc⟩ := HL.out (by rintro rfl; simp at hlt)
        rw [ho]
        have hst := stBs_take B0 hx
        have hkl : (k : Int) < l.length := by omega
        generalize stBs B0 (l.take k) = B at *
        have q : ∀ j, wr.cell? ⟨lb, j, none⟩ = w.cell? ⟨lb, j, none⟩ := fun j => (hFb.cell (p := ⟨lb, j, none⟩) (by dsimp only; omega)).trans (((Below.refl _ _).alloc (Nat.le_refl _) _).cell (p := ⟨lb, j, none⟩) hll)
        have hlw : lb < wr.heap.size := by omega
        have e0 : World.cell? w ⟨lb, lo + k * 4, none⟩ = some (.int .i64 (s).kind) := hlc k s hx 0 (by omega); have e1 : World.cell? w ⟨lb, lo + k * 4 + 1, none⟩ = some (.int .i64 (s).a) := hlc k s hx 1 (by omega); have e2 : World.cell? w ⟨lb, lo + k * 4 + 2, none⟩ = some (.int .i64 (s).b) := hlc k s hx 2 (by omega); have e3 : World.cell? w ⟨lb, lo + k * 4 + 3, none⟩ = some (.int .i64 (s).at_) := hlc k s hx 3 (by omega)
        rw [← q] at e0 e1 e2 e3
        clear q
        go_wp2_with fail
        refine (step_any hH okk (by omega) s).mono ?_
        unfold stOut
        rintro e w1 ⟨rfl, sv', H2, hf2⟩
        have hF3 := hF.trans hf2
        rw [← hst] at H2
        clear hst hH H1 okk
        unfold encV
        go_wp2_with fail
        go_roundw
        case rel => exact ⟨k + 1, hlt, by simp, hF3, _, H2⟩
        case measure => simp [intOf]; omega
      · obtain rfl : k = l.length := by omega
        rw [List.take_length] at *
        have bO : ∀ t, 0 ≤ openV (stBs B0 l) t ∧ openV (stBs B0 l) t ≤ 512000000 ∧ 0 ≤ lapV (stBs B0 l) t ∧ lapV (stBs B0 l) t ≤ 512000000 := by
          intro t
          have b1 := sumIf_bd (isOpen t) _ okk.amt
          have b2 := sumIf_bd (isLapsed t) _ okk.amt
          have b3 := okk.len
          unfold openV lapV; split <;> omega
        have hp := fun h1 h2 => passes (stBs B0 l) okk x0 x1 (by omega) h1 h2
        have b0 := bO x0
        have b1 := bO x1
        generalize stBs B0 l = B at *
        clear H1 ok0 c0 bO
        have BB := BA.frT hF (.inl (by omega))
        have c0 := BB.cell
        have l0 := BB.lt
        go_wp2_with fail
        refine (open_any hH okk x0).mono ?_
        rintro e w1 ⟨rfl, hb1⟩
        clear c0 l0
        replace BB := BB.step hb1
        have hH1 := hH.step hb1
        have hF1 := hF.trans (.of_below hb1)
        have c0 := BB.cell
        have l0 := BB.lt
        go_wp2_with fail
        refine (lapsed_any hH1 okk x1).mono ?_
        rintro e w2 ⟨rfl, hb2⟩
        clear c0 l0
        replace BB := BB.step hb2
        have hH2 := hH1.step hb2
        have hF2 := hF1.trans (.of_below hb2)
        have c0 := BB.cell
        have l0 := BB.lt
        go_wp2_with fail
        refine (open_any hH2 okk x1).mono ?_
        rintro e w3 ⟨rfl, hb3⟩
        clear c0 l0
        replace BB := BB.step hb3
        have hH3 := hH2.step hb3
        have hF3 := hF2.trans (.of_below hb3)
        have c0 := BB.cell
        have l0 := BB.lt
        go_wp2_with fail
        refine (lapsed_any hH3 okk x0).mono ?_
        rintro e w4 ⟨rfl, hb4⟩
        clear c0 l0
        replace BB := BB.step hb4
        have hH4 := hH3.step hb4
        have hF4 := hF3.trans (.of_below hb4)
        have c0 := BB.cell
        have l0 := BB.lt
        go_wp2_with fail
        refine (open_any hH4 okk x0).mono ?_
        rintro e w5 ⟨rfl, hb5⟩
        clear c0 l0
        replace BB := BB.step hb5
        have hH5 := hH4.step hb5
        have hF5 := hF4.trans (.of_below hb5)
        generalize openV B x0 = O0 at *
        generalize openV B x1 = O1 at *
        generalize lapV B x0 = L0 at *
        generalize lapV B x1 = L1 at *
        by_cases hm0 : momE B x0 = 0
        · rw [hm0]
          by_cases hm1 : momE B x1 = 0
          · rw [hm1]
            obtain ⟨p1, p2, p3⟩ := hp hm0 hm1
            clear hp hm0 hm1
            have p3' : (O0 + L0 == O1 + L1) = true := by simpa using p3
            clear p3
            go_wp2_with fail
            refine (awake_any _).mono ?_
            rintro e w6 ⟨rfl, hb6⟩
            go_wp2_with fail
            go_ret
            exact ⟨by simp, ((Below.refl _ _).alloc (Nat.le_refl _) _).trans (((hF5.trans (.of_below hb6)).below (by simp)).mono (by simp))⟩
          · have hm1' : (momE B x1 != 0) = true := by simpa using hm1
            clear hp hm0 hm1
            generalize momE B x1 = E1 at *
            go_wp2_with fail
            refine (awake_any _).mono ?_
            rintro e w6 ⟨rfl, hb6⟩
            go_wp2_with fail
            go_ret
            exact ⟨by simp, ((Below.refl _ _).alloc (Nat.le_refl _) _).trans (((hF5.trans (.of_below hb6)).below (by simp)).mono (by simp))⟩
        · have hm0' : (momE B x0 != 0) = true := by simpa using hm0
          clear hp hm0
          generalize momE B x1 = E1 at *
          generalize momE B x0 = E0 at *
          go_wp2_with fail
          refine (awake_any _).mono ?_
          rintro e w6 ⟨rfl, hb6⟩
          go_wp2_with fail
          go_ret
          exact ⟨by simp, ((Below.refl _ _).alloc (Nat.le_refl _) _).trans (((hF5.trans (.of_below hb6)).below (by simp)).mono (by simp))⟩

theorem moment_nil (t : Int) (w : World) : Calls Try.prog 29 #[.pointer none, .int .i64 t] w fun e w' => e = .returned (.int .i64 14) ∧ w = w' := by
  go_enter Try.func29, Try.ntmps29
  go_wp2_with fail
  go_ret
  exact ⟨rfl, rfl⟩
theorem issue_nil (m a t : Int) (w : World) : Calls Try.prog 22 #[.pointer none, .int .i64 m, .int .i64 a, .int .i64 t] w fun e w' => e = .returned (.tuple #[.agg #[.int .i64 0, .int .i64 0, .int .i64 0, .int .i64 0, .int .i64 0], .int .i64 14]) ∧ Below w.heap.size w w' := by
  go_enter Try.func22, Try.ntmps22
  go_wp2_with fail
  refine bodyPost_ret (v := .tuple #[.agg #[.int .i64 0, .int .i64 0, .int .i64 0, .int .i64 0, .int .i64 0], .int .i64 14]) (by simp only [results, Try.results22]; go_simp; first | done | rfl) rfl ⟨rfl, ?_⟩
  repeat (first | (with_reducible exact Below.refl _ _) | (with_reducible assumption) | (with_reducible refine Below.drew ?_) | ((with_reducible refine Below.alloc ?_ ?_ _); rotate_left; (first | (with_reducible exact Nat.zero_le _) | (with_reducible exact Nat.le_refl _) | omega | (dsimp only; omega) | (simp only [World.size_alloc, World.size_setCell, World.size_drew]; omega))) | ((with_reducible refine Below.setCell ?_ ?_ _); rotate_left; (first | (with_reducible exact Nat.zero_le _) | (with_reducible exact Nat.le_refl _) | omega | (dsimp only; omega) | (simp only [World.size_alloc, World.size_setCell, World.size_drew]; omega))))
theorem redeem_nil (m t : Int) (w : World) : Calls Try.prog 21 #[.pointer none, .int .i64 m, .int .i64 t] w fun e w' => e = .returned (.tuple #[.int .i64 (0), .int .i64 (14)]) ∧ Below w.heap.size w w' := by
  go_enter Try.func21, Try.ntmps21
  go_wp2_with (go_at_call 29; refine (moment_nil _ _).mono ?_; rintro e w' ⟨rfl, rfl⟩)
  go_ret2
  exact ⟨rfl, Below.refl _ _⟩
theorem open_nil (t : Int) (w : World) : Calls Try.prog 19 #[.pointer none, .int .i64 t] w fun e w' => e = .returned (.tuple #[.int .i64 (0), .int .i64 (14)]) ∧ Below w.heap.size w w' := by
  go_enter Try.func19, Try.ntmps19
  go_wp2_with (go_at_call 29; refine (moment_nil _ _).mono ?_; rintro e w' ⟨rfl, rfl⟩)
  go_ret2
  refine ⟨rfl, ?_⟩
  repeat (first | (with_reducible exact Below.refl _ _) | (with_reducible assumption) | (with_reducible refine Below.drew ?_) | ((with_reducible refine Below.alloc ?_ ?_ _); rotate_left; (first | (with_reducible exact Nat.zero_le _) | (with_reducible exact Nat.le_refl _) | omega | (dsimp only; omega) | (simp only [World.size_alloc, World.size_setCell, World.size_drew]; omega))) | ((with_reducible refine Below.setCell ?_ ?_ _); rotate_left; (first | (with_reducible exact Nat.zero_le _) | (with_reducible exact Nat.le_refl _) | omega | (dsimp only; omega) | (simp only [World.size_alloc, World.size_setCell, World.size_drew]; omega))))
theorem lapsed_nil (t : Int) (w : World) : Calls Try.prog 20 #[.pointer none, .int .i64 t] w fun e w' => e = .returned (.tuple #[.int .i64 (0), .int .i64 (14)]) ∧ Below w.heap.size w w' := by
  go_enter Try.func20, Try.ntmps20
  go_wp2_with (go_at_call 29; refine (moment_nil _ _).mono ?_; rintro e w' ⟨rfl, rfl⟩)
  go_ret2
  refine ⟨rfl, ?_⟩
  repeat (first | (with_reducible exact Below.refl _ _) | (with_reducible assumption) | (with_reducible refine Below.drew ?_) | ((with_reducible refine Below.alloc ?_ ?_ _); rotate_left; (first | (with_reducible exact Nat.zero_le _) | (with_reducible exact Nat.le_refl _) | omega | (dsimp only; omega) | (simp only [World.size_alloc, World.size_setCell, World.size_drew]; omega))) | ((with_reducible refine Below.setCell ?_ ?_ _); rotate_left; (first | (with_reducible exact Nat.zero_le _) | (with_reducible exact Nat.le_refl _) | omega | (dsimp only; omega) | (simp only [World.size_alloc, World.size_setCell, World.size_drew]; omega))))
theorem sum_nil (f : Value) (w : World) : Calls Try.prog 26 #[.pointer none, f] w fun e w' => e = .returned (.int .i64 0) ∧ w = w' := by
  go_enter Try.func26, Try.ntmps26
  go_wp2_with fail
  go_ret
  exact ⟨rfl, rfl⟩
theorem totals_nil (w : World) : Calls Try.prog 17 #[.pointer none] w fun e w' => e = .returned (.tuple #[.int .i64 (0), .int .i64 (0)]) ∧ Below w.heap.size w w' := by
  go_enter Try.func17, Try.ntmps17
  go_wp2_with (go_at_call 26; refine (sum_nil _ _).mono ?_; rintro e w' ⟨rfl, rfl⟩)
  go_ret2
  exact ⟨rfl, Below.refl _ _⟩

set_option maxHeartbeats 1000000 in
theorem law_nil (x0 x1 x2 x3 : Int) (w : World) : Calls Try.prog 10 #[.agg #[.int .i64 x0, .int .i64 x1, .int .i64 x2, .int .i64 x3]] w fun e w' => e = .returned (.bool true) ∧ Below w.heap.size w w' := by
  have BB := Blk.new w 61 #[.int .i64 x0, .int .i64 x1, .int .i64 x2, .int .i64 x3]
  have c0 := BB.cell
  have l0 := BB.lt
  have hF : Below w.heap.size w (w.alloc (.cells #[.int .i64 x0, .int .i64 x1, .int .i64 x2, .int .i64 x3] 61)) := (Below.refl _ _).alloc (Nat.le_refl _) _
  go_enter Try.func10, Try.ntmps10
  go_wp2_with fail
  refine (issue_nil _ _ _ _).mono ?_
  rintro e w1 ⟨rfl, hb1⟩
  clear c0 l0
  replace BB := (BB.step hb1).alloc (.cells #[.int .i64 0, .int .i64 0, .int .i64 0, .int .i64 0, .int .i64 0] 38)
  have BV := Blk.new w1 38 #[.int .i64 0, .int .i64 0, .int .i64 0, .int .i64 0, .int .i64 0]
  replace hF := hF.trans (hb1.mono hF.size)
  replace hF := hF.alloc hF.size (.cells #[.int .i64 0, .int .i64 0, .int .i64 0, .int .i64 0, .int .i64 0] 38)
  have c0 := BB.cell
  have l0 := BB.lt
  have c1 := BV.cell
  have l1 := BV.lt
  go_wp2_with fail
  refine (redeem_nil _ _ _).mono ?_
  rintro e w2 ⟨rfl, hb2⟩
  clear c0 l0 c1 l1
  replace BB := BB.step hb2
  replace BV := BV.step hb2
  replace hF := hF.trans (hb2.mono hF.size)
  have c0 := BB.cell
  have l0 := BB.lt
  have c1 := BV.cell
  have l1 := BV.lt
  go_wp2_with fail
  refine (open_nil _ _).mono ?_
  rintro e w3 ⟨rfl, hb3⟩
  clear c0 l0 c1 l1
  replace BB := BB.step hb3
  replace BV := BV.step hb3
  replace hF := hF.trans (hb3.mono hF.size)
  have c0 := BB.cell
  have l0 := BB.lt
  have c1 := BV.cell
  have l1 := BV.lt
  go_wp2_with fail
  refine (lapsed_nil _ _).mono ?_
  rintro e w4 ⟨rfl, hb4⟩
  clear c0 l0 c1 l1
  replace BB := BB.step hb4
  replace BV := BV.step hb4
  replace hF := hF.trans (hb4.mono hF.size)
  have c0 := BB.cell
  have l0 := BB.lt
  have c1 := BV.cell
  have l1 := BV.lt
  go_wp2_with fail
  refine (totals_nil _).mono ?_
  rintro e w5 ⟨rfl, hb5⟩
  clear c0 l0 c1 l1
  replace BB := BB.step hb5
  replace BV := BV.step hb5
  replace hF := hF.trans (hb5.mono hF.size)
  have c0 := BB.cell
  have l0 := BB.lt
  have c1 := BV.cell
  have l1 := BV.lt
  go_wp2_with fail
  refine (awake_any _).mono ?_
  rintro e w6 ⟨rfl, hb6⟩
  clear c0 l0 c1 l1
  replace BB := BB.step hb6
  replace BV := BV.step hb6
  replace hF := hF.trans (hb6.mono hF.size)
  go_wp2_with fail
  go_ret
  exact ⟨by simp, hF⟩

end Go.Proofs.Ytbpeiljpbcgjaaa
