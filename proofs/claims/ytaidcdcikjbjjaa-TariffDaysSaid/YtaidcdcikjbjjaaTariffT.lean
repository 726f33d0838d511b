/- The law TariffDays: the walk. -/
import Derived.Test.YtaidcdcikjbjjaaTariffK
import Derived.Test.YtaidcdcikjbjjaaTariffS
import Derived.Test.YtaidcdcikjbjjaaInts
import Derived.Deep.DeepCutAuto
import Derived.Deep.OwnRows
import Derived.BigQuiet
namespace Go.Proofs.Ytaidcdcikjbjjaa
set_option linter.unusedVariables false
set_option linter.unusedSimpArgs false
open Go.RowKit

def DayRel (w2 : World) (l : List Tf) (a b : Int) (y d : Value) (wr : World) : Prop :=
  ∃ n : Nat, a + n ≤ b ∧ d = .int .i64 (a + n) ∧ y = .bool (early l a n) ∧ Below w2.heap.size w2 wr ∧ Blk wr w2.heap.size 3 (ints (dayL l a n))
def ItRel (w2 : World) (l : List Tf) (a b : Int) (n : Nat) (t i : Value) (wr : World) : Prop :=
  ∃ k : Nat, k ≤ l.length ∧ i = .int .i64 k ∧ t = .int .i64 ((itemsTo l a b k).length : Nat) ∧ Below w2.heap.size w2 wr ∧ Blk wr w2.heap.size 3 (ints (dayL l a n))

set_option maxRecDepth 100000 in
set_option maxHeartbeats 8000000 in
theorem law_days {w : World} {v : Value} {l : List Tf} (hl : RowIn w v 5 encT l) (a b : Int) : Calls Try.prog 8 #[v, .agg #[.int .i64 a, .int .i64 b]] w fun e w' => e = .returned (.bool true) ∧ Below w.heap.size w w' := by
  obtain ⟨oa, cap, hv, hlc1, hlc2, _, hlc⟩ := hl.at_
  unfold maxLen at hlc2
  have HL := Lib.hid hlc
  clear hlc
  subst hv
  have hb0 : Below w.heap.size w (w.alloc (.cells #[.int .i64 a, .int .i64 b] 44)) := by repeat (first | (with_reducible exact Below.refl _ _) | (with_reducible assumption) | (with_reducible refine Below.drew ?_) | ((with_reducible refine Below.alloc ?_ ?_ _); rotate_left; (first | (with_reducible exact Nat.zero_le _) | (with_reducible exact Nat.le_refl _) | omega | (dsimp only; omega) | (simp only [World.size_alloc, World.size_setCell, World.size_drew]; omega))) | ((with_reducible refine Below.setCell ?_ ?_ _); rotate_left; (first | (with_reducible exact Nat.zero_le _) | (with_reducible exact Nat.le_refl _) | omega | (dsimp only; omega) | (simp only [World.size_alloc, World.size_setCell, World.size_drew]; omega))))
  have B0 := Blk.new w 44 #[.int .i64 a, .int .i64 b]
  have hl1 := hl.step (w' := w.alloc (.cells #[.int .i64 a, .int .i64 b] 44)) (by repeat (first | (with_reducible exact Below.refl _ _) | (with_reducible assumption) | (with_reducible refine Below.drew ?_) | ((with_reducible refine Below.alloc ?_ ?_ _); rotate_left; (first | (with_reducible exact Nat.zero_le _) | (with_reducible exact Nat.le_refl _) | omega | (dsimp only; omega) | (simp only [World.size_alloc, World.size_setCell, World.size_drew]; omega))) | ((with_reducible refine Below.setCell ?_ ?_ _); rotate_left; (first | (with_reducible exact Nat.zero_le _) | (with_reducible exact Nat.le_refl _) | omega | (dsimp only; omega) | (simp only [World.size_alloc, World.size_setCell, World.size_drew]; omega)))))
  have hck := fun w h => check_any (w := w) (v := .slice oa l.length cap) (l := l) h
  by_cases hc : (l.length : Int) > 100 ∨ a < 0 ∨ b > 36525 ∨ a > b ∨ b - a > 400
  · have hc' : (l.length : Int) > 100 ∨ (¬ (l.length : Int) > 100 ∧ a < 0) ∨ (¬ (l.length : Int) > 100 ∧ ¬ a < 0 ∧ b > 36525) ∨ (¬ (l.length : Int) > 100 ∧ ¬ a < 0 ∧ ¬ b > 36525 ∧ a > b) ∨
        (¬ (l.length : Int) > 100 ∧ ¬ a < 0 ∧ ¬ b > 36525 ∧ ¬ a > b ∧ b - a > 400) := by omega
    clear hc hck
    rcases hc' with h1 | ⟨h1, h2⟩ | ⟨h1, h2, h3⟩ | ⟨h1, h2, h3, h4⟩ | ⟨h1, h2, h3, h4, h5⟩
    all_goals (
      have c0 := B0.cell
      go_enter Try.func8, Try.ntmps8
      go_wp2_with fail
      refine (awake_any _).mono ?_
      rintro e w1 ⟨rfl, hb1⟩
      go_wp2_with fail
      go_ret
      exact ⟨rfl, hb0.trans (hb1.mono hb0.size)⟩)
  have h1 : ¬ (l.length : Int) > 100 := by omega
  have h2 : ¬ a < 0 := by omega
  have h3 : ¬ b > 36525 := by omega
  have h4 : ¬ a > b := by omega
  have h5 : ¬ b - a > 400 := by omega
  have h5' : b - a ≤ 400 := by omega
  clear hc
  have c0 := B0.cell
  by_cases ht : tchk l = 0
  · have hT := Lib.hid (tchk_ok ht)
    rw [ht] at hck
    have HT := Lib.hid ht
    clear ht
    obtain ⟨ti, hi, hz, hsi, hby⟩ := info_of (P := Try.prog) (t := 3) (z := .int .i64 0) (size := 1) (bytes := 8) (by kernel_rfl)
    have h8 := hT.out.len
    have hpos := hT.out.pos
    obtain ⟨lb, lo, ho, hll, hlc⟩ := HL.out (by rintro rfl; simp at hpos)
    have HLC := Lib.hid hlc
    clear hlc
    subst ho
    have hk8 : (l.length : Int) ≤ 8 := by omega
    go_enter Try.func8, Try.ntmps8
    go_wp2_with fail
    refine (hck _ hl1).mono ?_
    rintro e w1 ⟨rfl, hb1⟩
    replace B0 := B0.step hb1
    replace hl1 := hl1.step hb1
    replace hb0 := hb0.trans (hb1.mono hb0.size)
    clear c0
    have c0 := B0.cell
    have l0 := B0.lt
    go_wp2_with fail
    refine (base_any hl1 a b).mono ?_
    rintro e w2 ⟨v2, rfl, R2, hb2⟩
    replace B0 := B0.step hb2
    replace hl1 := hl1.step hb2
    replace hb0 := hb0.trans (hb2.mono hb0.size)
    clear c0 l0 hck hb1 hb2
    have hs2 := hb0.size
    obtain ⟨o2, p2, rfl, k21, k22, _, k2c⟩ := R2.at_
    unfold maxLen at k22
    have HR := Lib.hid k2c
    clear k2c
    have c0 := B0.cell
    have l0 := B0.lt
    go_wp2_with (refine wpList_make_row _ rfl _ _ 47 rfl 3 ti (.int .i64 0) Try.underlying47 hi hz hsi (by rfl) .i64 .i64 l.length rfl rfl (by rw [hby]; omega) (by omega) ?_)
    rw [ints_made, ← dayL_zero l a]
    have BD := Blk.new w2 3 (ints (dayL l a 0))
    have hbd : Below w2.heap.size w2 (w2.alloc (.cells (ints (dayL l a 0)) 3)) := by repeat (first | (with_reducible exact Below.refl _ _) | (with_reducible assumption) | (with_reducible refine Below.drew ?_) | ((with_reducible refine Below.alloc ?_ ?_ _); rotate_left; (first | (with_reducible exact Nat.zero_le _) | (with_reducible exact Nat.le_refl _) | omega | (dsimp only; omega) | (simp only [World.size_alloc, World.size_setCell, World.size_drew]; omega))) | ((with_reducible refine Below.setCell ?_ ?_ _); rotate_left; (first | (with_reducible exact Nat.zero_le _) | (with_reducible exact Nat.le_refl _) | omega | (dsimp only; omega) | (simp only [World.size_alloc, World.size_setCell, World.size_drew]; omega))))
    go_loopw [8, 9] (fun y d wr => DayRel w2 l a b y d wr) (fun _ d _ => (b - intOf d).toNat)
    case atStart => exact ⟨0, by omega, by simp, by simp [early], hbd, BD⟩
    case round =>
      clear c0 l0 BD hbd
      obtain ⟨n, hn, rfl, rfl, hbr, BR⟩ := hrel
      have hwr := hbr.size
      have BX := B0.step hbr
      have c0 := BX.cell
      by_cases hlt : a + n < b
      · go_wp2_with fail
        refine (at_any (hl1.step hbr) (a + n)).mono ?_
        rintro e w3 ⟨rfl, hb3⟩
        replace BR := BR.step hb3
        replace hbr := hbr.trans (hb3.mono hbr.size)
        clear c0 BX
        rcases at_ok hT.out (d := a + n) (by omega) (by omega) HT.out with ⟨e1, e2⟩ | ⟨e1, i, e2, e3, e4, e5⟩
        · have e1' : (atE l (a + n) != 0) = true := by simpa using e1
          have E2 := Lib.hid e2
          clear e1 e2
          generalize atE l (a + n) = E at *
          generalize atV l (a + n) = V at *
          go_wp2_with fail
          go_roundw
          case rel => exact ⟨n + 1, by omega, by simp [Int.add_assoc], by rw [early_miss a n E2.out], hbr, by rw [dayL_miss hT.out a n E2.out]; exact BR⟩
          case measure => simp [intOf]; omega
        · rw [e1, e2]
          clear e1 e2
          have hdl := dayL_hit hT.out a n e3 e4 e5
          have hel := early_hit hT.out a n e3 e4 (fun h => by subst h; simpa using e4)
          have HD := Lib.hid hdl
          have HE := Lib.hid hel
          clear hdl hel
          have E5 := Lib.hid e5
          clear e5
          obtain ⟨x, hx⟩ : ∃ x, l[i]? = some x := ⟨_, List.getElem?_eq_getElem e3⟩
          rw [getD_of hx] at e4
          have hbt := hb0.trans (hbr.mono hb0.size)
          have f0 : World.cell? w3 ⟨lb, lo + i * 5, none⟩ = some (.int .i64 x.frm) := (hbt.cell (p := ⟨lb, lo + i * 5, none⟩) hll).trans (HLC.out i x hx 0 (by omega))
          have cd : World.cell? w3 ⟨w2.heap.size, i, none⟩ = some (.int .i64 (cntTo l i a n)) := BR.geti (dayL_get l a n e3)
          have fd := BR.free i
          have hcb := cnt_bd l i a n
          obtain ⟨hcb1, hcb2⟩ := hcb
          have hn4 : (n : Int) ≤ 400 := by omega
          have hi0 : (0 : Int) ≤ i := by omega
          have hil : (i : Int) < l.length := by omega
          have lwd := BR.lt
          by_cases hi1 : i + 1 < l.length
          · obtain ⟨y, hy⟩ : ∃ y, l[i + 1]? = some y := ⟨_, List.getElem?_eq_getElem hi1⟩
            have e5 := E5.out (i + 1) (by omega) hi1
            rw [getD_of hy] at e5
            have f1 : World.cell? w3 ⟨lb, lo + (i + 1) * 5, none⟩ = some (.int .i64 y.frm) := (hbt.cell (p := ⟨lb, lo + (i + 1) * 5, none⟩) hll).trans (HLC.out (i + 1) y hy 0 (by omega))
            have hi2 : (i : Int) + 1 < l.length := by omega
            have ht1 : ((i : Int) + 1).toNat = i + 1 := by omega
            generalize cntTo l i a n = C at *
            go_wp2_with fail
            go_roundw
            case rel => exact ⟨n + 1, by omega, by simp [Int.add_assoc], by rw [HE.out], hbr.setCell (by simp) _, by rw [HD.out]; exact BR.seti i (C + 1)⟩
            case measure => simp [intOf]; omega
          · have hi2 : ¬ (i : Int) + 1 < l.length := by omega
            generalize cntTo l i a n = C at *
            go_wp2_with fail
            go_roundw
            case rel => exact ⟨n + 1, by omega, by simp [Int.add_assoc], by rw [HE.out], hbr.setCell (by simp) _, by rw [HD.out]; exact BR.seti i (C + 1)⟩
            case measure => simp [intOf]; omega
      · obtain rfl : b = a + n := by omega
        clear hlt
        by_cases he : 0 < n ∧ a < (l.getD 0 tf0).frm
        · have hy : early l a n = true := decide_eq_true he
          have q1 : bE l a (a + n) = 7 := by unfold bE; rw [if_neg (by simp [HT.out]), if_neg (by omega), if_pos (by omega)]
          have q2 : bL l a (a + n) = [] := by unfold bL; rw [if_neg (by omega)]
          rw [hy, q1, q2]
          clear hy q1 q2 he HR R2 k21
          simp only [List.length_nil]
          go_wp2_with fail
          refine (awake_any _).mono ?_
          rintro e w9 ⟨rfl, hb9⟩
          go_wp2_with fail
          go_ret
          exact ⟨by simp, hb0.trans ((hbr.mono hb0.size).trans (hb9.mono (Nat.le_trans hb0.size hbr.size)))⟩
        · have hy : early l a n = false := decide_eq_false he
          have q1 : bE l a (a + n) = 0 := by unfold bE; rw [if_neg (by simp [HT.out]), if_neg (by omega), if_neg (by omega)]
          have q2 : bL l a (a + n) = itemsTo l a (a + n) l.length := by unfold bL; rw [if_pos q1]
          rw [q2] at HR R2 k21
          rw [hy, q1, q2]
          clear hy q1 q2 he
          have hn4 : (n : Int) ≤ 400 := by omega
          have hcnt := fun (k : Nat) (hk : k < l.length) => cntTo_eq hT.out hk a n
          have HCN := Lib.hid hcnt
          clear hcnt
          have hbb : a + n ≤ 36525 := h3
          generalize hb9 : a + (n : Int) = b at *
          clear hb9
          have hNl : (itemsTo l a b l.length).length ≤ 8 := Nat.le_trans (itemsTo_len l a b l.length) h8
          go_wp2_with fail
          go_loopw [12, 13] (fun t i wr => ItRel w2 l a b n t i wr) (fun _ i _ => (l.length - intOf i).toNat)
          case atStart => exact ⟨0, Nat.zero_le _, rfl, rfl, hbr, BR⟩
          case round =>
            clear hbr BR c0 BX B0 hwr
            obtain ⟨k, hk, rfl, rfl, hbr, BR⟩ := hrel
            have hwr := hbr.size
            have lwd := BR.lt
            by_cases hlt : k < l.length
            · obtain ⟨x, hx⟩ : ∃ x, l[k]? = some x := ⟨_, List.getElem?_eq_getElem hlt⟩
              have hkl : (k : Int) < l.length := by omega
              have hk0 : (0 : Int) ≤ k := by omega
              have cd : World.cell? wr ⟨w2.heap.size, k, none⟩ = some (.int .i64 (cntTo l k a n)) := BR.geti (dayL_get l a n hlt)
              rw [HCN.out k hlt] at cd
              have hcb := cnt_bd l k a n
              rw [HCN.out k hlt] at hcb
              by_cases hd : dOf l a b k > 0
              · rw [if_pos hd] at cd hcb
                have hbt := hb0.trans (hbr.mono hb0.size)
                have f1 : World.cell? wr ⟨lb, lo + k * 5 + 1, none⟩ = some (.int .i64 x.base) := (hbt.cell (p := ⟨lb, lo + k * 5 + 1, none⟩) hll).trans (HLC.out k x hx 1 (by omega))
                have hat := itemsTo_at hlt hd
                rw [getD_of hx] at hat
                have hst := itemsTo_step hd
                have hbx := tok_bd (hT.out.ok k hlt)
                rw [getD_of hx] at hbx
                obtain ⟨_, _, x1, x2, _⟩ := hbx
                have hAN : (itemsTo l a b k).length < (itemsTo l a b l.length).length := (List.getElem?_eq_some_iff.1 hat).1
                obtain ⟨rb, ro, hro, hrz, hrc⟩ := HR.out (by intro h0; rw [h0] at hAN; simp at hAN)
                have g0 := hrc _ _ hat 0 (by omega)
                have g1 := hrc _ _ hat 1 (by omega)
                have g2 := hrc _ _ hat 2 (by omega)
                have g3 := hrc _ _ hat 3 (by omega)
                have g4 := hrc _ _ hat 4 (by omega)
                have HST := Lib.hid hst
                clear hst hat hrc
                generalize (itemsTo l a b k).length = A at *
                generalize (itemsTo l a b l.length).length = N at *
                generalize dOf l a b k = D at *
                obtain ⟨hd1, hd2⟩ := hcb
                have hD0 : (D == 0) = false := by rw [beq_eq_false_iff_ne]; omega
                have p1 : 0 ≤ D * x.base := Int.mul_nonneg hd1 x1
                have p2' : D * x.base ≤ 400 * 100000 := Int.mul_le_mul (by omega) x2 x1 (by omega)
                have hAN' : (A : Int) < N := by omega
                have hA0 : (0 : Int) ≤ A := by omega
                rw [hro]
                go_wp2_with fail
                have b0 : ∀ y : BW wr, y.w.cell? ⟨rb, ro + A * 5, none⟩ = some (.int .i64 1) := fun y => ((hbr.trans (y.h.mono hwr)).cell (p := ⟨rb, ro + A * 5, none⟩) hrz).trans g0
                have b1 : ∀ y : BW wr, y.w.cell? ⟨rb, ro + A * 5 + 1, none⟩ = some (.int .i64 k) := fun y => ((hbr.trans (y.h.mono hwr)).cell (p := ⟨rb, ro + A * 5 + 1, none⟩) hrz).trans g1
                have b2 : ∀ y : BW wr, y.w.cell? ⟨rb, ro + A * 5 + 2, none⟩ = some (.int .i64 D) := fun y => ((hbr.trans (y.h.mono hwr)).cell (p := ⟨rb, ro + A * 5 + 2, none⟩) hrz).trans g2
                have b3 : ∀ y : BW wr, y.w.cell? ⟨rb, ro + A * 5 + 3, none⟩ = some (.int .i64 x.base) := fun y => ((hbr.trans (y.h.mono hwr)).cell (p := ⟨rb, ro + A * 5 + 3, none⟩) hrz).trans g3
                have b4 : ∀ y : BW wr, y.w.cell? ⟨rb, ro + A * 5 + 4, none⟩ = some (.int .i64 (D * x.base)) := fun y => ((hbr.trans (y.h.mono hwr)).cell (p := ⟨rb, ro + A * 5 + 4, none⟩) hrz).trans g4
                have b5 : ∀ y : BW wr, y.w.cell? ⟨w2.heap.size, k, none⟩ = some (.int .i64 D) := fun y => (y.cell lwd).trans cd
                have b6 : ∀ y : BW wr, y.w.cell? ⟨lb, lo + k * 5 + 1, none⟩ = some (.int .i64 x.base) := fun y => (y.cell (by omega)).trans f1
                clear g0 g1 g2 g3 g4 cd f1
                have j1 : decide (N ≤ A) = false := decide_eq_false (by omega)
                have j2 : decide ((N : Int) ≤ A) = false := decide_eq_false (by omega)
                refine wp_region_calm (by kernel_rfl) (by kernel_rfl) ?_
                repeat (go_big_quiet_step (fail))
                refine wpQuiet_nil ?_
                intro w5 hb5
                clear b0 b1 b2 b3 b4 b5 b6 j1 j2
                go_wp2_with fail
                go_roundw
                case rel => exact ⟨k + 1, hlt, by simp, by rw [HST.out]; simp, hbr.trans (hb5.mono hwr), BR.step hb5⟩
                case measure => simp [intOf]; omega
              · rw [if_neg hd] at cd
                have hsk := itemsTo_skip hd
                have HSK := Lib.hid hsk
                clear hsk hd hcb
                go_wp2_with fail
                go_roundw
                case rel => exact ⟨k + 1, hlt, by simp, by rw [HSK.out], hbr, BR⟩
                case measure => simp [intOf]; omega
            · obtain rfl : k = l.length := by omega
              clear hlt
              generalize (itemsTo l a b l.length).length = N at *
              go_wp2_with fail
              refine (awake_any _).mono ?_
              rintro e w9 ⟨rfl, hb9⟩
              go_wp2_with fail
              go_ret
              exact ⟨by simp, hb0.trans ((hbr.mono hb0.size).trans (hb9.mono (Nat.le_trans hb0.size hbr.size)))⟩
  · have ht' : (tchk l != 0) = true := by simpa using ht
    clear ht
    generalize tchk l = E at *
    go_enter Try.func8, Try.ntmps8
    go_wp2_with fail
    refine (hck _ hl1).mono ?_
    rintro e w1 ⟨rfl, hb1⟩
    replace hb0 := hb0.trans (hb1.mono hb0.size)
    go_wp2_with fail
    refine (awake_any _).mono ?_
    rintro e w2 ⟨rfl, hb2⟩
    go_wp2_with fail
    go_ret
    exact ⟨rfl, hb0.trans (hb2.mono hb0.size)⟩

end Go.Proofs.Ytaidcdcikjbjjaa
