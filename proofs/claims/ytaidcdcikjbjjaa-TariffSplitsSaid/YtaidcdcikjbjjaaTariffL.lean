/- Contract: the law's total; the law TariffSplits. -/
import Derived.Test.YtaidcdcikjbjjaaTariffK
import Derived.Test.YtaidcdcikjbjjaaTariffQ
import Derived.Deep.DeepCutAuto
namespace Go.Proofs.Ytaidcdcikjbjjaa
set_option linter.unusedVariables false
set_option linter.unusedSimpArgs false
open Go.RowKit

def TotRel (w : World) (l : List Itm) (n i : Value) (wr : World) : Prop := ∃ k : Nat, k ≤ l.length ∧ i = .int .i64 k ∧ n = .int .i64 (tot (l.take k)) ∧ Below w.heap.size w wr
set_option maxHeartbeats 1000000 in
theorem total_any {w : World} {v : Value} {l : List Itm} (hl : RowIn w v 5 encI l) (hbd : ∀ x ∈ l, 0 ≤ x.amt ∧ x.amt ≤ 3652500000000) (hn : l.length ≤ 1000) : Calls Try.prog 22 #[v] w fun e w' => e = .returned (.int .i64 (tot l)) ∧ Below w.heap.size w w' := by
  obtain ⟨oa, cap, rfl, hlc1, hlc2, _, hlc⟩ := hl.at_
  unfold maxLen at hlc2
  have HL := Lib.hid hlc
  have HB := Lib.hid hbd
  clear hlc hbd
  go_enter Try.func22, Try.ntmps22
  go_wp2_with fail
  go_loopw [3, 4] (fun n i wr => TotRel w l n i wr) (fun _ i _ => (l.length - intOf i).toNat)
  case atStart => exact ⟨0, Nat.zero_le _, rfl, rfl, Below.refl _ _⟩
  case round =>
    obtain ⟨k, hk, rfl, rfl, hb⟩ := hrel
    by_cases hlt : k < l.length
    · obtain ⟨x, hx⟩ : ∃ x, l[k]? = some x := ⟨_, List.getElem?_eq_getElem hlt⟩
      obtain ⟨lb, lo, ho, hll, hlc⟩ := HL.out (by rintro rfl; simp at hlt)
      rw [ho]
      have hkl : (k : Int) < l.length := by omega
      have hk0 : (0 : Int) ≤ k := by omega
      have e4 : wr.cell? ⟨lb, lo + k * 5 + 4, none⟩ = some (.int .i64 x.amt) := (hb.cell (p := ⟨lb, lo + k * 5 + 4, none⟩) hll).trans (hlc k x hx 4 (by omega))
      have hs := tot_take hx
      have h1 := tot_bd (l := l.take k) (M := 3652500000000) fun y hy => HB.out y (List.mem_of_mem_take hy)
      have h2 := HB.out x (List.mem_of_getElem? hx)
      have h3 : (l.take k).length ≤ 1000 := by simp; omega
      have h4 : tot (l.take k) ≤ 3652500000000 * 1000 := by omega
      obtain ⟨h5, _⟩ := h1
      generalize tot (l.take k) = T at *
      have HS := Lib.hid hs
      clear hs
      go_wp2_with fail
      go_roundw
      case rel => exact ⟨k + 1, hlt, by simp, by rw [HS.out], hb⟩
      case measure => simp [intOf]; omega
    · obtain rfl : k = l.length := by omega
      rw [List.take_length]
      go_wp2_with fail
      go_ret
      exact ⟨rfl, hb⟩

set_option maxRecDepth 100000 in
set_option maxHeartbeats 4000000 in
theorem law_splits {w : World} {v : Value} {l : List Tf} (hl : RowIn w v 5 encT l) (a b m p q : Int) : Calls Try.prog 9 #[v, .agg #[.int .i64 a, .int .i64 b], .int .i64 m, .int .i64 p, .int .i64 q] w fun e w' => e = .returned (.bool true) ∧ Below w.heap.size w w' := by
  obtain ⟨oa, cap, hv, hlc1, hlc2, _, hlc⟩ := hl.at_
  unfold maxLen at hlc2
  have HL := Lib.hid hlc
  clear hlc
  subst hv
  have hb0 : Below w.heap.size w (w.alloc (.cells #[.int .i64 a, .int .i64 b] 44)) := by repeat (first | (with_reducible exact Below.refl _ _) | (with_reducible assumption) | (with_reducible refine Below.drew ?_) | ((with_reducible refine Below.alloc ?_ ?_ _); rotate_left; (first | (with_reducible exact Nat.zero_le _) | (with_reducible exact Nat.le_refl _) | omega | (dsimp only; omega) | (simp only [World.size_alloc, World.size_setCell, World.size_drew]; omega))) | ((with_reducible refine Below.setCell ?_ ?_ _); rotate_left; (first | (with_reducible exact Nat.zero_le _) | (with_reducible exact Nat.le_refl _) | omega | (dsimp only; omega) | (simp only [World.size_alloc, World.size_setCell, World.size_drew]; omega))))
  have B0 := Blk.new w 44 #[.int .i64 a, .int .i64 b]
  have hl1 := hl.step (w' := w.alloc (.cells #[.int .i64 a, .int .i64 b] 44)) (by repeat (first | (with_reducible exact Below.refl _ _) | (with_reducible assumption) | (with_reducible refine Below.drew ?_) | ((with_reducible refine Below.alloc ?_ ?_ _); rotate_left; (first | (with_reducible exact Nat.zero_le _) | (with_reducible exact Nat.le_refl _) | omega | (dsimp only; omega) | (simp only [World.size_alloc, World.size_setCell, World.size_drew]; omega))) | ((with_reducible refine Below.setCell ?_ ?_ _); rotate_left; (first | (with_reducible exact Nat.zero_le _) | (with_reducible exact Nat.le_refl _) | omega | (dsimp only; omega) | (simp only [World.size_alloc, World.size_setCell, World.size_drew]; omega)))))
  by_cases h : l.length > 100
  · have h' : (l.length : Int) > 100 := by omega
    go_enter Try.func9, Try.ntmps9
    go_wp2_with fail
    refine (awake_any _).mono ?_
    rintro e w1 ⟨rfl, hb1⟩
    go_wp2_with fail
    go_ret
    exact ⟨rfl, hb0.trans (hb1.mono hb0.size)⟩
  have h' : ¬ (l.length : Int) > 100 := by omega
  have hck := fun w h => check_any (w := w) (v := .slice oa l.length cap) (l := l) h
  by_cases ht : tchk l = 0
  · have hT := tchk_ok ht
    have hpos := hT.pos
    have hpos' : ((l.length : Int) == 0) = false := by rw [beq_eq_false_iff_ne]; omega
    obtain ⟨x, hx⟩ : ∃ x, l[0]? = some x := ⟨_, List.getElem?_eq_getElem hpos⟩
    have htok := hT.ok 0 hpos
    rw [getD_of hx] at htok
    have htu : tuse x = true := by unfold tok at htok; rw [Bool.and_eq_true] at htok; exact htok.2
    have hbx := fun a b => @items_bd l hT a b
    have hbn := bL_len hT
    have hsp := @split_law l a m b
    have hit := fun w lo => items_any x 1 0 0 0 lo lo false w
    unfold encT at hit
    have hhe := @heavier x htu 1 p q (by decide)
    rw [ht] at hck
    have HIT := Lib.hid hit
    have HSP := Lib.hid hsp
    have HHE := Lib.hid hhe
    have HBX := Lib.hid hbx
    have HBN := Lib.hid hbn
    clear hT htok htu hsp hit hhe hbx hbn ht
    go_enter Try.func9, Try.ntmps9
    go_wp2_with fail
    refine (hck _ hl1).mono ?_
    rintro e w1 ⟨rfl, hb1⟩
    replace B0 := B0.step hb1
    replace hl1 := hl1.step hb1
    replace hb0 := hb0.trans (hb1.mono hb0.size)
    have c0 := B0.cell
    have l0 := B0.lt
    go_wp2_with fail
    refine (base_any hl1 a b).mono ?_
    rintro e w2 ⟨v2, rfl, R2, hb2⟩
    replace B0 := B0.step hb2
    replace hl1 := hl1.step hb2
    replace hb0 := hb0.trans (hb2.mono hb0.size)
    clear c0 l0
    have c0 := B0.cell
    have l0 := B0.lt
    go_upto_region 4 with fail
    go_cut [49] (fun s wx => s = .bool (decide (bE l a b = 0 ∧ a ≤ m ∧ m ≤ b)) ∧ w2 = wx)
    case first =>
      by_cases h1 : bE l a b = 0
      · by_cases h2 : a ≤ m
        · by_cases h3 : m ≤ b
          · have HD := Lib.hid (decide_eq_true (p := bE l a b = 0 ∧ a ≤ m ∧ m ≤ b) ⟨h1, h2, h3⟩)
            have h1' : (bE l a b == 0) = true := by simpa using h1
            clear h1
            go_wp2_with fail
            go_meet
            exact ⟨by rw [HD.out], rfl⟩
          · have HD := Lib.hid (decide_eq_false (p := bE l a b = 0 ∧ a ≤ m ∧ m ≤ b) (fun h => h3 h.2.2))
            have h1' : (bE l a b == 0) = true := by simpa using h1
            clear h1
            go_wp2_with fail
            go_meet
            exact ⟨by rw [HD.out], rfl⟩
        · have HD := Lib.hid (decide_eq_false (p := bE l a b = 0 ∧ a ≤ m ∧ m ≤ b) (fun h => h2 h.2.1))
          have h1' : (bE l a b == 0) = true := by simpa using h1
          clear h1
          go_wp2_with fail
          go_meet
          exact ⟨by rw [HD.out], rfl⟩
      · have HD := Lib.hid (decide_eq_false (p := bE l a b = 0 ∧ a ≤ m ∧ m ≤ b) (fun h => h1 h.1))
        have h1' : (bE l a b == 0) = false := by simpa using h1
        go_wp2_with fail
        go_meet
        exact ⟨by rw [HD.out], rfl⟩
    case rest =>
      obtain ⟨rfl, rfl⟩ := hcut
      go_upto_if 49 with fail
      go_cut [] (fun wx => Below w.heap.size w wx ∧ RowIn wx (.slice oa l.length cap) 5 encT l)
      case first =>
        by_cases h1 : bE l a b = 0 ∧ a ≤ m ∧ m ≤ b
        · rw [decide_eq_true h1]
          obtain ⟨g1, g2, g3⟩ := HSP.out h1.1 h1.2.1 h1.2.2
          have x1 := HBX.out a b h1.1
          have x2 := HBX.out a m g1
          have x3 := HBX.out m b g2
          have y1 := HBN.out a b
          have y2 := HBN.out a m
          have y3 := HBN.out m b
          have t2 := tot_bd x2
          have t3 := tot_bd x3
          have hba := fun w h => base_any (w := w) (v := .slice oa l.length cap) (l := l) h a m
          have hbb := fun w h => base_any (w := w) (v := .slice oa l.length cap) (l := l) h m b
          rw [g1] at hba
          rw [g2] at hbb
          clear h1
          generalize bL l a b = La at *
          generalize bL l a m = Lb at *
          generalize bL l m b = Lc at *
          go_wp2_with fail
          refine (hba _ hl1).mono ?_
          rintro e w3 ⟨v3, rfl, R3, hb3⟩
          replace B0 := B0.step hb3
          replace hl1 := hl1.step hb3
          replace hb0 := hb0.trans (hb3.mono hb0.size)
          replace R2 := R2.step hb3
          clear c0 l0
          have c0 := B0.cell
          have l0 := B0.lt
          go_wp2_with fail
          refine (hbb _ hl1).mono ?_
          rintro e w4 ⟨v4, rfl, R4, hb4⟩
          replace B0 := B0.step hb4
          replace hl1 := hl1.step hb4
          replace hb0 := hb0.trans (hb4.mono hb0.size)
          replace R2 := R2.step hb4
          replace R3 := R3.step hb4
          clear c0 l0
          go_wp2_with fail
          refine (total_any R3 (fun y hy => ⟨(x2 y hy).1, Int.le_trans (x2 y hy).2 (by omega)⟩) (by omega)).mono ?_
          rintro e w5 ⟨rfl, hb5⟩
          replace B0 := B0.step hb5
          replace hl1 := hl1.step hb5
          replace hb0 := hb0.trans (hb5.mono hb0.size)
          replace R2 := R2.step hb5
          replace R4 := R4.step hb5
          go_wp2_with fail
          refine (total_any R4 (fun y hy => ⟨(x3 y hy).1, Int.le_trans (x3 y hy).2 (by omega)⟩) (by omega)).mono ?_
          rintro e w6 ⟨rfl, hb6⟩
          replace B0 := B0.step hb6
          replace hl1 := hl1.step hb6
          replace hb0 := hb0.trans (hb6.mono hb0.size)
          replace R2 := R2.step hb6
          go_wp2_with fail
          refine (total_any R2 (fun y hy => ⟨(x1 y hy).1, Int.le_trans (x1 y hy).2 (by omega)⟩) (by omega)).mono ?_
          rintro e w7 ⟨rfl, hb7⟩
          replace B0 := B0.step hb7
          replace hl1 := hl1.step hb7
          replace hb0 := hb0.trans (hb7.mono hb0.size)
          have z1 : tot Lb ≤ 3652500000 * 8 := by omega
          have z2 : tot Lc ≤ 3652500000 * 8 := by omega
          obtain ⟨z3, _⟩ := t2
          obtain ⟨z4, _⟩ := t3
          rw [← g3]
          clear g3 x1 x2 x3
          generalize tot Lb = Tb at *
          generalize tot Lc = Tc at *
          go_wp2_with fail
          go_meet
          exact ⟨hb0, hl1⟩
        · rw [decide_eq_false h1]
          clear h1
          go_wp2_with fail
          go_meet
          exact ⟨hb0, hl1⟩
      case rest =>
        obtain ⟨hbc, hlw⟩ := hcut
        have hbs := hbc.size
        clear c0 l0 B0 R2 hl1 hb0 hb1 hb2
        by_cases hc : p < 0 ∨ p > 1073741824 ∨ q < 0 ∨ q > 1073741824 - p
        · have hc' : p < 0 ∨ (¬ p < 0 ∧ p > 1073741824) ∨ (¬ p < 0 ∧ ¬ p > 1073741824 ∧ q < 0) ∨ (¬ p < 0 ∧ ¬ p > 1073741824 ∧ ¬ q < 0 ∧ q > 1073741824 - p) := by omega
          clear hc
          rcases hc' with h1 | ⟨h1, h2⟩ | ⟨h1, h2, h3⟩ | ⟨h1, h2, h3, h4⟩
          all_goals (
            go_wp2_with fail
            refine (awake_any _).mono ?_
            rintro e w9 ⟨rfl, hb9⟩
            go_wp2_with fail
            go_ret
            exact ⟨rfl, hbc.trans (hb9.mono hbs)⟩)
        · have h1 : ¬ p < 0 := by omega
          have h2 : ¬ p > 1073741824 := by omega
          have h3 : ¬ q < 0 := by omega
          have h4 : ¬ q > 1073741824 - p := by omega
          clear hc
          obtain ⟨k1, k2, k3, k4, k5, k6, k7, k8⟩ := HHE.out (by omega) (by omega) (by omega)
          obtain ⟨lb, lo, ho, hll, hlc⟩ := HL.out (by rintro rfl; simp at hpos)
          subst ho
          have hi0 : (0 : Int) < l.length := by omega
          have e0 : wc.cell? ⟨lb, lo, none⟩ = some (.int .i64 x.frm) := (hbc.cell (p := ⟨lb, lo, none⟩) hll).trans (by simpa [encT] using hlc 0 x hx 0 (by omega))
          have e1 : wc.cell? ⟨lb, lo + 1, none⟩ = some (.int .i64 x.base) := (hbc.cell (p := ⟨lb, lo + 1, none⟩) hll).trans (by simpa [encT] using hlc 0 x hx 1 (by omega))
          have e2 : wc.cell? ⟨lb, lo + 2, none⟩ = some (.int .i64 x.empty) := (hbc.cell (p := ⟨lb, lo + 2, none⟩) hll).trans (by simpa [encT] using hlc 0 x hx 2 (by omega))
          have e3 : wc.cell? ⟨lb, lo + 3, none⟩ = some (.int .i64 x.kilo) := (hbc.cell (p := ⟨lb, lo + 3, none⟩) hll).trans (by simpa [encT] using hlc 0 x hx 3 (by omega))
          have e4 : wc.cell? ⟨lb, lo + 4, none⟩ = some (.int .i64 x.free) := (hbc.cell (p := ⟨lb, lo + 4, none⟩) hll).trans (by simpa [encT] using hlc 0 x hx 4 (by omega))
          have hi1 := fun w => HIT.out w p
          have hi2 := fun w => HIT.out w (p + q)
          rw [k1] at hi1
          rw [k2] at hi2
          have t1 := tot_bd k7
          have t2 := tot_bd k8
          have z1 : tot (itL x 1 p p) ≤ 3652500000000 * 2 := by omega
          have z2 : tot (itL x 1 (p + q) (p + q)) ≤ 3652500000000 * 2 := by omega
          obtain ⟨z3, _⟩ := t1
          obtain ⟨z4, _⟩ := t2
          clear k1 k2
          generalize itL x 1 p p = La at *
          generalize itL x 1 (p + q) (p + q) = Lb at *
          go_wp2_with fail
          refine (hi1 _).mono ?_
          rintro e w3 ⟨v3, rfl, R3, hb3⟩
          obtain ⟨o3, c3, rfl, _⟩ := R3.at_
          have q3 : ∀ j, w3.cell? ⟨lb, j, none⟩ = wc.cell? ⟨lb, j, none⟩ := fun j => hb3.cell (p := ⟨lb, j, none⟩) (by dsimp only; omega)
          rw [← q3] at e0 e1 e2 e3 e4
          clear q3
          replace hbc := hbc.trans (hb3.mono hbs)
          go_wp2_with fail
          refine (hi2 _).mono ?_
          rintro e w4 ⟨v4, rfl, R4, hb4⟩
          obtain ⟨o4, c4, rfl, _⟩ := R4.at_
          replace hbc := hbc.trans (hb4.mono hbc.size)
          replace R3 := R3.step hb4
          clear e0 e1 e2 e3 e4 hi1 hi2
          go_wp2_with fail
          refine (total_any R3 k7 (by omega)).mono ?_
          rintro e w5 ⟨rfl, hb5⟩
          replace hbc := hbc.trans (hb5.mono hbc.size)
          replace R4 := R4.step hb5
          go_wp2_with fail
          refine (total_any R4 k8 (by omega)).mono ?_
          rintro e w6 ⟨rfl, hb6⟩
          replace hbc := hbc.trans (hb6.mono hbc.size)
          clear k7 k8 R3 R4
          generalize tot La = Ta at *
          generalize tot Lb = Tb at *
          have k3' : (1 : Int) ≤ La.length := by omega
          have k4' : (La.length : Int) ≤ Lb.length := by omega
          go_wp2_with fail
          refine (awake_any _).mono ?_
          rintro e w9 ⟨rfl, hb9⟩
          go_wp2_with fail
          go_ret
          exact ⟨by simp, hbc.trans (hb9.mono hbc.size)⟩
  · have ht' : (tchk l != 0) = true := by simpa using ht
    clear ht
    generalize tchk l = E at *
    go_enter Try.func9, Try.ntmps9
    go_wp2_with fail
    refine (hck _ hl1).mono ?_
    rintro e w1 ⟨rfl, hb1⟩
    replace B0 := B0.step hb1
    replace hl1 := hl1.step hb1
    replace hb0 := hb0.trans (hb1.mono hb0.size)
    go_wp2_with fail
    refine (awake_any _).mono ?_
    rintro e w2 ⟨rfl, hb2⟩
    go_wp2_with fail
    go_ret
    exact ⟨rfl, hb0.trans (hb2.mono hb0.size)⟩

end Go.Proofs.Ytaidcdcikjbjjaa
