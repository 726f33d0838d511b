/- Contract: the base items of a window of days, in the reference. -/
import Derived.Test.YtaidcdcikjbjjaaTariffH
namespace Go.Proofs.Ytaidcdcikjbjjaa
set_option linter.unusedVariables false
set_option linter.unusedSimpArgs false
open Go.RowKit


def RbaseRel (w : World) (a b : Int) (l : List Tf) (v i : Value) (wr : World) : Prop :=
  ∃ k : Nat, k ≤ l.length ∧ i = .int .i64 k ∧ Below w.heap.size w wr ∧ Blk wr w.heap.size 44 #[.int .i64 a, .int .i64 b] ∧ wr.ownsRow (w.heap.size + 1) 49 5 v (itemsTo l a b k).length (rowOf encI (itemsTo l a b k))
def CntRel (W : World) (l : List Tf) (k : Nat) (a b : Int) (n d : Value) (wr : World) : Prop := ∃ m : Nat, d = .int .i64 (a + m) ∧ a + m ≤ b ∧ n = .int .i64 (cntTo l k a m) ∧ W = wr
theorem cntTo_bd (l : List Tf) (k : Nat) (a : Int) : ∀ m, 0 ≤ cntTo l k a m ∧ cntTo l k a m ≤ m
  | 0 => by simp [cntTo]
  | m + 1 => by
    have := cntTo_bd l k a m
    simp only [cntTo]
    split <;> omega

set_option maxHeartbeats 1000000 in
theorem rbase_no {w : World} {v : Value} {l : List Tf} (hl : RowIn w v 5 encT l) (a b : Int) (hne : bE l a b ≠ 0) : Calls Try.prog 21 #[v, .agg #[.int .i64 a, .int .i64 b]] w (itOut w (bL l a b) (bE l a b)) := by
  have hE : bE l a b = if tchk l ≠ 0 then tchk l else if a < 0 ∨ a > b ∨ b > 36525 then 1 else if a < b ∧ a < (l.getD 0 tf0).frm then 7 else 0 := rfl
  have B0 := Blk.new w 44 #[.int .i64 a, .int .i64 b]
  have hl2 := hl.step (w' := w.alloc (.cells #[.int .i64 a, .int .i64 b] 44)) (by repeat (first | (with_reducible exact Below.refl _ _) | (with_reducible assumption) | (with_reducible refine Below.drew ?_) | ((with_reducible refine Below.alloc ?_ ?_ _); rotate_left; (first | (with_reducible exact Nat.zero_le _) | (with_reducible exact Nat.le_refl _) | omega | (dsimp only; omega) | (simp only [World.size_alloc, World.size_setCell, World.size_drew]; omega))) | ((with_reducible refine Below.setCell ?_ ?_ _); rotate_left; (first | (with_reducible exact Nat.zero_le _) | (with_reducible exact Nat.le_refl _) | omega | (dsimp only; omega) | (simp only [World.size_alloc, World.size_setCell, World.size_drew]; omega)))))
  have hb0 : Below w.heap.size w (w.alloc (.cells #[.int .i64 a, .int .i64 b] 44)) := by repeat (first | (with_reducible exact Below.refl _ _) | (with_reducible assumption) | (with_reducible refine Below.drew ?_) | ((with_reducible refine Below.alloc ?_ ?_ _); rotate_left; (first | (with_reducible exact Nat.zero_le _) | (with_reducible exact Nat.le_refl _) | omega | (dsimp only; omega) | (simp only [World.size_alloc, World.size_setCell, World.size_drew]; omega))) | ((with_reducible refine Below.setCell ?_ ?_ _); rotate_left; (first | (with_reducible exact Nat.zero_le _) | (with_reducible exact Nat.le_refl _) | omega | (dsimp only; omega) | (simp only [World.size_alloc, World.size_setCell, World.size_drew]; omega))))
  rw [bE_ne hne]
  by_cases ht : tchk l ≠ 0
  · rw [if_pos ht] at hE
    rw [hE]
    have hck := fun w h => rcheck_any (w := w) (v := v) (l := l) h
    have ht' : (tchk l != 0) = true := by simpa using ht
    clear hE hne ht
    generalize tchk l = E at *
    go_enter Try.func21, Try.ntmps21
    go_wp2_with fail
    refine (hck _ hl2).mono ?_
    rintro e w1 ⟨rfl, hb1⟩
    go_wp2_with fail
    go_ret2
    exact ⟨_, rfl, .nil _ _ _, hb0.trans (hb1.mono hb0.size)⟩
  have ht0 : tchk l = 0 := by omega
  have hT := tchk_ok ht0
  rw [if_neg ht] at hE
  have hck := fun w h => rcheck_any (w := w) (v := v) (l := l) h
  rw [ht0] at hck
  clear ht ht0
  by_cases hd : a < 0 ∨ a > b ∨ b > 36525
  · rw [if_pos hd] at hE
    rw [hE]
    clear hE hne
    have hd' : a < 0 ∨ (¬ a < 0 ∧ a > b) ∨ (¬ a < 0 ∧ ¬ a > b ∧ b > 36525) := by omega
    clear hd
    rcases hd' with h1 | ⟨h1, h2⟩ | ⟨h1, h2, h3⟩
    all_goals (
      go_enter Try.func21, Try.ntmps21
      go_wp2_with fail
      refine (hck _ hl2).mono ?_
      rintro e w1 ⟨rfl, hb1⟩
      replace B0 := B0.step hb1
      have c0 := B0.cell
      have l0 := B0.lt
      go_wp2_with fail
      go_ret2
      exact ⟨_, rfl, .nil _ _ _, hb0.trans (hb1.mono hb0.size)⟩)
  rw [if_neg hd] at hE
  have hd1 : ¬ a < 0 := by omega
  have hd2 : ¬ a > b := by omega
  have hd3 : ¬ b > 36525 := by omega
  have h7 : a < b ∧ a < (l.getD 0 tf0).frm := by
    rcases Decidable.em (a < b ∧ a < (l.getD 0 tf0).frm) with h | h
    · exact h
    · rw [if_neg h] at hE; exact absurd hE hne
  rw [if_pos h7] at hE
  rw [hE]
  clear hE hne hd
  have hl1 := hT.pos
  have hl8 := hT.len
  obtain ⟨x0, hx0⟩ : ∃ x, l[0]? = some x := ⟨_, List.getElem?_eq_getElem hl1⟩
  rw [getD_of hx0] at h7
  obtain ⟨h8, h9⟩ := h7
  obtain ⟨oa, cap, hv, hlc1, hlc2, hnn, hlc⟩ := hl.at_
  unfold maxLen at hlc2
  have HL := Lib.hid hlc
  clear hlc hnn
  obtain ⟨lb, lo, ho, hll, hlc⟩ := HL.out (by rintro rfl; simp at hl1)
  rw [ho] at hv
  rw [hv] at hl hl2 hck ⊢
  have hbc : ∀ W, Below w.heap.size w W → W.cell? ⟨lb, lo, none⟩ = some (.int .i64 x0.frm) := fun W h => by
    rw [h.cell (p := ⟨lb, lo, none⟩) hll]
    have := hlc 0 x0 hx0 0 (by omega)
    rw [Nat.zero_mul, Nat.add_zero] at this
    exact this
  have HBC := Lib.hid hbc
  have i1 : (0 : Int) < l.length := by omega
  clear hv hbc
  go_enter Try.func21, Try.ntmps21
  go_wp2_with fail
  refine (hck _ hl2).mono ?_
  rintro e w1 ⟨rfl, hb1⟩
  have hb2 := hb0.trans (hb1.mono hb0.size)
  have cc := HBC.out w1 hb2
  replace B0 := B0.step hb1
  have c0 := B0.cell
  have l0 := B0.lt
  go_wp2_with fail
  go_quiet (fail)
  go_wp2_with fail
  go_ret2
  exact ⟨_, rfl, .nil _ _ _, hb2.trans ((Below.of_drewN w1 nq).mono hb2.size)⟩

set_option maxRecDepth 20000 in
set_option maxHeartbeats 4000000 in
theorem rbase_ok {w : World} {v : Value} {l : List Tf} (hl : RowIn w v 5 encT l) (a b : Int) (he : bE l a b = 0) : Calls Try.prog 21 #[v, .agg #[.int .i64 a, .int .i64 b]] w (itOut w (bL l a b) (bE l a b)) := by
  have hL : bL l a b = itemsTo l a b l.length := by unfold bL; rw [if_pos he]
  rw [he, hL]
  obtain ⟨ht0, ha, hab, hb36, hfa⟩ := bE_ok he
  have hT := tchk_ok ht0
  have B0 := Blk.new w 44 #[.int .i64 a, .int .i64 b]
  have hl2 := hl.step (w' := w.alloc (.cells #[.int .i64 a, .int .i64 b] 44)) (by repeat (first | (with_reducible exact Below.refl _ _) | (with_reducible assumption) | (with_reducible refine Below.drew ?_) | ((with_reducible refine Below.alloc ?_ ?_ _); rotate_left; (first | (with_reducible exact Nat.zero_le _) | (with_reducible exact Nat.le_refl _) | omega | (dsimp only; omega) | (simp only [World.size_alloc, World.size_setCell, World.size_drew]; omega))) | ((with_reducible refine Below.setCell ?_ ?_ _); rotate_left; (first | (with_reducible exact Nat.zero_le _) | (with_reducible exact Nat.le_refl _) | omega | (dsimp only; omega) | (simp only [World.size_alloc, World.size_setCell, World.size_drew]; omega)))))
  have hb0 : Below w.heap.size w (w.alloc (.cells #[.int .i64 a, .int .i64 b] 44)) := by repeat (first | (with_reducible exact Below.refl _ _) | (with_reducible assumption) | (with_reducible refine Below.drew ?_) | ((with_reducible refine Below.alloc ?_ ?_ _); rotate_left; (first | (with_reducible exact Nat.zero_le _) | (with_reducible exact Nat.le_refl _) | omega | (dsimp only; omega) | (simp only [World.size_alloc, World.size_setCell, World.size_drew]; omega))) | ((with_reducible refine Below.setCell ?_ ?_ _); rotate_left; (first | (with_reducible exact Nat.zero_le _) | (with_reducible exact Nat.le_refl _) | omega | (dsimp only; omega) | (simp only [World.size_alloc, World.size_setCell, World.size_drew]; omega))))
  have hck := fun w h => rcheck_any (w := w) (v := v) (l := l) h
  rw [ht0] at hck
  clear he hL ht0
  have hl1 := hT.pos
  have hl8 := hT.len
  obtain ⟨x0, hx0⟩ : ∃ x, l[0]? = some x := ⟨_, List.getElem?_eq_getElem hl1⟩
  rw [getD_of hx0] at hfa
  obtain ⟨oa, cap, hv, hlc1, hlc2, hnn, hlc⟩ := hl.at_
  unfold maxLen at hlc2
  have HL := Lib.hid hlc
  clear hlc hnn
  obtain ⟨lb, lo, ho, hll, hlc⟩ := HL.out (by rintro rfl; simp at hl1)
  rw [ho] at hv
  rw [hv] at hl hl2 hck ⊢
  have hbc : ∀ W, Below w.heap.size w W → W.cell? ⟨lb, lo, none⟩ = some (.int .i64 x0.frm) := fun W h => by
    rw [h.cell (p := ⟨lb, lo, none⟩) hll]
    have := hlc 0 x0 hx0 0 (by omega)
    rw [Nat.zero_mul, Nat.add_zero] at this
    exact this
  have HBC := Lib.hid hbc
  have i1 : (0 : Int) < l.length := by omega
  have ha' : ¬ a < 0 := by omega
  have hab' : ¬ a > b := by omega
  have hb' : ¬ b > 36525 := by omega
  clear hv hbc
  obtain ⟨i, hi, hz, hsi, hby⟩ : ∃ i, Try.prog.info? 49 = some i ∧ i.zero = some (.agg #[.int .i64 0, .int .i64 0, .int .i64 0, .int .i64 0, .int .i64 0]) ∧ i.size = 5 ∧ i.bytes = 40 := info_of (by kernel_rfl)
  have hok := hT.ok
  have HT := Lib.hid hok
  have HTok := Lib.hid hT
  clear hok hT
  go_enter Try.func21, Try.ntmps21
  go_wp2_with fail
  refine (hck _ hl2).mono ?_
  rintro e w1 ⟨rfl, hb1⟩
  replace hb0 := hb0.trans (hb1.mono hb0.size)
  have cc := HBC.out w1 hb0
  replace B0 := B0.step hb1
  have c0 := B0.cell
  have l0 := B0.lt
  go_upto_region 8 with fail
  go_cut [44] (fun s wx => s = .bool false ∧ Below w.heap.size w wx ∧ Blk wx w.heap.size 44 #[.int .i64 a, .int .i64 b])
  case first =>
    by_cases hlt : a < b
    · have hf := hfa hlt
      have hf' : ¬ a < x0.frm := by omega
      go_quiet (fail)
      go_wp2_with fail
      go_meet
      exact ⟨by simp, hb0.trans ((Below.of_drewN w1 nq).mono hb0.size), B0⟩
    · go_quiet (fail)
      go_wp2_with fail
      go_meet
      exact ⟨by simp, hb0.trans ((Below.of_drewN w1 nq).mono hb0.size), B0⟩
  case rest =>
    obtain ⟨rfl, hbc0, BW⟩ := hcut
    have hcs := hbc0.size
    clear c0 l0 B0 cc hb0 hb1 hck hl2 hfa hx0
    go_wp2_with fail
    go_loopw [7, 8] (fun v i wr => RbaseRel w a b l v i wr) (fun _ i _ => (l.length - intOf i).toNat)
    case atStart => exact ⟨0, Nat.zero_le _, rfl, hbc0, BW, World.ownsRow_nil _ _ _ _⟩
    case round =>
      clear hbc0 BW
      obtain ⟨k, hk, rfl, hb, BW, own⟩ := hrel
      have hwz := hb.size
      have hil := itemsTo_len l a b k
      by_cases hlt : k < l.length
      · obtain ⟨x, hx⟩ : ∃ x, l[k]? = some x := ⟨_, List.getElem?_eq_getElem hlt⟩
        have hkl : (k : Int) < l.length := by omega
        have hk0 : (0 : Int) ≤ k := by omega
        have q : ∀ j, wr.cell? ⟨lb, j, none⟩ = w.cell? ⟨lb, j, none⟩ := fun j => hb.cell (p := ⟨lb, j, none⟩) hll
        have e0 : World.cell? w ⟨lb, lo + k * 5, none⟩ = some (.int .i64 (x).frm) := hlc (k) x hx 0 (by omega); have e1 : World.cell? w ⟨lb, lo + k * 5 + 1, none⟩ = some (.int .i64 (x).base) := hlc (k) x hx 1 (by omega); have e2 : World.cell? w ⟨lb, lo + k * 5 + 2, none⟩ = some (.int .i64 (x).empty) := hlc (k) x hx 2 (by omega); have e3 : World.cell? w ⟨lb, lo + k * 5 + 3, none⟩ = some (.int .i64 (x).kilo) := hlc (k) x hx 3 (by omega); have e4 : World.cell? w ⟨lb, lo + k * 5 + 4, none⟩ = some (.int .i64 (x).free) := hlc (k) x hx 4 (by omega)
        rw [← q] at e0 e1 e2 e3 e4
        have HQ := Lib.hid q
        clear q
        have hxo := tok_bd (HT.out k hlt)
        rw [getD_of hx] at hxo
        have hlw : lb < wr.heap.size := by omega
        have c0 := BW.cell
        have l0 := BW.lt
        have i0 : (0 : Int) ≤ (k : Int) + 1 := by omega
        have i2 : ((k : Int) + 1).toNat = k + 1 := by omega
        obtain ⟨wo, hwo⟩ : ∃ wo : World, wo = wr := ⟨_, rfl⟩
        go_wp2_with fail
        go_loopw [9, 10] (fun n d w' => CntRel wr l k a b n d w') (fun _ d _ => (b - intOf d).toNat)
        case atStart => exact ⟨0, by simp, by simpa using hab, rfl, rfl⟩
        case round =>
          obtain ⟨m, rfl, hm, rfl, rfl⟩ := hrel
          have hcb := cntTo_bd l k a m
          by_cases hmb : a + m < b
          · have hcs1 : cntTo l k a (m + 1) = cntTo l k a m + (if x.frm ≤ a + m ∧ (k + 1 = l.length ∨ a + m < (l.getD (k + 1) tf0).frm) then 1 else 0) := by
              show cntTo l k a m + (if (l.getD k tf0).frm ≤ a + m ∧ _ then 1 else 0) = _
              rw [getD_of hx]
            have hm36 : (m : Int) ≤ 36525 := by omega
            by_cases h1 : x.frm ≤ a + m
            · by_cases h2 : k + 1 = l.length
              · rw [if_pos ⟨h1, .inl h2⟩] at hcs1
                have h2' : ((k : Int) + 1 == l.length) = true := by rw [beq_iff_eq]; omega
                clear h2
                have HC := Lib.hid hcs1
                clear hcs1
                go_wp2_with fail
                go_roundw
                case rel => exact ⟨m + 1, by congr 1; omega, by omega, by rw [HC.out] <;> simp, rfl⟩
                case measure => simp [intOf]; omega
              · have h3 : k + 1 < l.length := by omega
                obtain ⟨y, hy⟩ : ∃ x, l[k + 1]? = some x := ⟨_, List.getElem?_eq_getElem h3⟩
                have g0 : wr.cell? ⟨lb, lo + (k + 1) * 5, none⟩ = some (.int .i64 y.frm) := (HQ.out _).trans (hlc (k + 1) y hy 0 (by omega))
                have h3' : (k : Int) + 1 < l.length := by omega
                have h2' : ((k : Int) + 1 == l.length) = false := by rw [beq_eq_false_iff_ne]; omega
                rw [getD_of hy] at hcs1
                by_cases h4 : a + m < y.frm
                · rw [if_pos ⟨h1, .inr h4⟩] at hcs1
                  clear h2
                  have HC := Lib.hid hcs1
                  clear hcs1
                  go_wp2_with fail
                  go_roundw
                  case rel => exact ⟨m + 1, by congr 1; omega, by omega, by rw [HC.out] <;> simp, rfl⟩
                  case measure => simp [intOf]; omega
                · rw [if_neg (fun h => by rcases h.2 with h | h; exact h2 h; exact h4 h)] at hcs1
                  clear h2
                  have HC := Lib.hid hcs1
                  clear hcs1
                  go_wp2_with fail
                  go_roundw
                  case rel => exact ⟨m + 1, by congr 1; omega, by omega, by rw [HC.out] <;> simp, rfl⟩
                  case measure => simp [intOf]; omega
            · rw [if_neg (fun h => h1 h.1)] at hcs1
              have HC := Lib.hid hcs1
              clear hcs1
              go_wp2_with fail
              go_roundw
              case rel => exact ⟨m + 1, by congr 1; omega, by omega, by rw [HC.out] <;> simp, rfl⟩
              case measure => simp [intOf]; omega
          · have hme : a + m = b := by omega
            have hcn := cntTo_eq (l := l) HTok.out hlt a m
            rw [hme] at hcn
            have hkeep := @base_keep l a b k
            have hadd := @base_add l a b k
            rw [getD_of hx] at hadd
            generalize dOf l a b k = D at *
            generalize cntTo l k a m = C at *
            have HME := Lib.hid hme
            clear hme
            by_cases hpos : D > 0
            · rw [if_pos hpos] at hcn
              subst hcn
              have hadd' := hadd hpos
              have HA := Lib.hid hadd'
              clear hadd hadd' hkeep
              have hp1 : 0 ≤ C * x.base := Int.mul_nonneg (by omega) (by omega)
              have hp2 : C * x.base ≤ 36525 * 100000 := Int.mul_le_mul (by omega) (by omega) (by omega) (by omega)
              go_wp2_with fail
              have hrow : ∀ j, (u7 : Value).ownBlock = some j → w.heap.size + 1 ≤ j := fun j hj => by
                rcases ownsRow_open own with ⟨h, _, _⟩ | ⟨g, _, _, h, hg, _⟩
                · rw [h] at hj; simp [Value.ownBlock] at hj
                · rw [h] at hj; simp [Value.ownBlock] at hj; omega
              have hwr : IntKind.i64.wrap (C * x.base) = C * x.base := wrapI _ (by omega)
              have BN := (Blk.new wr 49 #[.int .i64 1, .int .i64 k, .int .i64 C, .int .i64 x.base, .int .i64 (C * x.base)]).drew
              have hA1 : (itemsTo l a b k).length + 1 ≤ maxLen := by simp only [maxLen]; omega
              have hA2 : ((itemsTo l a b k).length + 1) * 40 ≤ 140737488355328 := by omega
              have hA3 : w.heap.size + 1 ≤ ((wr.alloc (.cells #[.int .i64 1, .int .i64 k, .int .i64 C, .int .i64 x.base, .int .i64 (C * x.base)] 49)).drew).heap.size := by simp only [World.size_alloc, World.size_drew]; omega
              have hA4 : lb < ((wr.alloc (.cells #[.int .i64 1, .int .i64 k, .int .i64 C, .int .i64 x.base, .int .i64 (C * x.base)] 49)).drew).heap.size := by simp only [World.size_alloc, World.size_drew]; omega
              have hA5 : some lb ≠ (u7 : Value).ownBlock := fun h => by have := hrow _ h.symm; omega
              have ownd := own_drew (own.alloc (.cells #[.int .i64 1, .int .i64 k, .int .i64 C, .int .i64 x.base, .int .i64 (C * x.base)] 49))
              go_region_held3 (fun w' => w'.cell? ⟨lb, lo + k * 5 + 1, none⟩ = some (.int .i64 x.base)) (go_keep)
                ((refine step_append_any _ (by rfl) _ _ _ (by rfl) (w.heap.size + 1) 49 i _ 5 40 Try.underlying38 hi hz hsi hby (by rfl) (by omega) u7 (itemsTo l a b k).length (rowOf encI (itemsTo l a b k)) (by rfl) ownd _ 1 (encI ⟨1, k, C, x.base, C * x.base⟩) (by rfl) (Src.of_blk BN 1) (by rfl) (hone_I _) hA1 hA2 hA3 ?_; intro v7 w7 own7 hg7 hat7; have k2 := hg7.cell_far ⟨lb, lo + k * 5 + 1, none⟩ hA4 hA5))
              all_goals (
                clear hat7
                replace BW := Blk.grown ((BW.alloc (.cells #[.int .i64 1, .int .i64 k, .int .i64 C, .int .i64 x.base, .int .i64 (C * x.base)] 49)).drew) hg7 (fun h => by have := hrow _ h.symm; omega)
                have hb8 : Below w.heap.size w w7 := Below.grown ((hb.alloc hwz (.cells #[.int .i64 1, .int .i64 k, .int .i64 C, .int .i64 x.base, .int .i64 (C * x.base)] 49)).drew) hg7 (by simp only [World.size_alloc, World.size_drew]; omega) (fun j hj => by have := hrow j hj; omega)
                have own8 : w7.ownsRow (w.heap.size + 1) 49 5 v7 (itemsTo l a b (k + 1)).length (rowOf encI (itemsTo l a b (k + 1))) := by
                  rw [HA.out, List.length_append, rowOf_append]
                  simpa [rowOf] using own7
                clear own7 own hg7 hrow ownd BN k2
                go_wp2_with fail
                go_roundw
                case rel => exact ⟨k + 1, hlt, by simp, hb8, BW, own8⟩
                case measure => simp [intOf]; omega)
            · rw [if_neg hpos] at hcn
              subst hcn
              have hk' := hkeep hpos
              have HK := Lib.hid hk'
              clear hkeep hk' hadd hpos
              go_wp2_with fail
              go_roundw
              case rel => exact ⟨k + 1, hlt, by simp, hb, BW, by rw [HK.out]; exact own⟩
              case measure => simp [intOf]; omega
      · obtain rfl : k = l.length := by omega
        go_wp2_with fail
        go_ret2
        exact ⟨_, rfl, RowIn.of_own encI_len own, hb⟩

end Go.Proofs.Ytaidcdcikjbjjaa
