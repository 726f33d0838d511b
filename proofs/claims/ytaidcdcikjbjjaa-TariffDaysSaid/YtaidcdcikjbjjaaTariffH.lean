/- Contract: the base items of a window of days, in the program, where there is no error. -/
import Derived.Test.YtaidcdcikjbjjaaTariffG
namespace Go.Proofs.Ytaidcdcikjbjjaa
set_option linter.unusedVariables false
set_option linter.unusedSimpArgs false
open Go.RowKit


theorem hone_I (x : Itm) : ∀ u ∈ encI x, u.oneCell' = true := by
  intro u hu
  simp only [encI, List.mem_cons, List.not_mem_nil, or_false] at hu
  rcases hu with rfl | rfl | rfl | rfl | rfl <;> rfl

/-- Where the base items are asked without an error. -/
theorem bE_ok {l : List Tf} {a b : Int} (h : bE l a b = 0) : tchk l = 0 ∧ 0 ≤ a ∧ a ≤ b ∧ b ≤ 36525 ∧ (a < b → (l.getD 0 tf0).frm ≤ a) := by
  unfold bE at h
  by_cases h1 : tchk l = 0
  · rw [if_neg (by omega)] at h
    by_cases h2 : a < 0 ∨ a > b ∨ b > 36525
    · rw [if_pos h2] at h; omega
    rw [if_neg h2] at h
    by_cases h3 : a < b ∧ a < (l.getD 0 tf0).frm
    · rw [if_pos h3] at h; omega
    exact ⟨h1, by omega, by omega, by omega, fun h4 => by omega⟩
  · rw [if_pos h1] at h; omega

theorem endOf_bd {l : List Tf} {b : Int} {k : Nat} (h : ∀ i, i < l.length → tok (l.getD i tf0) = true) (h1 : 0 ≤ b) (h2 : b ≤ 36525) (hk : k < l.length) : 0 ≤ endOf l b k ∧ endOf l b k ≤ 36525 := by
  unfold endOf
  split
  · rename_i h3
    have := tok_bd (h (k + 1) h3)
    split <;> omega
  · omega
set_option maxRecDepth 20000 in
set_option maxHeartbeats 4000000 in
theorem base_ok {w : World} {v : Value} {l : List Tf} (hl : RowIn w v 5 encT l) (a b : Int) (he : bE l a b = 0) : Calls Try.prog 20 #[v, .agg #[.int .i64 a, .int .i64 b]] w (itOut w (bL l a b) (bE l a b)) := by
  have hL : bL l a b = itemsTo l a b l.length := by unfold bL; rw [if_pos he]
  rw [he, hL]
  obtain ⟨ht0, ha, hab, hb36, hfa⟩ := bE_ok he
  have hT := tchk_ok ht0
  have B0 := Blk.new w 44 #[.int .i64 a, .int .i64 b]
  have hl2 := hl.step (w' := w.alloc (.cells #[.int .i64 a, .int .i64 b] 44)) (by repeat (first | (with_reducible exact Below.refl _ _) | (with_reducible assumption) | (with_reducible refine Below.drew ?_) | ((with_reducible refine Below.alloc ?_ ?_ _); rotate_left; (first | (with_reducible exact Nat.zero_le _) | (with_reducible exact Nat.le_refl _) | omega | (dsimp only; omega) | (simp only [World.size_alloc, World.size_setCell, World.size_drew]; omega))) | ((with_reducible refine Below.setCell ?_ ?_ _); rotate_left; (first | (with_reducible exact Nat.zero_le _) | (with_reducible exact Nat.le_refl _) | omega | (dsimp only; omega) | (simp only [World.size_alloc, World.size_setCell, World.size_drew]; omega)))))
  have hb0 : Below w.heap.size w (w.alloc (.cells #[.int .i64 a, .int .i64 b] 44)) := by repeat (first | (with_reducible exact Below.refl _ _) | (with_reducible assumption) | (with_reducible refine Below.drew ?_) | ((with_reducible refine Below.alloc ?_ ?_ _); rotate_left; (first | (with_reducible exact Nat.zero_le _) | (with_reducible exact Nat.le_refl _) | omega | (dsimp only; omega) | (simp only [World.size_alloc, World.size_setCell, World.size_drew]; omega))) | ((with_reducible refine Below.setCell ?_ ?_ _); rotate_left; (first | (with_reducible exact Nat.zero_le _) | (with_reducible exact Nat.le_refl _) | omega | (dsimp only; omega) | (simp only [World.size_alloc, World.size_setCell, World.size_drew]; omega))))
  have hck := fun w h => check_any (w := w) (v := v) (l := l) h
  rw [ht0] at hck
  clear he hL ht0
  have hl1 := hT.pos
  have hl8 := hT.len
  obtain ⟨x0, hx0⟩ : ∃ x, l[0]? = some x := ⟨_, List.getElem?_eq_getElem hl1⟩
  rw [getD_of hx0] at hfa
  obtain ⟨oa, cap, hv, hlc1, hlc2, hnn, hlc⟩ := hl.at_
  unfold maxLen at hlc2
  have HL := Lib.hid hlc
  clear hlc hnn
  obtain ⟨lb, lo, ho, hll, hlc⟩ := HL.out (by rintro rfl; simp at hl1)
  rw [ho] at hv
  rw [hv] at hl hl2 hck ⊢
  have hbc : ∀ W, Below w.heap.size w W → W.cell? ⟨lb, lo, none⟩ = some (.int .i64 x0.frm) := fun W h => by
    rw [h.cell (p := ⟨lb, lo, none⟩) hll]
    have := hlc 0 x0 hx0 0 (by omega)
    rw [Nat.zero_mul, Nat.add_zero] at this
    exact this
  have HBC := Lib.hid hbc
  have i1 : (0 : Int) < l.length := by omega
  have ha' : ¬ a < 0 := by omega
  have hab' : ¬ a > b := by omega
  have hb' : ¬ b > 36525 := by omega
  clear hv hbc
  obtain ⟨i, hi, hz, hsi, hby⟩ : ∃ i, Try.prog.info? 49 = some i ∧ i.zero = some (.agg #[.int .i64 0, .int .i64 0, .int .i64 0, .int .i64 0, .int .i64 0]) ∧ i.size = 5 ∧ i.bytes = 40 := info_of (by kernel_rfl)
  have hok := hT.ok
  have HT := Lib.hid hok
  clear hok hT
  go_enter Try.func20, Try.ntmps20
  go_wp2_with fail
  refine (hck _ hl2).mono ?_
  rintro e w1 ⟨rfl, hb1⟩
  replace hb0 := hb0.trans (hb1.mono hb0.size)
  have cc := HBC.out w1 hb0
  replace B0 := B0.step hb1
  have c0 := B0.cell
  have l0 := B0.lt
  go_upto_region 8 with fail
  go_cut [46] (fun s wx => s = .bool false ∧ Below w.heap.size w wx ∧ Blk wx w.heap.size 44 #[.int .i64 a, .int .i64 b])
  case first =>
    by_cases hlt : a < b
    · have hf := hfa hlt
      have hf' : ¬ a < x0.frm := by omega
      go_quiet (fail)
      go_wp2_with fail
      go_meet
      exact ⟨by simp, hb0.trans ((Below.of_drewN w1 nq).mono hb0.size), B0⟩
    · go_quiet (fail)
      go_wp2_with fail
      go_meet
      exact ⟨by simp, hb0.trans ((Below.of_drewN w1 nq).mono hb0.size), B0⟩
  case rest =>
    obtain ⟨rfl, hbc0, BW⟩ := hcut
    have hcs := hbc0.size
    have lW := BW.lt
    clear c0 l0 B0 cc hb0 hb1 hck hl2 hfa hx0
    go_wp2_with (go_at_call 28; refine (priced_any 1 _).mono ?_; rintro e w2 ⟨rfl, rfl⟩)
    go_loopw [8, 50] (fun v i wr => BaseRel w wc.heap.size a b l v i wr) (fun _ i _ => (l.length - intOf i).toNat)
    case atStart => exact ⟨0, Nat.zero_le _, rfl, hbc0.alloc hcs _, BW.alloc _, Blk.new _ _ _, World.ownsRow_nil _ _ _ _⟩
    case round =>
      clear hbc0 BW
      obtain ⟨k, hk, rfl, hb, BW, BP, own⟩ := hrel
      have hwz := hb.size
      have hil := itemsTo_len l a b k
      by_cases hlt : k < l.length
      · obtain ⟨x, hx⟩ : ∃ x, l[k]? = some x := ⟨_, List.getElem?_eq_getElem hlt⟩
        have hkl : (k : Int) < l.length := by omega
        have q : ∀ j, wr.cell? ⟨lb, j, none⟩ = w.cell? ⟨lb, j, none⟩ := fun j => hb.cell (p := ⟨lb, j, none⟩) hll
        have e0 : World.cell? w ⟨lb, lo + k * 5, none⟩ = some (.int .i64 (x).frm) := hlc (k) x hx 0 (by omega); have e1 : World.cell? w ⟨lb, lo + k * 5 + 1, none⟩ = some (.int .i64 (x).base) := hlc (k) x hx 1 (by omega); have e2 : World.cell? w ⟨lb, lo + k * 5 + 2, none⟩ = some (.int .i64 (x).empty) := hlc (k) x hx 2 (by omega); have e3 : World.cell? w ⟨lb, lo + k * 5 + 3, none⟩ = some (.int .i64 (x).kilo) := hlc (k) x hx 3 (by omega); have e4 : World.cell? w ⟨lb, lo + k * 5 + 4, none⟩ = some (.int .i64 (x).free) := hlc (k) x hx 4 (by omega)
        rw [← q] at e0 e1 e2 e3 e4
        have HQ := Lib.hid q
        clear q
        have hxo := tok_bd (HT.out k hlt)
        rw [getD_of hx] at hxo
        have hlw : lb < wr.heap.size := by omega
        have c0 := BW.cell
        have l0 := BW.lt
        have i0 : (0 : Int) ≤ (k : Int) + 1 := by omega
        have i2 : ((k : Int) + 1).toNat = k + 1 := by omega
        go_upto_if 61 with fail
        go_cut [11] (fun s11 wx => s11 = .int .i64 (endOf l b k) ∧ wr.alloc (.cells #[.int .i64 x.frm, .int .i64 x.base, .int .i64 x.empty, .int .i64 x.kilo, .int .i64 x.free] 31) = wx)
        case first =>
          by_cases h1 : k + 1 < l.length
          · obtain ⟨y, hy⟩ : ∃ x, l[k + 1]? = some x := ⟨_, List.getElem?_eq_getElem h1⟩
            have g0 : wr.cell? ⟨lb, lo + (k + 1) * 5, none⟩ = some (.int .i64 y.frm) := (HQ.out _).trans (hlc (k + 1) y hy 0 (by omega))
            have h1' : (k : Int) + 1 < l.length := by omega
            by_cases hby : b < y.frm
            · have hend : endOf l b k = b := by unfold endOf; rw [if_pos h1, getD_of hy, if_pos hby]
              have HEnd := Lib.hid hend
              clear hend
              go_wp2_with fail
              all_goals (
                go_meet
                exact ⟨by rw [HEnd.out], rfl⟩)
            · have hend : endOf l b k = y.frm := by unfold endOf; rw [if_pos h1, getD_of hy, if_neg hby]
              have HEnd := Lib.hid hend
              clear hend
              go_wp2_with fail
              all_goals (
                go_meet
                exact ⟨by rw [HEnd.out] <;> congr 1 <;> omega, rfl⟩)
          · have hend : endOf l b k = b := by unfold endOf; rw [if_neg h1]
            have h1' : ¬ (k : Int) + 1 < l.length := by omega
            have HEnd := Lib.hid hend
            clear hend
            go_wp2_with fail
            go_meet
            exact ⟨by rw [HEnd.out], rfl⟩
        case rest =>
          obtain ⟨rfl, rfl⟩ := hcut
          have hen := endOf_bd HT.out (Int.le_trans ha hab) hb36 hlt
          have hd : dOf l a b k = endOf l b k - (if a < x.frm then x.frm else a) := by unfold dOf; rw [getD_of hx]
          have hkeep := @base_keep l a b k
          have hadd := @base_add l a b k
          rw [getD_of hx] at hadd
          generalize dOf l a b k = D at *
          generalize endOf l b k = E at *
          have BX := Blk.new wr 31 #[.int .i64 x.frm, .int .i64 x.base, .int .i64 x.empty, .int .i64 x.kilo, .int .i64 x.free]
          replace BW := BW.alloc (.cells #[.int .i64 x.frm, .int .i64 x.base, .int .i64 x.empty, .int .i64 x.kilo, .int .i64 x.free] 31)
          replace BP := BP.alloc (.cells #[.int .i64 x.frm, .int .i64 x.base, .int .i64 x.empty, .int .i64 x.kilo, .int .i64 x.free] 31)
          replace own := own.alloc (.cells #[.int .i64 x.frm, .int .i64 x.base, .int .i64 x.empty, .int .i64 x.kilo, .int .i64 x.free] 31)
          replace hb := hb.alloc hwz (.cells #[.int .i64 x.frm, .int .i64 x.base, .int .i64 x.empty, .int .i64 x.kilo, .int .i64 x.free] 31)
          have hz5 : (wr.alloc (.cells #[.int .i64 x.frm, .int .i64 x.base, .int .i64 x.empty, .int .i64 x.kilo, .int .i64 x.free] 31)).heap.size = wr.heap.size + 1 := by simp
          have hcw : wc.heap.size < wr.heap.size + 1 := by have := BP.lt; omega
          generalize hw5 : wr.alloc (.cells #[.int .i64 x.frm, .int .i64 x.base, .int .i64 x.empty, .int .i64 x.kilo, .int .i64 x.free] 31) = w5 at *
          clear hw5 e0 e1 e2 e3 e4 HQ c0 l0
          have c0 := BW.cell
          have l0 := BW.lt
          have c1 := BX.cell
          have l1 := BX.lt
          by_cases hax : a < x.frm
          · rw [if_pos hax] at hd
            by_cases hpos : D > 0
            · have hp1 : 0 ≤ D * x.base := Int.mul_nonneg (by omega) (by omega)
              have hp2 : D * x.base ≤ 36525 * 100000 := Int.mul_le_mul (by omega) (by omega) (by omega) (by omega)
              have hadd' := hadd hpos
              have HA := Lib.hid hadd'
              clear hadd hadd' hkeep
              have hmx : E - x.frm > 0 := by omega
              have HD := Lib.hid hd
              rw [hd] at hp1 hp2 HA
              clear hd hpos
              go_wp2_with fail
              all_goals (
                refine (priced1_any 1 k (E - x.frm) x.base _ _ BP hp1 (by omega)).mono ?_
                rintro e w6 ⟨rfl, hb6⟩
                have own6 := ownsRow_step own hb6
                replace BW := BW.step hb6
                replace BP := BP.step hb6
                have hz6 := hb6.size
                have hb7 := hb.trans (hb6.mono (by omega))
                unfold encI
                clear c0 l0 c1 l1
                go_wp2_with (at_builtin; refine wpList_append_any _ rfl _ _ _ rfl (wc.heap.size + 1) 49 i _ 5 40 Try.underlying38 hi hz hsi hby rfl (by omega) _ _ _ rfl (own6.alloc (.cells #[.int .i64 1, .int .i64 k, .int .i64 (E - x.frm), .int .i64 x.base, .int .i64 ((E - x.frm) * x.base)] 49)) _ 1 (encI ⟨1, k, E - x.frm, x.base, (E - x.frm) * x.base⟩) rfl (Src.of_blk (Blk.new w6 49 #[.int .i64 1, .int .i64 k, .int .i64 (E - x.frm), .int .i64 x.base, .int .i64 ((E - x.frm) * x.base)]) 1) rfl (hone_I _) (by simp only [maxLen]; omega) (by omega) (by simp only [World.size_alloc]; omega) ?_)
                intro v7 w7 own7 hg7 hat7
                clear hat7
                have hrow : ∀ j, (u8 : Value).ownBlock = some j → wc.heap.size + 1 ≤ j := fun j hj => by
                  rcases ownsRow_open own6 with ⟨h, _, _⟩ | ⟨g, _, _, h, hg, _⟩
                  · rw [h] at hj; simp [Value.ownBlock] at hj
                  · rw [h] at hj; simp [Value.ownBlock] at hj; omega
                replace BW := Blk.grown (BW.alloc (.cells #[.int .i64 1, .int .i64 k, .int .i64 (E - x.frm), .int .i64 x.base, .int .i64 ((E - x.frm) * x.base)] 49)) hg7 (fun h => by have := hrow _ h.symm; omega)
                replace BP := Blk.grown (BP.alloc (.cells #[.int .i64 1, .int .i64 k, .int .i64 (E - x.frm), .int .i64 x.base, .int .i64 ((E - x.frm) * x.base)] 49)) hg7 (fun h => by have := hrow _ h.symm; omega)
                have hb8 : Below w.heap.size w w7 := Below.grown (hb7.alloc (by omega) _) hg7 (by simp only [World.size_alloc]; omega) (fun j hj => by have := hrow j hj; omega)
                have own8 : w7.ownsRow (wc.heap.size + 1) 49 5 v7 (itemsTo l a b (k + 1)).length (rowOf encI (itemsTo l a b (k + 1))) := by
                  rw [HA.out, List.length_append, rowOf_append]
                  simpa [rowOf] using own7
                clear own7 own6 own hg7 hrow
                go_wp2_with fail
                go_roundw
                case rel => exact ⟨k + 1, hlt, by simp, hb8, BW, BP, own8⟩
                case measure => simp [intOf]; omega)
            · have hk' := hkeep hpos
              have HK := Lib.hid hk'
              clear hkeep hk' hadd
              have hmx : ¬ E - x.frm > 0 := by omega
              clear hd hpos
              go_wp2_with fail
              all_goals (
                go_roundw
                case rel => exact ⟨k + 1, hlt, by simp, hb, BW, BP, by rw [HK.out]; exact own⟩
                case measure => simp [intOf]; omega)
          · rw [if_neg hax] at hd
            by_cases hpos : D > 0
            · have hp1 : 0 ≤ D * x.base := Int.mul_nonneg (by omega) (by omega)
              have hp2 : D * x.base ≤ 36525 * 100000 := Int.mul_le_mul (by omega) (by omega) (by omega) (by omega)
              have hadd' := hadd hpos
              have HA := Lib.hid hadd'
              clear hadd hadd' hkeep
              have hmx : E - a > 0 := by omega
              have HD := Lib.hid hd
              rw [hd] at hp1 hp2 HA
              clear hd hpos
              go_wp2_with fail
              all_goals (
                refine (priced1_any 1 k (E - a) x.base _ _ BP hp1 (by omega)).mono ?_
                rintro e w6 ⟨rfl, hb6⟩
                have own6 := ownsRow_step own hb6
                replace BW := BW.step hb6
                replace BP := BP.step hb6
                have hz6 := hb6.size
                have hb7 := hb.trans (hb6.mono (by omega))
                unfold encI
                clear c0 l0 c1 l1
                go_wp2_with (at_builtin; refine wpList_append_any _ rfl _ _ _ rfl (wc.heap.size + 1) 49 i _ 5 40 Try.underlying38 hi hz hsi hby rfl (by omega) _ _ _ rfl (own6.alloc (.cells #[.int .i64 1, .int .i64 k, .int .i64 (E - a), .int .i64 x.base, .int .i64 ((E - a) * x.base)] 49)) _ 1 (encI ⟨1, k, E - a, x.base, (E - a) * x.base⟩) rfl (Src.of_blk (Blk.new w6 49 #[.int .i64 1, .int .i64 k, .int .i64 (E - a), .int .i64 x.base, .int .i64 ((E - a) * x.base)]) 1) rfl (hone_I _) (by simp only [maxLen]; omega) (by omega) (by simp only [World.size_alloc]; omega) ?_)
                intro v7 w7 own7 hg7 hat7
                clear hat7
                have hrow : ∀ j, (u8 : Value).ownBlock = some j → wc.heap.size + 1 ≤ j := fun j hj => by
                  rcases ownsRow_open own6 with ⟨h, _, _⟩ | ⟨g, _, _, h, hg, _⟩
                  · rw [h] at hj; simp [Value.ownBlock] at hj
                  · rw [h] at hj; simp [Value.ownBlock] at hj; omega
                replace BW := Blk.grown (BW.alloc (.cells #[.int .i64 1, .int .i64 k, .int .i64 (E - a), .int .i64 x.base, .int .i64 ((E - a) * x.base)] 49)) hg7 (fun h => by have := hrow _ h.symm; omega)
                replace BP := Blk.grown (BP.alloc (.cells #[.int .i64 1, .int .i64 k, .int .i64 (E - a), .int .i64 x.base, .int .i64 ((E - a) * x.base)] 49)) hg7 (fun h => by have := hrow _ h.symm; omega)
                have hb8 : Below w.heap.size w w7 := Below.grown (hb7.alloc (by omega) _) hg7 (by simp only [World.size_alloc]; omega) (fun j hj => by have := hrow j hj; omega)
                have own8 : w7.ownsRow (wc.heap.size + 1) 49 5 v7 (itemsTo l a b (k + 1)).length (rowOf encI (itemsTo l a b (k + 1))) := by
                  rw [HA.out, List.length_append, rowOf_append]
                  simpa [rowOf] using own7
                clear own7 own6 own hg7 hrow
                go_wp2_with fail
                go_roundw
                case rel => exact ⟨k + 1, hlt, by simp, hb8, BW, BP, own8⟩
                case measure => simp [intOf]; omega)
            · have hk' := hkeep hpos
              have HK := Lib.hid hk'
              clear hkeep hk' hadd
              have hmx : ¬ E - a > 0 := by omega
              clear hd hpos
              go_wp2_with fail
              all_goals (
                go_roundw
                case rel => exact ⟨k + 1, hlt, by simp, hb, BW, BP, by rw [HK.out]; exact own⟩
                case measure => simp [intOf]; omega)
      · obtain rfl : k = l.length := by omega
        go_wp2_with fail
        go_ret2
        exact ⟨_, rfl, RowIn.of_own encI_len own, hb⟩

end Go.Proofs.Ytaidcdcikjbjjaa
