/- The walk of LotMany. -/
import Derived.Test.YtpafcdigcpbbeaaLotZa
import Derived.Test.YtpafcdigcpbbeaaLotMp
import Derived.Test.YtpafcdigcpbbeaaLotUo
import Derived.Deep.RegionLaw
namespace Go.Proofs.Ytpafcdigcpbbeaa
set_option linter.unusedVariables false
set_option linter.unusedSimpArgs false
open Go.RowKit

def MnRel (w : World) (N : Nat) (v i : Value) (wr : World) : Prop := ∃ k : Nat, k ≤ N ∧ i = .int .i64 k ∧ Below w.heap.size w wr ∧ wr.ownsRow w.heap.size 33 5 v k (rowOf encV (lotsM k))
def MpRel (w1 : World) (M : Nat) (i : Value) (wr : World) : Prop := ∃ (k : Nat) (pv : Value), k ≤ M ∧ i = .int .i64 k ∧ Below w1.heap.size w1 wr ∧ Blk wr w1.heap.size 33 #[.int .i64 1000, .int .i64 0, .int .i64 0, .int .i64 100, pv] ∧ wr.ownsRow (w1.heap.size + 1) 35 3 pv k (rowOf encT (ptsM k))
theorem own_slice {W : World} {base n C : Nat} {e : TypeId} {v : Value} {xs : List Value} (h : W.ownsRow base e C v n xs) : ∃ oa c, v = .slice oa n c := by
  rcases ownsRow_open h with ⟨rfl, rfl, _⟩ | ⟨g, cap, cur, rfl, _⟩
  · exact ⟨_, _, rfl⟩
  · exact ⟨_, _, rfl⟩
theorem oneV (x : Lv) {oa : Option Addr} {l c : Nat} (h : x.pv = .slice oa l c) : ∀ u ∈ encV x, Value.oneCell' u = true := fun u hu => by
  simp [encV] at hu
  rcases hu with rfl | rfl | rfl | rfl | rfl
  · rfl
  · rfl
  · rfl
  · rfl
  · rw [h]; rfl
set_option maxRecDepth 100000 in
set_option maxHeartbeats 8000000 in
theorem law_many (w : World) (a b : Int) (ha0 : 0 ≤ a ∧ a ≤ 65535) (hb0 : 0 ≤ b ∧ b ≤ 255) : Calls Try.prog 4 #[.int .u16 a, .int .u8 b] w fun e w' => e = .returned (.bool true) ∧ Below w.heap.size w w' := by
  have ha := awake_any
  have hm := lawmass_any
  obtain ⟨N, hN⟩ : ∃ N : Nat, a % 515 = N := ⟨(a % 515).toNat, by omega⟩
  obtain ⟨M, hM⟩ : ∃ M : Nat, b % 11 = M := ⟨(b % 11).toNat, by omega⟩
  have hN5 : N ≤ 514 := by omega
  have hM1 : M ≤ 10 := by omega
  obtain ⟨ti, ii, iz, isi, iby⟩ := info_of (P := Try.prog) (t := 33) (z := .agg #[.int .i64 0, .int .i64 0, .int .i64 0, .int .i64 0, .slice none 0 0]) (size := 5) (bytes := 56) (by kernel_rfl)
  obtain ⟨tj, ji, jz, jsi, jby⟩ := info_of (P := Try.prog) (t := 35) (z := .agg #[.int .i64 0, .int .i64 0, .int .i64 0]) (size := 3) (bytes := 24) (by kernel_rfl)
  go_enter Try.func4, Try.ntmps4
  go_wp2_with fail
  go_loopw [5, 6] (fun v i wr => MnRel w N v i wr) (fun _ i _ => (N - intOf i).toNat)
  case atStart => exact ⟨0, Nat.zero_le _, rfl, Below.refl _ _, ⟨by simp [rowOf, lotsM], .inl ⟨rfl, rfl⟩⟩⟩
  case round =>
    obtain ⟨k, hk, rfl, hbr, own⟩ := hrel
    have hsz := hbr.size
    by_cases hkl : k < N
    · have hki : (k : Int) < N := by omega
      have hk0 : (0 : Int) ≤ k := by omega
      go_wp2_with fail
      refine (hm _ _).mono ?_
      rintro e w2 ⟨rfl, hb2⟩
      have hbs : Below w2.heap.size w2 (w2.alloc (.cells #[.int .i64 ((k : Int) + 1), .int .i64 0, .int .i64 1, .int .i64 1, .slice none 0 0] 33)) := by repeat (first | (with_reducible exact Below.refl _ _) | (with_reducible assumption) | (with_reducible refine Below.drew ?_) | ((with_reducible refine Below.alloc ?_ ?_ _); rotate_left; (first | (with_reducible exact Nat.zero_le _) | (with_reducible exact Nat.le_refl _) | omega | (dsimp only; omega) | (simp only [World.size_alloc, World.size_setCell, World.size_drew]; omega))) | ((with_reducible refine Below.setCell ?_ ?_ _); rotate_left; (first | (with_reducible exact Nat.zero_le _) | (with_reducible exact Nat.le_refl _) | omega | (dsimp only; omega) | (simp only [World.size_alloc, World.size_setCell, World.size_drew]; omega))))
      have BK := Blk.new w2 33 #[.int .i64 ((k : Int) + 1), .int .i64 0, .int .i64 1, .int .i64 1, .slice none 0 0]
      have hb3 := hb2.trans (hbs.mono hb2.size)
      have own2 := ownsRow_step own hb3
      have hbz := hbr.trans (hb3.mono hsz)
      have HBZ := Lib.hid hbz
      clear hb2 hbs hb3 own hbr
      go_wp2_with (at_builtin; go_loud (refine wpList_append_any _ rfl _ _ _ rfl w.heap.size 33 ti _ 5 56 Try.underlying22 ii iz isi iby rfl (by omega) _ k _ rfl own2 _ 1 (encV (mnL k)) rfl (Src.of_blk BK 1) rfl (oneV (mnL k) rfl) (by simp only [maxLen]; omega) (by omega) hbz.size ?_); intro v6 w6 own6 hg6 hat6)
      have hb7 := Below.grown HBZ.out hg6 HBZ.out.size (own_ge' own2)
      have own6' : w6.ownsRow w.heap.size 33 5 v6 (k + 1) (rowOf encV (lotsM (k + 1))) := by
        rw [lotsM_succ, rowOf_append]
        simpa [rowOf] using own6
      clear own6 own2 hg6 hat6
      go_roundw
      case rel => exact ⟨k + 1, hkl, by simp, hb7, own6'⟩
      case measure => simp [intOf]; omega
    · obtain rfl : k = N := by omega
      obtain ⟨MM, hM3, hM4, hM5⟩ : ∃ MM, MM ≤ M ∧ MM ≤ k ∧ (MM = M ∨ MM = k) := ⟨min M k, by omega, by omega, by omega⟩
      have hbx : Below wr.heap.size wr (wr.alloc (.cells #[.int .i64 1000, .int .i64 0, .int .i64 0, .int .i64 100, .slice none 0 0] 33)) := by repeat (first | (with_reducible exact Below.refl _ _) | (with_reducible assumption) | (with_reducible refine Below.drew ?_) | ((with_reducible refine Below.alloc ?_ ?_ _); rotate_left; (first | (with_reducible exact Nat.zero_le _) | (with_reducible exact Nat.le_refl _) | omega | (dsimp only; omega) | (simp only [World.size_alloc, World.size_setCell, World.size_drew]; omega))) | ((with_reducible refine Below.setCell ?_ ?_ _); rotate_left; (first | (with_reducible exact Nat.zero_le _) | (with_reducible exact Nat.le_refl _) | omega | (dsimp only; omega) | (simp only [World.size_alloc, World.size_setCell, World.size_drew]; omega))))
      have BX := Blk.new wr 33 #[.int .i64 1000, .int .i64 0, .int .i64 0, .int .i64 100, .slice none 0 0]
      have HBX := Lib.hid hbx
      have HBR := Lib.hid hbr
      have HO := Lib.hid own
      have RL : RowIn wr u5 5 encV (lotsM k) := RowIn.of_own encV_len (by rw [lotsM_len]; exact own)
      obtain ⟨la, lc, hle, l1, l2, _, _⟩ := RL.at_
      rw [lotsM_len] at hle l1
      subst hle
      unfold maxLen at l2
      have HM := Lib.hid hm
      have hki : ¬ (k : Int) < a % 515 := by omega
      clear hN
      clear hbx hbr own RL hm
      go_wp2_with fail
      clear hki
      generalize hwq : wr = wq at *
      clear hwq
      go_loopw [8] (fun i wr => MpRel wq MM i wr) (fun i _ => (MM - intOf i).toNat)
      case atStart => exact ⟨0, .slice none 0 0, Nat.zero_le _, rfl, HBX.out, BX, ⟨by simp [rowOf, ptsM], .inl ⟨rfl, rfl⟩⟩⟩
      case round =>
        obtain ⟨j, pv, hj, rfl, hbr, BM, own⟩ := hrel
        have hsz2 := hbr.size
        have RP : RowIn wr pv 3 encT (ptsM j) := RowIn.of_own encT_len (by rw [ptsM_len]; exact own)
        obtain ⟨pa, pc, hpe, p1, p2, _, _⟩ := RP.at_
        rw [ptsM_len] at hpe p1
        subst hpe
        unfold maxLen at p2
        by_cases hjl : j < MM
        · have hj1 : (j : Int) < M := by omega
          have hj2 : (j : Int) < k := by omega
          have hj0 : (0 : Int) ≤ j := by omega
          have HBM := Lib.hid BM
          have HBR2 := Lib.hid hbr
          have HOP := Lib.hid own
          have k0 : wr.cell? ⟨wq.heap.size, 4, none⟩ = some (.slice pa j pc) := BM.cell 4
          have l0 := BM.lt
          have f0 := BM.free
          have hwj : IntKind.i64.wrap ((j : Int) + 1) = (j : Int) + 1 := wrapI _ (by omega)
          clear BM hbr own RP
          go_wp2_with fail
          go_region_law ((first
            | (go_simp; go_at_call 14; refine (HM.out _ _).mono ?_; rintro e w2 ⟨rfl, hb2⟩; have hw2 : Below wr.heap.size wr w2 := Below.trans (by repeat (first | (with_reducible exact Below.refl _ _) | (with_reducible assumption) | (with_reducible refine Below.drew ?_) | ((with_reducible refine Below.alloc ?_ ?_ _); rotate_left; (first | (with_reducible exact Nat.zero_le _) | (with_reducible exact Nat.le_refl _) | omega | (dsimp only; omega) | (simp only [World.size_alloc, World.size_setCell, World.size_drew]; omega))) | ((with_reducible refine Below.setCell ?_ ?_ _); rotate_left; (first | (with_reducible exact Nat.zero_le _) | (with_reducible exact Nat.le_refl _) | omega | (dsimp only; omega) | (simp only [World.size_alloc, World.size_setCell, World.size_drew]; omega))))) hb2; have BM2 := HBM.out.step hw2; have k2 : w2.cell? ⟨wq.heap.size, 4, none⟩ = some (.slice pa j pc) := BM2.cell 4; have l2 := BM2.lt; have f2 := BM2.free; have hs2 := hw2.size; have own2 : ∀ W, Below w2.heap.size w2 W → W.ownsRow (wq.heap.size + 1) 35 3 (.slice pa j pc) j (rowOf encT (ptsM j)) := fun W h => ownsRow_step (ownsRow_step HOP.out hw2) h)
            | (refine step_append_any _ (by rfl) _ _ _ (by rfl) (wq.heap.size + 1) 35 tj _ 3 24 Try.underlying31 ji jz jsi jby (by rfl) (by omega) _ j _ (by rfl) (own2 _ (by repeat (first | (with_reducible exact Below.refl _ _) | (with_reducible assumption) | (with_reducible refine Below.drew ?_) | ((with_reducible refine Below.alloc ?_ ?_ _); rotate_left; (first | (with_reducible exact Nat.zero_le _) | (with_reducible exact Nat.le_refl _) | omega | (dsimp only; omega) | (simp only [World.size_alloc, World.size_setCell, World.size_drew]; omega))) | ((with_reducible refine Below.setCell ?_ ?_ _); rotate_left; (first | (with_reducible exact Nat.zero_le _) | (with_reducible exact Nat.le_refl _) | omega | (dsimp only; omega) | (simp only [World.size_alloc, World.size_setCell, World.size_drew]; omega)))))) _ 1 (encT (mnP j)) (by rfl) (Src.of_blk (Blk.new w2 35 #[.int .i64 ((j : Int) + 1), .int .i64 1, .int .i64 1]) 1) (by rfl) (fun u hu => by simp [encT] at hu; rcases hu with rfl | rfl | rfl <;> rfl) (by simp only [maxLen]; omega) (by omega) (by simp only [World.size_alloc, World.size_drew] <;> omega) ?_; intro v6 w6 own6 hg6 hat6; obtain ⟨oa6, c6, rfl⟩ := own_slice own6; have hw3 : Below w2.heap.size w2 (w2.alloc (.cells #[.int .i64 ((j : Int) + 1), .int .i64 1, .int .i64 1] 35)) := (by repeat (first | (with_reducible exact Below.refl _ _) | (with_reducible assumption) | (with_reducible refine Below.drew ?_) | ((with_reducible refine Below.alloc ?_ ?_ _); rotate_left; (first | (with_reducible exact Nat.zero_le _) | (with_reducible exact Nat.le_refl _) | omega | (dsimp only; omega) | (simp only [World.size_alloc, World.size_setCell, World.size_drew]; omega))) | ((with_reducible refine Below.setCell ?_ ?_ _); rotate_left; (first | (with_reducible exact Nat.zero_le _) | (with_reducible exact Nat.le_refl _) | omega | (dsimp only; omega) | (simp only [World.size_alloc, World.size_setCell, World.size_drew]; omega))))); have BM6 := (BM2.step hw3).grown hg6 (fun e => by have := own_ge' (own2 _ hw3) _ e.symm; omega); have k6 : w6.cell? ⟨wq.heap.size, 4, none⟩ = some (.slice pa j pc) := BM6.cell 4; have l6 := BM6.lt; have f6 := BM6.free)))
          all_goals (
            have hb6 := HBR2.out.trans (Below.mono (Below.trans hw2 (hw3.mono hs2)) hsz2)
            have hb7 := Below.grown hb6 hg6 hb6.size (fun i hi => by have := own_ge' (own2 _ hw3) i hi; omega)
            have own7 : w6.ownsRow (wq.heap.size + 1) 35 3 (.slice oa6 (j + 1) c6) (j + 1) (rowOf encT (ptsM (j + 1))) := by
              rw [ptsM_succ, rowOf_append]
              simpa [rowOf] using own6
            have BM7 := BM6.put 4 (.slice oa6 (j + 1) c6)
            have H1 := Lib.hid (hb7.setCell (p := ⟨wq.heap.size, 4, none⟩) (Nat.le_refl _) (.slice oa6 (j + 1) c6))
            have H2 := Lib.hid (own_far (p := ⟨wq.heap.size, 4, none⟩) own7 (Nat.lt_succ_self _) (.slice oa6 (j + 1) c6))
            have H3 := Lib.hid BM7
            clear hb6 hb7 own7 BM7 BM6 own6 hg6 hat6 own2 k0 l0 f0 k2 l2 f2 k6 l6 f6 hw2 hw3 BM2 hb2 hwj
            go_wp2_with fail
            go_roundw
            case rel =>
              exact ⟨j + 1, _, by omega, by simp, H1.out, H3.out, H2.out⟩
            case measure => simp [intOf] <;> omega)
        · have hcs : ¬ (j : Int) < M ∨ ((j : Int) < M ∧ ¬ (j : Int) < k) := by omega
          have hjN : j ≤ k := by omega
          have cM := BM.cell
          have lM := BM.lt
          have fM := BM.free
          have HBM := Lib.hid BM
          have HBR2 := Lib.hid hbr
          have HOP := Lib.hid own
          have BK := Blk.new wr 33 #[.int .i64 1000, .int .i64 0, .int .i64 0, .int .i64 100, .slice pa j pc]
          have hbk : Below wr.heap.size wr (wr.alloc (.cells #[.int .i64 1000, .int .i64 0, .int .i64 0, .int .i64 100, .slice pa j pc] 33)) := by repeat (first | (with_reducible exact Below.refl _ _) | (with_reducible assumption) | (with_reducible refine Below.drew ?_) | ((with_reducible refine Below.alloc ?_ ?_ _); rotate_left; (first | (with_reducible exact Nat.zero_le _) | (with_reducible exact Nat.le_refl _) | omega | (dsimp only; omega) | (simp only [World.size_alloc, World.size_setCell, World.size_drew]; omega))) | ((with_reducible refine Below.setCell ?_ ?_ _); rotate_left; (first | (with_reducible exact Nat.zero_le _) | (with_reducible exact Nat.le_refl _) | omega | (dsimp only; omega) | (simp only [World.size_alloc, World.size_setCell, World.size_drew]; omega))))
          have ownL := ownsRow_step HO.out (hbr.mono (Nat.le_refl _))
          clear BM hbr own RP
          have hle := own_lt HO.out
          have hbw6 : ∀ w6 v6, (wr.alloc (.cells #[.int .i64 1000, .int .i64 0, .int .i64 0, .int .i64 100, .slice pa j pc] 33)).grownBy w6 (Value.ownBlock (.slice la k lc)) → w6.ownsRow w.heap.size 33 5 v6 (k + 1) (rowOf encV (lotsM k) ++ encV (madeL j (.slice pa j pc))) →
              LotsIn w6 v6 (LM k j (.slice pa j pc)) ∧ Blk w6 wq.heap.size 33 #[.int .i64 1000, .int .i64 0, .int .i64 0, .int .i64 100, .slice pa j pc] ∧ Below w.heap.size w w6 := fun w6 v6 hg own6 => by
            have hbA := (HBR.out.trans (HBR2.out.mono hsz)).trans (hbk.mono (HBR.out.trans (HBR2.out.mono hsz)).size)
            have hop := own_grown (ownsRow_step HOP.out hbk) hg (fun i hi hl => by
              have h1 := own_ge' HOP.out i hi
              have h2 := hle i hl
              omega)
            have hpr := RowIn.of_own encT_len (l := ptsM j) (by rw [ptsM_len]; exact hop)
            refine ⟨⟨RowIn.of_own (base := w.heap.size) (e := 33) encV_len (l := LM k j (.slice pa j pc)) ?_, fun x hx => ?_, fun x hx => ?_, fun x hx => ?_⟩, (HBM.out.step hbk).grown hg (fun e => by have := hle _ e.symm; omega), Below.grown hbA hg hbA.size (fun i hi => own_ge' HO.out i hi)⟩
            · rw [LM_len]
              unfold LM
              rw [List.flatMap_append]
              simpa [rowOf] using own6
            · unfold LM at hx
              rcases List.mem_append.1 hx with hx | hx
              · obtain ⟨i, _, rfl⟩ := List.mem_map.1 (show x ∈ (List.range k).map mnL from hx)
                exact .nil _ _ _
              · obtain rfl := List.mem_singleton.1 hx
                exact hpr
            · unfold LM at hx
              rcases List.mem_append.1 hx with hx | hx
              · obtain ⟨i, hi, rfl⟩ := List.mem_map.1 (show x ∈ (List.range k).map mnL from hx)
                have := List.mem_range.1 hi
                exact wf_of_has ⟨by show (-9223372036854775808 : Int) ≤ (i : Int) + 1; omega, by show (i : Int) + 1 ≤ 9223372036854775807; omega⟩
              · obtain rfl := List.mem_singleton.1 hx
                rfl
            · unfold LM at hx
              rcases List.mem_append.1 hx with hx | hx
              · obtain ⟨i, hi, rfl⟩ := List.mem_map.1 (show x ∈ (List.range k).map mnL from hx)
                intro p hp
                exact absurd hp (by simp [mnL])
              · obtain rfl := List.mem_singleton.1 hx
                intro p hp
                obtain ⟨i, hi, rfl⟩ := List.mem_map.1 (show p ∈ (List.range j).map mnP from hp)
                have := List.mem_range.1 hi
                exact wf_of_has ⟨by show (-9223372036854775808 : Int) ≤ (i : Int) + 1; omega, by show (i : Int) + 1 ≤ 9223372036854775807; omega⟩
          have HW6 := Lib.hid hbw6
          have hck := LM_chk (pv := .slice pa j pc) (show k ≤ 514 by omega) (show j ≤ 10 by omega) hjN
          have ownL2 := ownsRow_step ownL hbk
          have hszk := hbk.size
          clear hbw6 ownL hbk hle
          have hfull : (∃ E : Int, (E = if k + 1 > 512 ∨ j > 8 then 8 else 0) ∧ (((k : Int) + 1 > 512 ∧ E = 8) ∨ (¬ (k : Int) + 1 > 512 ∧ (j : Int) > 8 ∧ E = 8) ∨ (¬ (k : Int) + 1 > 512 ∧ ¬ (j : Int) > 8 ∧ E = 0))) := by
            refine ⟨_, rfl, ?_⟩
            by_cases h1 : k + 1 > 512
            · exact .inl ⟨by omega, by rw [if_pos (.inl h1)]⟩
            · by_cases h2 : j > 8
              · exact .inr (.inl ⟨by omega, by omega, by rw [if_pos (.inr h2)]⟩)
              · exact .inr (.inr ⟨by omega, by omega, by rw [if_neg (by omega)]⟩)
          obtain ⟨E, hE, hcE⟩ := hfull
          rw [← hE] at hck
          have HCK2 := Lib.hid hck
          clear hck hE
          rcases hcs with hc1 | ⟨hc1, hc2⟩ <;> rcases hcE with ⟨hf1, rfl⟩ | ⟨hf1, hf2, rfl⟩ | ⟨hf1, hf2, rfl⟩
          all_goals try (exfalso; omega)
          all_goals (
            go_wp2_with (at_builtin; go_loud (refine wpList_append_any _ rfl _ _ _ rfl w.heap.size 33 ti _ 5 56 Try.underlying22 ii iz isi iby rfl (by omega) _ k _ rfl ownL2 _ 1 (encV (madeL j (.slice pa j pc))) rfl (Src.of_blk BK 1) rfl (oneV (madeL j (.slice pa j pc)) rfl) (by simp only [maxLen]; omega) (by omega) (by simp only [World.size_alloc]; omega) ?_); intro v6 w6 own6 hg6 hat6; obtain ⟨oa6, c6, rfl⟩ := own_slice own6; obtain ⟨hl6, BM6, hb6⟩ := HW6.out _ _ hg6 own6; have cM6 := BM6.cell; have lM6 := BM6.lt; have HL6 := Lib.hid hl6; have HB6 := Lib.hid hb6; clear own6 hg6 hat6 hl6 hb6 BM6)
            refine (lcheck_any HL6.out).mono ?_
            rintro e w7 ⟨rfl, hb7⟩
            rw [HCK2.out]
            go_wp2_with fail
            refine (ha _).mono ?_
            rintro e w8 ⟨rfl, hb8⟩
            go_wp2_with fail
            go_ret
            have hb9 := HB6.out.trans (hb7.mono HB6.out.size)
            exact ⟨by first | rfl | simp, hb9.trans (hb8.mono hb9.size)⟩)

end Go.Proofs.Ytpafcdigcpbbeaa
