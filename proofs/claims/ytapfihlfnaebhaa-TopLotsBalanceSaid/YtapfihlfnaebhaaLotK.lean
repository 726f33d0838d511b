/- Contract: Check of the reference. -/
import Derived.Test.YtapfihlfnaebhaaLotJ
import Derived.BigQuiet
namespace Go.Proofs.Ytapfihlfnaebhaa
set_option linter.unusedVariables false
set_option linter.unusedSimpArgs false
open Go.RowKit

def K1Rel (w : World) (L : List Lv) (i : Value) (wr : World) : Prop := ∃ k : Nat, k ≤ L.length ∧ i = .int .i64 k ∧ lotsE L k = 0 ∧ Below w.heap.size w wr
def K2Rel (w : World) (L : List Lv) (i : Value) (wr : World) : Prop := ∃ k : Nat, k ≤ L.length ∧ i = .int .i64 k ∧ nodup L k = true ∧ Below w.heap.size w wr
theorem nodup_late {l : List Lv} {k : Nat} (h : nodup l (k + 1) = false) : ∀ n, k < n → nodup l n = false
  | 0, hn => absurd hn (Nat.not_lt_zero _)
  | n + 1, hn => by
    by_cases e : n = k
    · subst e; exact h
    · unfold nodup; rw [nodup_late h n (by omega)]; rfl

set_option maxRecDepth 100000 in
set_option maxHeartbeats 8000000 in
theorem rlcheck_any {w : World} {v : Value} {L : List Lv} (h : LotsIn w v L) : Calls Try.prog 14 #[v] w fun e w' => e = .returned (.int .i64 (chkL L)) ∧ Below w.heap.size w w' := by
  obtain ⟨oa, cap, hv, p1, p2, _, hp5⟩ := h.row.at_
  unfold maxLen at p2
  subst hv
  have HP := Lib.hid hp5
  have HI := Lib.hid h
  have hC : chkL L = if L.length > 512 then 8 else if lotsE L L.length ≠ 0 then lotsE L L.length else if nodup L L.length = false then 6 else overE L L.length := rfl
  generalize chkL L = CL at *
  clear hp5 h
  by_cases g : L.length > 512
  · rw [if_pos g] at hC
    subst hC
    have g' : (L.length : Int) > 512 := by omega
    clear g
    go_enter Try.func14, Try.ntmps14
    go_wp2_with fail
    go_ret
    exact ⟨rfl, Below.refl _ _⟩
  rw [if_neg g] at hC
  have g' : ¬ (L.length : Int) > 512 := by omega
  have HC := Lib.hid hC
  have HG := Lib.hid g
  clear hC g
  go_enter Try.func14, Try.ntmps14
  go_wp2_with fail
  go_loopw [15] (fun i wr => K1Rel w L i wr) (fun i _ => (L.length - intOf i).toNat)
  case atStart => exact ⟨0, Nat.zero_le _, rfl, rfl, Below.refl _ _⟩
  case round =>
    obtain ⟨k, hk, rfl, hok, hbr⟩ := hrel
    have hwr := hbr.size
    by_cases hkl : k < L.length
    · have hki : (k : Int) < L.length := by omega
      have hk0 : (0 : Int) ≤ k := by omega
      have hkc : (k : Int) ≤ cap := by omega
      have hx := getD_of (d := lv0) hkl
      have hxm := List.mem_of_getElem? hx
      obtain ⟨ob, oo, rfl, hoz, hoc⟩ := HP.out (by rintro rfl; simp at hkl)
      have ec := hoc k _ hx
      have q : ∀ j, wr.cell? ⟨ob, j, none⟩ = w.cell? ⟨ob, j, none⟩ := fun j => hbr.cell (p := ⟨ob, j, none⟩) hoz
      have hpr := HI.out.part _ hxm
      have HST := Lib.hid (fun h => lotsE_stop hok h L.length hkl)
      have hL1 : lotsE L (k + 1) = if lotsE L k ≠ 0 then lotsE L k else oneE (fun y => (kn L k y).isSome) (L.getD k lv0) := rfl
      rw [if_neg (by simpa using hok)] at hL1
      have hcas := headE_cases (L.getD k lv0)
      have hone : headE (L.getD k lv0) ≠ 0 → oneE (fun y => (kn L k y).isSome) (L.getD k lv0) = headE (L.getD k lv0) := fun h => if_pos h
      have hhd := fun a b c d e => oneE_head (K := fun y => (kn L k y).isSome) (x := L.getD k lv0) a b c d e
      have hte := HI.out.take (i := k) (by omega)
      have hkt := kn_take (L := L) (i := k) (by omega) k (Nat.le_refl _)
      have hlt : (L.take k).length = k := by simp; omega
      clear hx hxm hoc hok
      generalize L.getD k lv0 = x at *
      have e0 : World.cell? wr ⟨ob, oo + k * 5, none⟩ = some (.int .i64 (x).id) := (q _).trans (ec 0 (by omega))
      have e1 : World.cell? wr ⟨ob, oo + k * 5 + 1, none⟩ = some (.int .i64 (x).mat) := (q _).trans (ec 1 (by omega))
      have e2 : World.cell? wr ⟨ob, oo + k * 5 + 2, none⟩ = some (.int .i64 (x).lo) := (q _).trans (ec 2 (by omega))
      have e3 : World.cell? wr ⟨ob, oo + k * 5 + 3, none⟩ = some (.int .i64 (x).hi) := (q _).trans (ec 3 (by omega))
      have e4 : World.cell? wr ⟨ob, oo + k * 5 + 4, none⟩ = some ((x).pv) := (q _).trans (ec 4 (by omega))
      clear ec q
      have HBAD := Lib.hid (fun (z : Int) (hz : oneE (fun y => (kn L k y).isSome) x = z) (h0 : z ≠ 0) => HC.out.trans (show _ = z by rw [if_pos (by rw [HST.out (by rw [hz]; exact h0), hz]; exact h0), HST.out (by rw [hz]; exact h0), hz]))
      have hpar := fun w he hp => rparts_any (w := w) (ve := .slice (some ⟨ob, oo, none⟩) k cap) (E := L.take k) x he hp
      rw [hlt, hkt] at hpar
      clear HST hlt hkt
      obtain ⟨xi, xm, xl, xh, xv, ps⟩ := x
      dsimp only at *
      obtain ⟨pa, pc, hpv, r1, r2, _, _⟩ := hpr.at_
      subst hpv
      unfold maxLen at r2
      have hbx : Below wr.heap.size wr (wr.alloc (.cells #[.int .i64 xi, .int .i64 xm, .int .i64 xl, .int .i64 xh, .slice pa ps.length pc] 49)) := by repeat (first | (with_reducible exact Below.refl _ _) | (with_reducible assumption) | (with_reducible refine Below.drew ?_) | ((with_reducible refine Below.alloc ?_ ?_ _); rotate_left; (first | (with_reducible exact Nat.zero_le _) | (with_reducible exact Nat.le_refl _) | omega | (dsimp only; omega) | (simp only [World.size_alloc, World.size_setCell, World.size_drew]; omega))) | ((with_reducible refine Below.setCell ?_ ?_ _); rotate_left; (first | (with_reducible exact Nat.zero_le _) | (with_reducible exact Nat.le_refl _) | omega | (dsimp only; omega) | (simp only [World.size_alloc, World.size_setCell, World.size_drew]; omega))))
      have BX := Blk.new wr 49 #[.int .i64 xi, .int .i64 xm, .int .i64 xl, .int .i64 xh, .slice pa ps.length pc]
      have hbz := hbr.trans (hbx.mono hwr)
      generalize oneE (fun y => (kn L k y).isSome) ⟨xi, xm, xl, xh, .slice pa ps.length pc, ps⟩ = OE at *
      generalize parE (fun y => (kn L k y).isSome) ⟨xi, xm, xl, xh, .slice pa ps.length pc, ps⟩ = PE at *
      generalize headE ⟨xi, xm, xl, xh, .slice pa ps.length pc, ps⟩ = HE at *
      rcases hcas with ⟨hh, hd⟩ | ⟨c1, c2, hcas⟩
      · have HF := Lib.hid (HBAD.out 1 ((hone (by rw [hh]; decide)).trans hh) (by decide))
        clear HBAD hone hhd hL1 hh hpar
        rcases hd with d1 | ⟨d1, d2⟩
        all_goals (
          go_wp2_with fail
          go_ret
          exact ⟨by rw [HF.out]; rfl, hbz⟩)
      rcases hcas with ⟨hh, hd⟩ | ⟨c3, c4, hcas⟩
      · have HF := Lib.hid (HBAD.out 21 ((hone (by rw [hh]; decide)).trans hh) (by decide))
        clear HBAD hone hhd hL1 hh hpar
        rcases hd with d1 | ⟨d1, d2⟩
        all_goals (
          go_wp2_with fail
          go_ret
          exact ⟨by rw [HF.out]; rfl, hbz⟩)
      have ham := fun w => ramount_any xl xh w
      rcases hcas with ⟨hh, hd⟩ | ⟨hd, hcas⟩
      · have HF := Lib.hid (HBAD.out 1 ((hone (by rw [hh]; decide)).trans hh) (by decide))
        rw [hd] at ham
        clear HBAD hone hhd hL1 hh hpar hd
        go_wp2_with fail
        refine (ham _).mono ?_
        rintro e w3 ⟨rfl, hb3⟩
        go_wp2_with fail
        go_ret
        exact ⟨by rw [HF.out]; rfl, hbz.trans (hb3.mono hbz.size)⟩
      have hOP : OE = PE := hhd c1 c2 c3 c4 hd
      rw [hd] at ham
      subst hOP
      clear hcas hone hhd hd
      go_wp2_with fail
      refine (ham _).mono ?_
      rintro e w3 ⟨rfl, hb3⟩
      replace BX := BX.step hb3
      replace hbz := hbz.trans (hb3.mono hbz.size)
      clear e0 e1 e2 e3 e4 ham
      go_wp2_with fail
      have hpx := fun (Y : BW w3) => hpar Y.w (hte.step (hbz.trans (Y.h.mono hbz.size))) (hpr.step (hbz.trans (Y.h.mono hbz.size)))
      have cY : ∀ Y : BW w3, ∀ j, Y.w.cell? ⟨wr.heap.size, j, none⟩ = #[.int .i64 xi, .int .i64 xm, .int .i64 xl, .int .i64 xh, .slice pa ps.length pc][j]? := fun Y => (BX.bw Y).cell
      refine wp_region_calm (by kernel_rfl) (by kernel_rfl) ?_
      repeat (go_big_quiet_step (fail))
      go_big_quiet_want; go_big_quiet_op; go_big_quiet_call (exact (hpx _).mono fun _ w'' ⟨he, hb⟩ => ⟨he, ⟨w'', Below.trans (BW.h _) (hb.mono (BW.size _))⟩, rfl⟩)
      repeat (go_big_quiet_step (fail))
      first | refine wpQuiet_nil ?_ | skip
      intro w4 hb4
      replace hbz := hbz.trans (hb4.mono hbz.size)
      clear cY hpx hpar BX hb3 hb4
      by_cases h0 : OE = 0
      · subst h0
        have HL1 := Lib.hid hL1
        clear hL1 HBAD
        go_wp2_with fail
        go_roundw
        case rel => exact ⟨k + 1, hkl, by simp, HL1.out, hbz⟩
        case measure => simp [intOf]; omega
      · have HF := Lib.hid (HBAD.out _ rfl h0)
        have h0' : (OE != 0) = true := by simpa using h0
        clear hL1 HBAD h0
        go_wp2_with fail
        go_ret
        exact ⟨by rw [HF.out]; rfl, hbz⟩
    · obtain rfl : k = L.length := by omega
      have HPO := Lib.hid (partsOk hok HG.out)
      have HC1 := Lib.hid (HC.out.trans (if_neg (by simpa using hok)))
      clear hok
      go_wp2_with fail
      go_loopw [51] (fun i wz => K2Rel w L i wz) (fun i _ => (L.length - intOf i).toNat)
      case atStart => exact ⟨0, Nat.zero_le _, rfl, rfl, hbr⟩
      case round =>
        clear hbr hwr
        obtain ⟨k, hk, rfl, hok, hbr⟩ := hrel
        have hwr := hbr.size
        by_cases hkl : k < L.length
        · have hki : (k : Int) < L.length := by omega
          have hk0 : (0 : Int) ≤ k := by omega
          have hkc : (k : Int) ≤ cap := by omega
          have hx := getD_of (d := lv0) hkl
          have hxm := List.mem_of_getElem? hx
          obtain ⟨ob, oo, rfl, hoz, hoc⟩ := HP.out (by rintro rfl; simp at hkl)
          have ec := hoc k _ hx
          have q : ∀ j, World.cell? _ ⟨ob, j, none⟩ = w.cell? ⟨ob, j, none⟩ := fun j => hbr.cell (p := ⟨ob, j, none⟩) hoz
          have hpr := HI.out.part _ hxm
          have hnd : nodup L (k + 1) = (nodup L k && !(kn L k (L.getD k lv0).id).isSome) := rfl
          rw [hok, Bool.true_and] at hnd
          have hte := HI.out.take (i := k) (by omega)
          have hkt := kn_take (L := L) (i := k) (by omega) k (Nat.le_refl _)
          have hlt : (L.take k).length = k := by simp; omega
          have hkn := fun w he => rknown_any (w := w) (v := .slice (some ⟨ob, oo, none⟩) k cap) (L := L.take k) he (L.getD k lv0).id
          rw [hlt, hkt] at hkn
          clear hx hxm hoc hok hlt hkt
          generalize L.getD k lv0 = x at *
          have e0 : World.cell? wr ⟨ob, oo + k * 5, none⟩ = some (.int .i64 (x).id) := (q _).trans (ec 0 (by omega))
          have e1 : World.cell? wr ⟨ob, oo + k * 5 + 1, none⟩ = some (.int .i64 (x).mat) := (q _).trans (ec 1 (by omega))
          have e2 : World.cell? wr ⟨ob, oo + k * 5 + 2, none⟩ = some (.int .i64 (x).lo) := (q _).trans (ec 2 (by omega))
          have e3 : World.cell? wr ⟨ob, oo + k * 5 + 3, none⟩ = some (.int .i64 (x).hi) := (q _).trans (ec 3 (by omega))
          have e4 : World.cell? wr ⟨ob, oo + k * 5 + 4, none⟩ = some ((x).pv) := (q _).trans (ec 4 (by omega))
          clear ec q
          obtain ⟨xi, xm, xl, xh, xv, ps⟩ := x
          dsimp only at *
          obtain ⟨pa, pc, hpv, r1, r2, _, _⟩ := hpr.at_
          subst hpv
          unfold maxLen at r2
          have hbx : Below wr.heap.size wr (wr.alloc (.cells #[.int .i64 xi, .int .i64 xm, .int .i64 xl, .int .i64 xh, .slice pa ps.length pc] 49)) := by repeat (first | (with_reducible exact Below.refl _ _) | (with_reducible assumption) | (with_reducible refine Below.drew ?_) | ((with_reducible refine Below.alloc ?_ ?_ _); rotate_left; (first | (with_reducible exact Nat.zero_le _) | (with_reducible exact Nat.le_refl _) | omega | (dsimp only; omega) | (simp only [World.size_alloc, World.size_setCell, World.size_drew]; omega))) | ((with_reducible refine Below.setCell ?_ ?_ _); rotate_left; (first | (with_reducible exact Nat.zero_le _) | (with_reducible exact Nat.le_refl _) | omega | (dsimp only; omega) | (simp only [World.size_alloc, World.size_setCell, World.size_drew]; omega))))
          have BX := Blk.new wr 49 #[.int .i64 xi, .int .i64 xm, .int .i64 xl, .int .i64 xh, .slice pa ps.length pc]
          have hbz := hbr.trans (hbx.mono hwr)
          have hbz0 := hbz
          generalize (kn L k xi).isSome = KK at *
          go_wp2_with fail
          clear e0 e1 e2 e3 e4
          generalize wr.alloc (.cells #[.int .i64 xi, .int .i64 xm, .int .i64 xl, .int .i64 xh, .slice pa ps.length pc] 49) = wb at *
          generalize wr.heap.size = bx at *
          have hkx := fun (Y : BW wb) => hkn Y.w (hte.step (hbz.trans (Y.h.mono hbz.size)))
          have cY : ∀ Y : BW wb, ∀ j, Y.w.cell? ⟨bx, j, none⟩ = #[.int .i64 xi, .int .i64 xm, .int .i64 xl, .int .i64 xh, .slice pa ps.length pc][j]? := fun Y => (BX.bw Y).cell
          refine wp_region_calm (by kernel_rfl) (by kernel_rfl) ?_
          repeat (go_big_quiet_step (fail))
          go_big_quiet_want; go_big_quiet_op; go_big_quiet_call (exact (hkx _).mono fun _ w'' ⟨he, hb⟩ => ⟨he, ⟨w'', Below.trans (BW.h _) (hb.mono (BW.size _))⟩, rfl⟩)
          repeat (go_big_quiet_step (fail))
          first | refine wpQuiet_nil ?_ | skip
          intro w4 hb4
          replace hbz := hbz.trans (hb4.mono hbz.size)
          clear cY hkx hkn BX hb4
          cases KK with
          | true =>
            have HF := Lib.hid (HC1.out.trans (if_pos (nodup_late hnd L.length hkl)))
            clear hnd
            go_wp2_with fail
            go_ret
            exact ⟨by rw [HF.out]; rfl, hbz⟩
          | false =>
            have HND := Lib.hid hnd
            clear hnd
            go_wp2_with fail
            go_roundw
            case rel => exact ⟨k + 1, hkl, by simp, HND.out, hbz⟩
            case measure => simp [intOf]; omega
        · obtain rfl : k = L.length := by omega
          have HC2 := Lib.hid (HC1.out.trans (if_neg (by rw [hok]; simp)))
          clear hok
          go_wp2_with fail
          go_loopw [65] (fun i wz => C2Rel w L i wz) (fun i _ => (L.length - intOf i).toNat)
          case atStart => exact ⟨0, Nat.zero_le _, rfl, rfl, hbr⟩
          case round =>
            clear hbr hwr
            obtain ⟨k, hk, rfl, hok, hbr⟩ := hrel
            have hwr := hbr.size
            by_cases hkl : k < L.length
            · have hki : (k : Int) < L.length := by omega
              have hk0 : (0 : Int) ≤ k := by omega
              have hx := getD_of (d := lv0) hkl
              have hxm := List.mem_of_getElem? hx
              obtain ⟨ob, oo, rfl, hoz, hoc⟩ := HP.out (by rintro rfl; simp at hkl)
              have ec := hoc k _ hx
              have q : ∀ j, World.cell? _ ⟨ob, j, none⟩ = w.cell? ⟨ob, j, none⟩ := fun j => hbr.cell (p := ⟨ob, j, none⟩) hoz
              have hpr := HI.out.part _ hxm
              have HST := Lib.hid (fun h => overE_stop hok h L.length hkl)
              have HNX := Lib.hid (fun h => overE_next hok h)
              have hte := HI.out
              have htk := fun w he => rtaken_any (w := w) (v := .slice (some ⟨ob, oo, none⟩) L.length cap) (L := L) he HPO.out (L.getD k lv0).id
              clear hx hxm hoc hok
              generalize L.getD k lv0 = x at *
              have e0 : World.cell? wr ⟨ob, oo + k * 5, none⟩ = some (.int .i64 (x).id) := (q _).trans (ec 0 (by omega))
              have e1 : World.cell? wr ⟨ob, oo + k * 5 + 1, none⟩ = some (.int .i64 (x).mat) := (q _).trans (ec 1 (by omega))
              have e2 : World.cell? wr ⟨ob, oo + k * 5 + 2, none⟩ = some (.int .i64 (x).lo) := (q _).trans (ec 2 (by omega))
              have e3 : World.cell? wr ⟨ob, oo + k * 5 + 3, none⟩ = some (.int .i64 (x).hi) := (q _).trans (ec 3 (by omega))
              have e4 : World.cell? wr ⟨ob, oo + k * 5 + 4, none⟩ = some ((x).pv) := (q _).trans (ec 4 (by omega))
              clear ec q
              obtain ⟨xi, xm, xl, xh, xv, ps⟩ := x
              dsimp only at *
              obtain ⟨pa, pc, hpv, r1, r2, _, _⟩ := hpr.at_
              subst hpv
              unfold maxLen at r2
              have hbx : Below wr.heap.size wr (wr.alloc (.cells #[.int .i64 xi, .int .i64 xm, .int .i64 xl, .int .i64 xh, .slice pa ps.length pc] 49)) := by repeat (first | (with_reducible exact Below.refl _ _) | (with_reducible assumption) | (with_reducible refine Below.drew ?_) | ((with_reducible refine Below.alloc ?_ ?_ _); rotate_left; (first | (with_reducible exact Nat.zero_le _) | (with_reducible exact Nat.le_refl _) | omega | (dsimp only; omega) | (simp only [World.size_alloc, World.size_setCell, World.size_drew]; omega))) | ((with_reducible refine Below.setCell ?_ ?_ _); rotate_left; (first | (with_reducible exact Nat.zero_le _) | (with_reducible exact Nat.le_refl _) | omega | (dsimp only; omega) | (simp only [World.size_alloc, World.size_setCell, World.size_drew]; omega))))
              have BX := Blk.new wr 49 #[.int .i64 xi, .int .i64 xm, .int .i64 xl, .int .i64 xh, .slice pa ps.length pc]
              have hbz := hbr.trans (hbx.mono hwr)
              generalize tk L xi = T at *
              go_wp2_with fail
              clear e0 e1 e2 e3 e4
              generalize wr.alloc (.cells #[.int .i64 xi, .int .i64 xm, .int .i64 xl, .int .i64 xh, .slice pa ps.length pc] 49) = wb at *
              generalize wr.heap.size = bx at *
              have hkx := fun (Y : BW wb) => htk Y.w (hte.step (hbz.trans (Y.h.mono hbz.size)))
              have cY : ∀ Y : BW wb, ∀ j, Y.w.cell? ⟨bx, j, none⟩ = #[.int .i64 xi, .int .i64 xm, .int .i64 xl, .int .i64 xh, .slice pa ps.length pc][j]? := fun Y => (BX.bw Y).cell
              have hfd := fun w => fieldS T.lo T.hi w
              refine wp_region_calm (by kernel_rfl) (by kernel_rfl) ?_
              repeat (go_big_quiet_step (fail))
              go_big_quiet_want; go_big_quiet_op; go_big_quiet_call (exact (hkx _).mono fun _ w'' ⟨he, hb⟩ => ⟨he, ⟨w'', Below.trans (BW.h _) (hb.mono (BW.size _))⟩, rfl⟩)
              repeat (go_big_quiet_step (fail))
              first | refine wpQuiet_nil ?_ | skip
              intro w4 hb4
              replace hbz := hbz.trans (hb4.mono hbz.size)
              clear cY hkx htk BX hb4 hfd
              by_cases ho : T.lo > xh
              · have HF2 := Lib.hid (HC2.out.trans (HST.out ho))
                clear HST HNX
                go_wp2_with fail
                go_ret
                exact ⟨by rw [HF2.out]; rfl, hbz⟩
              · have HN2 := Lib.hid (HNX.out (by omega))
                clear HST HNX
                go_wp2_with fail
                go_roundw
                case rel => exact ⟨k + 1, hkl, by simp, HN2.out, hbz⟩
                case measure => simp [intOf]; omega
            · obtain rfl : k = L.length := by omega
              have HF2 := Lib.hid (HC2.out.trans hok)
              clear hok
              go_wp2_with fail
              go_ret
              exact ⟨by rw [HF2.out]; rfl, hbr⟩

end Go.Proofs.Ytapfihlfnaebhaa
