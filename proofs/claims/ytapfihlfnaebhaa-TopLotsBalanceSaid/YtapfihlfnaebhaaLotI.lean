/- Contract: taken of the reference. -/
import Derived.Test.YtapfihlfnaebhaaLotH
namespace Go.Proofs.Ytapfihlfnaebhaa
set_option linter.unusedVariables false
set_option linter.unusedSimpArgs false
open Go.RowKit

def RtRel2 (w : World) (g : Nat) (L : List Lv) (y : Int) (i : Value) (wr : World) : Prop := ∃ k : Nat, k ≤ L.length ∧ i = .int .i64 k ∧ Below w.heap.size w wr ∧ Blk wr w.heap.size 32 #[.int .i64 0, .int .i64 0] ∧ Blk wr g 32 #[.int .i64 (tk (L.take k) y).lo, .int .i64 (tk (L.take k) y).hi]
def RpRel2 (w : World) (g : Nat) (L : List Lv) (k : Nat) (ps : List Pt) (y : Int) (i : Value) (wr : World) : Prop := ∃ j : Nat, j ≤ ps.length ∧ i = .int .i64 j ∧ Below w.heap.size w wr ∧ Blk wr w.heap.size 32 #[.int .i64 0, .int .i64 0] ∧ Blk wr g 32 #[.int .i64 (tkP y (tk (L.take k) y) (ps.take j)).lo, .int .i64 (tkP y (tk (L.take k) y) (ps.take j)).hi]
set_option maxRecDepth 100000 in
set_option maxHeartbeats 8000000 in
theorem rtaken_any {w : World} {v : Value} {L : List Lv} (h : LotsIn w v L) (hok : PartsOk L) (y : Int) : Calls Try.prog 41 #[v, .int .i64 y] w fun e w' => e = .returned (.agg #[.int .i64 (tk L y).lo, .int .i64 (tk L y).hi]) ∧ Below w.heap.size w w' := by
  obtain ⟨oa, cap, hv, p1, p2, _, hp5⟩ := h.row.at_
  unfold maxLen at p2
  subst hv
  have HP := Lib.hid hp5
  have HI := Lib.hid h
  have hfew := hok.few
  have HOK := Lib.hid hok
  have HTB := Lib.hid (tk_bd hok y)
  clear hp5 h hok
  have hb0 : Below w.heap.size w ((w.alloc (.cells #[.int .i64 0, .int .i64 0] 32)).alloc (.cells #[.int .i64 0, .int .i64 0] 32)) := by repeat (first | (with_reducible exact Below.refl _ _) | (with_reducible assumption) | (with_reducible refine Below.drew ?_) | ((with_reducible refine Below.alloc ?_ ?_ _); rotate_left; (first | (with_reducible exact Nat.zero_le _) | (with_reducible exact Nat.le_refl _) | omega | (dsimp only; omega) | (simp only [World.size_alloc, World.size_setCell, World.size_drew]; omega))) | ((with_reducible refine Below.setCell ?_ ?_ _); rotate_left; (first | (with_reducible exact Nat.zero_le _) | (with_reducible exact Nat.le_refl _) | omega | (dsimp only; omega) | (simp only [World.size_alloc, World.size_setCell, World.size_drew]; omega))))
  have B1 : Blk ((w.alloc (.cells #[.int .i64 0, .int .i64 0] 32)).alloc (.cells #[.int .i64 0, .int .i64 0] 32)) w.heap.size 32 #[.int .i64 0, .int .i64 0] := (Blk.new w 32 #[.int .i64 0, .int .i64 0]).alloc _
  have B2 : Blk ((w.alloc (.cells #[.int .i64 0, .int .i64 0] 32)).alloc (.cells #[.int .i64 0, .int .i64 0] 32)) (w.heap.size + 1) 32 #[.int .i64 0, .int .i64 0] := by
    have := Blk.new (w.alloc (.cells #[.int .i64 0, .int .i64 0] 32)) 32 #[.int .i64 0, .int .i64 0]
    simpa using this
  go_enter Try.func41, Try.ntmps41
  go_wp2_with fail
  go_loopw [13] (fun i wr => RtRel2 w (w.heap.size + 1) L y i wr) (fun i _ => (L.length - intOf i).toNat)
  case atStart => exact ⟨0, Nat.zero_le _, rfl, hb0, B1, B2⟩
  case round =>
    clear hb0 B1 B2
    obtain ⟨k, hk, rfl, hbr, B1, B2⟩ := hrel
    have hwr := hbr.size
    by_cases hkl : k < L.length
    · have hki : (k : Int) < L.length := by omega
      have hk0 : (0 : Int) ≤ k := by omega
      have hx := getD_of (d := lv0) hkl
      have hxm := List.mem_of_getElem? hx
      obtain ⟨ob, oo, rfl, hoz, hoc⟩ := HP.out (by rintro rfl; simp at hkl)
      have ec := hoc k _ hx
      have q : ∀ j, wr.cell? ⟨ob, j, none⟩ = w.cell? ⟨ob, j, none⟩ := fun j => hbr.cell (p := ⟨ob, j, none⟩) hoz
      have hpr := HI.out.part _ hxm
      have hwf := HI.out.lot _ hxm
      have h8 := HOK.out.eight _ hxm
      have hms := HOK.out.mass _ hxm
      have HTK := Lib.hid (tk_take y hx)
      have hbd := HTB.out k (by omega)
      clear hx hxm hoc
      generalize L.getD k lv0 = x at *
      obtain ⟨xi, xm, xl, xh, xv, ps⟩ := x
      dsimp only at *
      have e0 : World.cell? wr ⟨ob, oo + k * 5, none⟩ = some (.int .i64 xi) := (q _).trans (ec 0 (by omega))
      have e1 : World.cell? wr ⟨ob, oo + k * 5 + 1, none⟩ = some (.int .i64 xm) := (q _).trans (ec 1 (by omega))
      have e2 : World.cell? wr ⟨ob, oo + k * 5 + 2, none⟩ = some (.int .i64 xl) := (q _).trans (ec 2 (by omega))
      have e3 : World.cell? wr ⟨ob, oo + k * 5 + 3, none⟩ = some (.int .i64 xh) := (q _).trans (ec 3 (by omega))
      have e4 : World.cell? wr ⟨ob, oo + k * 5 + 4, none⟩ = some xv := (q _).trans (ec 4 (by omega))
      clear ec q
      obtain ⟨pa, pc, rfl, r1, r2, _, hr5⟩ := hpr.at_
      unfold maxLen at r2
      have HR := Lib.hid hr5
      have HBD := Lib.hid hbd
      have HMS := Lib.hid hms
      have HWF := Lib.hid hwf
      clear hr5 hpr hbd hms hwf
      have hbx : Below wr.heap.size wr (wr.alloc (.cells #[.int .i64 xi, .int .i64 xm, .int .i64 xl, .int .i64 xh, .slice pa ps.length pc] 49)) := by repeat (first | (with_reducible exact Below.refl _ _) | (with_reducible assumption) | (with_reducible refine Below.drew ?_) | ((with_reducible refine Below.alloc ?_ ?_ _); rotate_left; (first | (with_reducible exact Nat.zero_le _) | (with_reducible exact Nat.le_refl _) | omega | (dsimp only; omega) | (simp only [World.size_alloc, World.size_setCell, World.size_drew]; omega))) | ((with_reducible refine Below.setCell ?_ ?_ _); rotate_left; (first | (with_reducible exact Nat.zero_le _) | (with_reducible exact Nat.le_refl _) | omega | (dsimp only; omega) | (simp only [World.size_alloc, World.size_setCell, World.size_drew]; omega))))
      have hbz := hbr.trans (hbx.mono hwr)
      replace B1 := B1.step hbx
      replace B2 := B2.step hbx
      go_wp2_with fail
      clear e0 e1 e2 e3 e4
      go_loopw [20] (fun i wz => RpRel2 w (w.heap.size + 1) L k ps y i wz) (fun i _ => (ps.length - intOf i).toNat)
      case atStart => exact ⟨0, Nat.zero_le _, rfl, hbz, B1, B2⟩
      case round =>
        clear hbz hbx hbr hwr B1 B2
        obtain ⟨j, hj, rfl, hbr, B1, B2⟩ := hrel
        have hwr := hbr.size
        by_cases hjl : j < ps.length
        · have hji : (j : Int) < ps.length := by omega
          have hj0 : (0 : Int) ≤ j := by omega
          have hx := getD_of (d := pt0) hjl
          have hxm := List.mem_of_getElem? hx
          obtain ⟨pb, po, rfl, hpz, hpc⟩ := HR.out (by rintro rfl; simp at hjl)
          have ec := hpc j _ hx
          have q : ∀ j, wr.cell? ⟨pb, j, none⟩ = w.cell? ⟨pb, j, none⟩ := fun j => hbr.cell (p := ⟨pb, j, none⟩) hpz
          have hmo := mOk_iff.1 (HMS.out _ hxm)
          have hbd := tkP_bd (y := y) (ps := ps) HMS.out HBD.out j (by omega)
          have hT := tkP_take y (tk (L.take k) y) hx
          clear hx hxm hpc
          generalize ps.getD j pt0 = p at *
          obtain ⟨yl, y1, y2⟩ := p
          dsimp only at *
          have e0 : World.cell? wr ⟨pb, po + j * 3, none⟩ = some (.int .i64 yl) := (q _).trans (ec 0 (by omega))
          have e1 : World.cell? wr ⟨pb, po + j * 3 + 1, none⟩ = some (.int .i64 y1) := (q _).trans (ec 1 (by omega))
          have e2 : World.cell? wr ⟨pb, po + j * 3 + 2, none⟩ = some (.int .i64 y2) := (q _).trans (ec 2 (by omega))
          clear ec q
          unfold addP at hT
          dsimp only at hT
          generalize tkP y (tk (L.take k) y) (ps.take j) = S at *
          have hb1 : Below wr.heap.size wr (wr.alloc (.cells #[.int .i64 yl, .int .i64 y1, .int .i64 y2] 51)) := by repeat (first | (with_reducible exact Below.refl _ _) | (with_reducible assumption) | (with_reducible refine Below.drew ?_) | ((with_reducible refine Below.alloc ?_ ?_ _); rotate_left; (first | (with_reducible exact Nat.zero_le _) | (with_reducible exact Nat.le_refl _) | omega | (dsimp only; omega) | (simp only [World.size_alloc, World.size_setCell, World.size_drew]; omega))) | ((with_reducible refine Below.setCell ?_ ?_ _); rotate_left; (first | (with_reducible exact Nat.zero_le _) | (with_reducible exact Nat.le_refl _) | omega | (dsimp only; omega) | (simp only [World.size_alloc, World.size_setCell, World.size_drew]; omega))))
          have hbz := hbr.trans (hb1.mono hwr)
          have hl2 := B2.lt
          have hl1 := B1.lt
          have hn1 : w.heap.size + 1 ≠ wr.heap.size := by omega
          have hn2 : wr.heap.size ≠ w.heap.size + 1 := by omega
          obtain ⟨t1, t2, t3⟩ := hbd
          obtain ⟨u1, u2, u3⟩ := hmo
          by_cases hy : yl = y
          · rw [if_pos hy] at hT
            have HT := Lib.hid hT
            have hy' : (yl == y) = true := by simpa using hy
            have co := B2.cell
            have fo := B2.free
            have B2s := ((B2.put 0 (.int .i64 (S.lo + y1))).put 1 (.int .i64 (S.hi + y2))).alloc (.cells #[.int .i64 yl, .int .i64 y1, .int .i64 y2] 51)
            have B1s := ((B1.far (p := ⟨w.heap.size + 1, 0, none⟩) (by simp) (.int .i64 (S.lo + y1))).far (p := ⟨w.heap.size + 1, 1, none⟩) (by simp) (.int .i64 (S.hi + y2))).alloc (.cells #[.int .i64 yl, .int .i64 y1, .int .i64 y2] 51)
            have hbs0 := (hbr.setCell (p := ⟨w.heap.size + 1, 0, none⟩) (by simp) (.int .i64 (S.lo + y1))).setCell (p := ⟨w.heap.size + 1, 1, none⟩) (by simp) (.int .i64 (S.hi + y2))
            have hbs := hbs0.alloc hbs0.size (.cells #[.int .i64 yl, .int .i64 y1, .int .i64 y2] 51)
            clear hy hT
            go_wp2_with fail
            go_roundw
            case rel => exact ⟨j + 1, hjl, by simp, hbs, B1s, by rw [HT.out]; exact B2s⟩
            case measure => simp [intOf]; omega
          · rw [if_neg hy] at hT
            have HT := Lib.hid hT
            have hy' : (yl == y) = false := by simpa using hy
            clear hy hT
            go_wp2_with fail
            go_roundw
            case rel => exact ⟨j + 1, hjl, by simp, hbz, B1.step hb1, by rw [HT.out]; exact B2.step hb1⟩
            case measure => simp [intOf]; omega
        · obtain rfl : j = ps.length := by omega
          rw [List.take_length] at B2
          go_wp2_with fail
          go_roundw
          case rel => exact ⟨k + 1, hkl, by simp, hbr, B1, by rw [HTK.out]; exact B2⟩
          case measure => simp [intOf]; omega
    · obtain rfl : k = L.length := by omega
      rw [List.take_length] at B2
      have HTL := Lib.hid (show tk L y = tk L y from rfl)
      obtain ⟨T, hT⟩ : ∃ T, T = tk L y := ⟨_, rfl⟩
      rw [← hT] at B2
      have HT := Lib.hid hT
      clear hT HTL
      have c2 := B2.cell
      have l2 := B2.lt
      have c1 := B1.cell
      have f1 := B1.free
      have l1 := B1.lt
      go_wp2_with fail
      refine bodyPost_ret (v := .agg #[.int .i64 (T).lo, .int .i64 (T).hi]) (by simp only [results, Try.results41]; go_simp; first | done | rfl) rfl ⟨by rw [HT.out], ?_⟩
      repeat (first | (with_reducible exact Below.refl _ _) | (with_reducible assumption) | (with_reducible refine Below.drew ?_) | ((with_reducible refine Below.alloc ?_ ?_ _); rotate_left; (first | (with_reducible exact Nat.zero_le _) | (with_reducible exact Nat.le_refl _) | omega | (dsimp only; omega) | (simp only [World.size_alloc, World.size_setCell, World.size_drew]; omega))) | ((with_reducible refine Below.setCell ?_ ?_ _); rotate_left; (first | (with_reducible exact Nat.zero_le _) | (with_reducible exact Nat.le_refl _) | omega | (dsimp only; omega) | (simp only [World.size_alloc, World.size_setCell, World.size_drew]; omega))))

end Go.Proofs.Ytapfihlfnaebhaa
