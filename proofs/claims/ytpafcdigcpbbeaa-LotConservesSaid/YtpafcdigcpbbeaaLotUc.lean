/- The walk of LotConserves. -/
import Derived.Test.YtpafcdigcpbbeaaLotUo
namespace Go.Proofs.Ytpafcdigcpbbeaa
set_option linter.unusedVariables false
set_option linter.unusedSimpArgs false
open Go.RowKit

def CsRel (w3 : World) (L : List Lv) (y : Int) (o m : Value) (wr : World) : Prop :=
  ∃ k : Nat, k ≤ L.length ∧ m = .int .i64 k ∧ o = .int .i64 (tk (L.take k) y).lo ∧ Below w3.heap.size w3 wr
def CpRel (w3 : World) (L : List Lv) (y : Int) (k : Nat) (o m : Value) (wr : World) : Prop :=
  ∃ j : Nat, j ≤ (L.getD k lv0).parts.length ∧ m = .int .i64 j ∧ o = .int .i64 (tkP y (tk (L.take k) y) ((L.getD k lv0).parts.take j)).lo ∧ Below w3.heap.size w3 wr
def encQv (v : Value) : List Value := [v]
theorem encQv_len (v : Value) : (encQv v).length = 1 := rfl
def TgRel (w4 : World) (L : List Lv) (i : Nat) (T m : Value) (wr : World) : Prop :=
  ∃ (k : Nat) (qs : List Value), k ≤ (L.getD i lv0).parts.length ∧ m = .int .i64 k ∧ Below w4.heap.size w4 wr ∧ qs.length = k ∧ wr.ownsRow w4.heap.size 40 1 T k (rowOf encQv qs) ∧
    ∀ j q, qs[j]? = some q → wr.ownsRow w4.heap.size 3 1 q (orgL L ((pk L i).getD j 0)).length (rowOf encI1 (orgL L ((pk L i).getD j 0))) ∧ Apart q T
def InRel (w6 : World) (n : Nat) (m : Value) (wr : World) : Prop := ∃ k : Nat, k ≤ n ∧ m = .int .i64 k ∧ Below w6.heap.size w6 wr
def FdRel (w6 : World) (l : List (List Int)) (x : Int) (f m : Value) (wr : World) : Prop := ∃ k : Nat, k ≤ l.length ∧ m = .int .i64 k ∧ f = .bool ((l.take k).any fun q => q.contains x) ∧ Below w6.heap.size w6 wr
theorem tk_lo {L : List Lv} (h : chkL L = 0) {i : Nat} (hi : i < L.length) : ¬ (tk L (L.getD i lv0).id).lo > (L.getD i lv0).hi := overE_at (chkL_ok h).2.2.2 i hi
set_option maxRecDepth 100000 in
set_option maxHeartbeats 8000000 in
theorem law_conserves {w : World} {v : Value} {L : List Lv} (h : LotsIn w v L) (a : Int) (ha0 : 0 ≤ a ∧ a ≤ 255) : Calls Try.prog 7 #[v, .int .u8 a] w fun e w' => e = .returned (.bool true) ∧ Below w.heap.size w w' := by
  have ha := awake_any
  have hl := large_any h
  have h1 := fun w h => lcheck_any (w := w) (v := v) (L := L) h
  obtain ⟨oa, cap, hv, p1, p2, _, hp5⟩ := h.row.at_
  subst hv
  unfold maxLen at p2
  cases hB : largeB L with
  | true =>
    rw [hB] at hl
    clear h1 hB
    go_enter Try.func7, Try.ntmps7
    go_wp2_with fail
    refine hl.mono ?_
    rintro e w1 ⟨rfl, hb1⟩
    go_wp2_with fail
    refine (ha _).mono ?_
    rintro e w2 ⟨rfl, hb2⟩
    go_wp2_with fail
    go_ret
    exact ⟨by first | rfl | simp, hb1.trans (hb2.mono hb1.size)⟩
  | false =>
  rw [hB] at hl
  clear hB
  by_cases hn : L.length = 0
  · have hn' : ((L.length : Int) == 0) = true := by simp [hn]
    clear hn h1
    go_enter Try.func7, Try.ntmps7
    go_wp2_with fail
    refine hl.mono ?_
    rintro e w1 ⟨rfl, hb1⟩
    go_wp2_with fail
    refine (ha _).mono ?_
    rintro e w2 ⟨rfl, hb2⟩
    go_wp2_with fail
    go_ret
    exact ⟨by first | rfl | simp, hb1.trans (hb2.mono hb1.size)⟩
  have hn' : ((L.length : Int) == 0) = false := by simp; exact fun e => hn (by rw [e]; rfl)
  by_cases h0 : chkL L = 0
  case neg =>
    have h0' : (chkL L != 0) = true := by simpa using h0
    clear h0
    generalize chkL L = E at *
    go_enter Try.func7, Try.ntmps7
    go_wp2_with fail
    refine hl.mono ?_
    rintro e w1 ⟨rfl, hb1⟩
    go_wp2_with fail
    refine (h1 _ (h.step hb1)).mono ?_
    rintro e w2 ⟨rfl, hb2⟩
    go_wp2_with fail
    refine (ha _).mono ?_
    rintro e w3 ⟨rfl, hb3⟩
    have hb := hb1.trans (hb2.mono hb1.size)
    go_wp2_with fail
    go_ret
    exact ⟨by first | rfl | simp, hb.trans (hb3.mono hb.size)⟩
  rw [h0] at h1
  have H0 := Lib.hid h0
  have hnpos : 0 < L.length := by omega
  have hin : (a % L.length).toNat < L.length := by
    have := Int.emod_nonneg a (show (L.length : Int) ≠ 0 by omega)
    have := Int.emod_lt_of_pos a (show (0 : Int) < L.length by omega)
    omega
  clear h0
  go_enter Try.func7, Try.ntmps7
  go_wp2_with fail
  refine hl.mono ?_
  rintro e w1 ⟨rfl, hb1⟩
  go_wp2_with fail
  refine (h1 _ (h.step hb1)).mono ?_
  rintro e w2 ⟨rfl, hb2⟩
  have hb := hb1.trans (hb2.mono hb1.size)
  clear hb1 hb2 hl h1
  go_wp2_with fail
  obtain ⟨ob, oo, rfl, hoz, hoc⟩ := hp5 (by rintro rfl; simp at hn)
  have HP := Lib.hid hoc
  have ei0 := hoc _ _ (getD_of (d := lv0) hin)
  have eii : a % L.length = ((a % L.length).toNat : Int) := (Int.toNat_of_nonneg (Int.emod_nonneg a (by omega))).symm
  have hpi := h.part _ (List.mem_of_getElem? (getD_of (d := lv0) hin))
  have hwi := h.id _ (List.mem_of_getElem? (getD_of (d := lv0) hin))
  have hwl := h.lot _ (List.mem_of_getElem? (getD_of (d := lv0) hin))
  generalize (a % L.length).toNat = i at *
  have HI := Lib.hid hin
  have q : ∀ k, w2.cell? ⟨ob, k, none⟩ = w.cell? ⟨ob, k, none⟩ := fun k => hb.cell (p := ⟨ob, k, none⟩) hoz
  have lob : ob < w2.heap.size := by have := hb.size; omega
  obtain ⟨X, hX⟩ : ∃ X, X = L.getD i lv0 := ⟨_, rfl⟩
  have hlo := lot_ok (chkL_ok H0.out).2.1 hin
  have htl := tk_lo H0.out hin
  rw [← hX] at ei0 hpi hwi hwl hlo htl
  have d0 : w2.cell? ⟨ob, oo + i * 5, none⟩ = some (.int .i64 X.id) := (q _).trans (ei0 0 (by omega))
  have d1 : w2.cell? ⟨ob, oo + i * 5 + 1, none⟩ = some (.int .i64 X.mat) := (q _).trans (ei0 1 (by omega))
  have d2 : w2.cell? ⟨ob, oo + i * 5 + 2, none⟩ = some (.int .i64 X.lo) := (q _).trans (ei0 2 (by omega))
  have d3 : w2.cell? ⟨ob, oo + i * 5 + 3, none⟩ = some (.int .i64 X.hi) := (q _).trans (ei0 3 (by omega))
  have d4 : w2.cell? ⟨ob, oo + i * 5 + 4, none⟩ = some X.pv := (q _).trans (ei0 4 (by omega))
  clear ei0 q hoc
  have HX := Lib.hid hX
  have HWL := Lib.hid hwl
  have HTL := Lib.hid htl
  clear hX hwl htl
  obtain ⟨xi, xm, xl, xh, xv, xs⟩ := X
  dsimp only at *
  obtain ⟨pa, pc, hpv, r1, r2, _, hs5⟩ := hpi.at_
  subst hpv
  unfold maxLen at r2
  have HR := Lib.hid hs5
  have HPO := Lib.hid (partsOk (chkL_ok H0.out).2.1 (chkL_ok H0.out).1)
  have hfew : L.length ≤ 512 := by have := (chkL_ok H0.out).1; omega
  have hb3 : Below w2.heap.size w2 (w2.alloc (.cells #[.int .i64 xi, .int .i64 xm, .int .i64 xl, .int .i64 xh, .slice pa xs.length pc] 33)) := by repeat (first | (with_reducible exact Below.refl _ _) | (with_reducible assumption) | (with_reducible refine Below.drew ?_) | ((with_reducible refine Below.alloc ?_ ?_ _); rotate_left; (first | (with_reducible exact Nat.zero_le _) | (with_reducible exact Nat.le_refl _) | omega | (dsimp only; omega) | (simp only [World.size_alloc, World.size_setCell, World.size_drew]; omega))) | ((with_reducible refine Below.setCell ?_ ?_ _); rotate_left; (first | (with_reducible exact Nat.zero_le _) | (with_reducible exact Nat.le_refl _) | omega | (dsimp only; omega) | (simp only [World.size_alloc, World.size_setCell, World.size_drew]; omega))))
  have hb4 := hb.trans (hb3.mono hb.size)
  have hz4 := hb4.size
  have HH := Lib.hid h
  have BX := Blk.new w2 33 #[.int .i64 xi, .int .i64 xm, .int .i64 xl, .int .i64 xh, .slice pa xs.length pc]
  clear hpi hs5 h hb3 hb
  go_wp2_with fail
  clear d0 d1 d2 d3 d4 lob hn hn' hnpos hp5
  generalize hwg : w2.alloc (.cells #[.int .i64 xi, .int .i64 xm, .int .i64 xl, .int .i64 xh, .slice pa xs.length pc] 33) = w3 at *
  clear hwg
  go_loopw [6, 48] (fun o m wr => CsRel w3 L xi o m wr) (fun _ m _ => (L.length - intOf m).toNat)
  case atStart => exact ⟨0, Nat.zero_le _, rfl, rfl, Below.refl _ _⟩
  case round =>
    obtain ⟨k, hk, rfl, rfl, hbr⟩ := hrel
    have hsz := hbr.size
    have hball := hb4.trans (hbr.mono hz4)
    by_cases hkl : k < L.length
    · have hki : (k : Int) < L.length := by omega
      have hk0 : (0 : Int) ≤ k := by omega
      have hx := getD_of (d := lv0) hkl
      have hxm := List.mem_of_getElem? hx
      have ec := HP.out k _ hx
      have q : ∀ j, wr.cell? ⟨ob, j, none⟩ = w.cell? ⟨ob, j, none⟩ := fun j => hball.cell (p := ⟨ob, j, none⟩) hoz
      have hpr := HH.out.part _ hxm
      have htk := tk_take xi hx
      have hpo := fun p hp => HPO.out.mass _ hxm p hp
      clear hx hxm
      obtain ⟨Y, hY⟩ : ∃ Y, Y = L.getD k lv0 := ⟨_, rfl⟩
      rw [← hY] at ec hpr htk hpo
      have e0 : World.cell? wr ⟨ob, oo + k * 5, none⟩ = some (.int .i64 Y.id) := (q _).trans (ec 0 (by omega))
      have e1 : World.cell? wr ⟨ob, oo + k * 5 + 1, none⟩ = some (.int .i64 Y.mat) := (q _).trans (ec 1 (by omega))
      have e2 : World.cell? wr ⟨ob, oo + k * 5 + 2, none⟩ = some (.int .i64 Y.lo) := (q _).trans (ec 2 (by omega))
      have e3 : World.cell? wr ⟨ob, oo + k * 5 + 3, none⟩ = some (.int .i64 Y.hi) := (q _).trans (ec 3 (by omega))
      have e4 : World.cell? wr ⟨ob, oo + k * 5 + 4, none⟩ = some (Y.pv) := (q _).trans (ec 4 (by omega))
      clear ec q
      have HY := Lib.hid hY
      have HTK := Lib.hid htk
      have HMO := Lib.hid hpo
      have htb := tk_bd HPO.out xi k hk
      have hcx := BX.step hbr
      have cx := hcx.cell 0
      have lx := hcx.lt
      clear hY htk hpo hcx
      obtain ⟨yi, ym, yl, yh, yv, ys⟩ := Y
      dsimp only at *
      obtain ⟨pb, pd, hpv, s1, s2, _, ht5⟩ := hpr.at_
      subst hpv
      unfold maxLen at s2
      have HS := Lib.hid ht5
      have hbp : Below wr.heap.size wr (wr.alloc (.cells #[.int .i64 yi, .int .i64 ym, .int .i64 yl, .int .i64 yh, .slice pb ys.length pd] 33)) := by repeat (first | (with_reducible exact Below.refl _ _) | (with_reducible assumption) | (with_reducible refine Below.drew ?_) | ((with_reducible refine Below.alloc ?_ ?_ _); rotate_left; (first | (with_reducible exact Nat.zero_le _) | (with_reducible exact Nat.le_refl _) | omega | (dsimp only; omega) | (simp only [World.size_alloc, World.size_setCell, World.size_drew]; omega))) | ((with_reducible refine Below.setCell ?_ ?_ _); rotate_left; (first | (with_reducible exact Nat.zero_le _) | (with_reducible exact Nat.le_refl _) | omega | (dsimp only; omega) | (simp only [World.size_alloc, World.size_setCell, World.size_drew]; omega))))
      have HBZ := Lib.hid (hbr.trans (hbp.mono hsz))
      clear hpr ht5 hbp hbr
      go_wp2_with fail
      clear e0 e1 e2 e3 e4 cx lx
      go_loopw [6, 55] (fun o m wr => CpRel w3 L xi k o m wr) (fun _ m _ => (ys.length - intOf m).toNat)
      case atStart => exact ⟨0, Nat.zero_le _, rfl, rfl, HBZ.out⟩
      case round =>
        obtain ⟨m, hm, rfl, rfl, hbr⟩ := hrel
        rw [← HY.out] at hm
        dsimp only at hm
        have hsz := hbr.size
        have hball := hb4.trans (hbr.mono hz4)
        rw [← HY.out]
        by_cases hml : m < ys.length
        · have hmi : (m : Int) < ys.length := by omega
          have hm0 : (0 : Int) ≤ m := by omega
          have hx := getD_of (d := pt0) hml
          have hxm := List.mem_of_getElem? hx
          obtain ⟨qb, qo, rfl, hpz, hpc⟩ := HS.out (by rintro rfl; simp at hml)
          have ec := hpc m _ hx
          have q : ∀ j, wr.cell? ⟨qb, j, none⟩ = w.cell? ⟨qb, j, none⟩ := fun j => hball.cell (p := ⟨qb, j, none⟩) hpz
          have hmo := mOk_iff.1 (HMO.out _ hxm)
          have htp := tkP_take xi (tk (L.take k) xi) hx
          have hpb := tkP_bd (y := xi) (fun p hp => HMO.out p hp) (B := 562949953421312 * k) htb m hm
          have h20 : ys.length ≤ 8 := by
            have := (lot_ok (chkL_ok H0.out).2.1 hkl).2.2.2.2.2
            rw [← HY.out] at this; exact this
          clear hx hxm hpc
          generalize ys.getD m pt0 = p at *
          have e0 : World.cell? wr ⟨qb, qo + m * 3, none⟩ = some (.int .i64 p.lot) := (q _).trans (ec 0 (by omega))
          have e1 : World.cell? wr ⟨qb, qo + m * 3 + 1, none⟩ = some (.int .i64 p.lo) := (q _).trans (ec 1 (by omega))
          have e2 : World.cell? wr ⟨qb, qo + m * 3 + 2, none⟩ = some (.int .i64 p.hi) := (q _).trans (ec 2 (by omega))
          clear ec q
          obtain ⟨y, pl, ph⟩ := p
          unfold addP at htp
          dsimp only at *
          have hcx := BX.step hbr
          have cx := hcx.cell 0
          have lx := hcx.lt
          have hbp : Below wr.heap.size wr (wr.alloc (.cells #[.int .i64 y, .int .i64 pl, .int .i64 ph] 35)) := by repeat (first | (with_reducible exact Below.refl _ _) | (with_reducible assumption) | (with_reducible refine Below.drew ?_) | ((with_reducible refine Below.alloc ?_ ?_ _); rotate_left; (first | (with_reducible exact Nat.zero_le _) | (with_reducible exact Nat.le_refl _) | omega | (dsimp only; omega) | (simp only [World.size_alloc, World.size_setCell, World.size_drew]; omega))) | ((with_reducible refine Below.setCell ?_ ?_ _); rotate_left; (first | (with_reducible exact Nat.zero_le _) | (with_reducible exact Nat.le_refl _) | omega | (dsimp only; omega) | (simp only [World.size_alloc, World.size_setCell, World.size_drew]; omega))))
          have HBQ := Lib.hid (hbr.trans (hbp.mono hsz))
          generalize tkP xi (tk (L.take k) xi) (ys.take m) = T at *
          obtain ⟨hm1, hm2, hm3⟩ := hmo
          obtain ⟨hq1, hq2, hq3⟩ := hpb
          clear hcx hbp hbr
          by_cases hy : y = xi
          · have hy' : (y == xi) = true := by simpa using hy
            rw [if_pos hy] at htp
            have HTP := Lib.hid htp
            have hg1 : ¬ pl < 0 := by omega
            have hg2 : ¬ pl > 70368744177664 := by omega
            clear hy htp
            go_wp2_with fail
            go_roundw
            case rel => exact ⟨m + 1, by rw [← HY.out]; exact hml, by simp, by rw [← HY.out, HTP.out], HBQ.out⟩
            case measure => simp [intOf] <;> omega
          · have hy' : (y == xi) = false := by simpa using hy
            rw [if_neg hy] at htp
            have HTP := Lib.hid htp
            clear hy htp
            go_wp2_with fail
            go_roundw
            case rel => exact ⟨m + 1, by rw [← HY.out]; exact hml, by simp, by rw [← HY.out, HTP.out], HBQ.out⟩
            case measure => simp [intOf] <;> omega
        · obtain rfl : m = ys.length := by omega
          dsimp only
          rw [List.take_length]
          have HTT := Lib.hid HTK.out.symm
          go_wp2_with fail
          go_roundw
          case rel => exact ⟨k + 1, hkl, by simp, by rw [← HTT.out], hbr⟩
          case measure => simp [intOf] <;> omega
    · obtain rfl : k = L.length := by omega
      rw [List.take_length]
      have hov : orgV L xi = orgL L i := by
        have := orgV_at H0.out HI.out
        rw [← HX.out] at this; exact this
      have hoe : lefE L xi = 0 := by
        have := lefE_at H0.out HI.out
        rw [← HX.out] at this; exact this
      have hcall := origin_own (HH.out.step hball) xi hwi
      rw [hov, hoe] at hcall
      have htl := HTL.out
      replace BX := BX.step hbr
      have cx := BX.cell
      have lx := BX.lt
      clear hov hoe
      go_wp2_with fail
      refine hcall.mono ?_
      rintro e w4 ⟨vo, rfl, own, hb5⟩
      clear cx lx htl hcall
      have hb6 := hball.trans (hb5.mono hball.size)
      have hz6 := hb6.size
      replace BX := BX.step hb5
      have cx := BX.cell
      have lx := BX.lt
      have RO := RowIn.of_own encI1_len own
      obtain ⟨va, vc, hve, v1, v2, _, hv5⟩ := RO.at_
      subst hve
      unfold maxLen at v2
      have hon : (orgL L i).length ≠ 0 := by
        obtain ⟨x, hx⟩ := org_ne H0.out i HI.out
        intro e; rw [List.eq_nil_of_length_eq_zero e] at hx; simp at hx
      have hon' : (((orgL L i).length : Int) == 0) = false := by simpa using hon
      clear hbr hball hb5 own hsz
      by_cases hxs : xs.length = 0
      · have hleaf : orgL L i = [xi] := by
          have := org_leaf H0.out HI.out (by rw [← HX.out]; exact hxs)
          rw [← HX.out] at this; exact this
        have hxs' : ((xs.length : Int) == 0) = true := by simp [hxs]
        have hbi : Below w4.heap.size w4 (w4.alloc (.cells #[.int .i64 xi] 3)) := by repeat (first | (with_reducible exact Below.refl _ _) | (with_reducible assumption) | (with_reducible refine Below.drew ?_) | ((with_reducible refine Below.alloc ?_ ?_ _); rotate_left; (first | (with_reducible exact Nat.zero_le _) | (with_reducible exact Nat.le_refl _) | omega | (dsimp only; omega) | (simp only [World.size_alloc, World.size_setCell, World.size_drew]; omega))) | ((with_reducible refine Below.setCell ?_ ?_ _); rotate_left; (first | (with_reducible exact Nat.zero_le _) | (with_reducible exact Nat.le_refl _) | omega | (dsimp only; omega) | (simp only [World.size_alloc, World.size_setCell, World.size_drew]; omega))))
        have hcall := rints_any (RO.step hbi) (RowIn.of_blk (l := [xi]) encI1_len1 (Blk.new w4 3 #[.int .i64 xi]) rfl (by simp [maxLen]))
        rw [decide_eq_true hleaf] at hcall
        clear hleaf hxs hon
        go_wp2_with fail
        refine hcall.mono ?_
        rintro e w5 ⟨rfl, hb7⟩
        go_wp2_with fail
        refine (ha _).mono ?_
        rintro e w6 ⟨rfl, hb8⟩
        go_wp2_with fail
        go_ret
        have hb9 := hb6.trans ((hbi.trans (hb7.mono hbi.size)).mono hb6.size)
        exact ⟨by first | rfl | simp, hb9.trans (hb8.mono hb9.size)⟩
      · have hxs' : ((xs.length : Int) == 0) = false := by simpa using hxs
        have HXS := Lib.hid hxs
        have HRO := Lib.hid RO
        have HVC := Lib.hid hv5
        have HB6 := Lib.hid hb6
        have HON := Lib.hid hon
        clear hxs RO hv5 hb6 hon BX
        go_wp2_with fail
        clear cx lx
        obtain ⟨tj, ji, jz, jsi, jby⟩ := info_of (P := Try.prog) (t := 40) (z := .slice none 0 0) (size := 1) (bytes := 24) (by kernel_rfl)
        have hx8 : xs.length ≤ 8 := by
          have := (lot_ok (chkL_ok H0.out).2.1 HI.out).2.2.2.2.2
          rw [← HX.out] at this; exact this
        go_loopw [13, 115] (fun o m wr => TgRel w4 L i o m wr) (fun _ m _ => (xs.length - intOf m).toNat)
        case atStart => exact ⟨0, [], Nat.zero_le _, rfl, Below.refl _ _, rfl, ⟨by simp [rowOf], .inl ⟨rfl, rfl⟩⟩, fun j q h => by simp at h⟩
        case round =>
          obtain ⟨k, qs, hk, rfl, hbr, hql, own, hqs⟩ := hrel
          rw [← HX.out] at hk
          dsimp only at hk
          have hsz := hbr.size
          have hball := HB6.out.trans (hbr.mono hz6)
          by_cases hkl : k < xs.length
          · have hki : (k : Int) < xs.length := by omega
            have hk0 : (0 : Int) ≤ k := by omega
            have hx := getD_of (d := pt0) hkl
            have hxm := List.mem_of_getElem? hx
            obtain ⟨qb, qo, rfl, hpz, hpc⟩ := HR.out (by rintro rfl; simp at hkl)
            have ec := hpc k _ hx
            have q : ∀ j, wr.cell? ⟨qb, j, none⟩ = w.cell? ⟨qb, j, none⟩ := fun j => hball.cell (p := ⟨qb, j, none⟩) hpz
            have hpx := ixL_part H0.out HI.out (p := xs.getD k pt0) (by rw [← HX.out]; exact hxm)
            have hkk : (pk L i)[k]? = some (ixL L (xs.getD k pt0).lot) := by unfold pk; rw [← HX.out, List.getElem?_map]; dsimp only; rw [hx]; rfl
            have hwy := HWL.out _ hxm
            clear hx hxm hpc
            generalize xs.getD k pt0 = p at *
            have e0 : World.cell? wr ⟨qb, qo + k * 3, none⟩ = some (.int .i64 p.lot) := (q _).trans (ec 0 (by omega))
            have e1 : World.cell? wr ⟨qb, qo + k * 3 + 1, none⟩ = some (.int .i64 p.lo) := (q _).trans (ec 1 (by omega))
            have e2 : World.cell? wr ⟨qb, qo + k * 3 + 2, none⟩ = some (.int .i64 p.hi) := (q _).trans (ec 2 (by omega))
            clear ec q
            obtain ⟨y, pl, ph⟩ := p
            dsimp only at *
            obtain ⟨x1, _, x3⟩ := hpx
            have hil := HI.out
            have hov : orgV L y = orgL L (ixL L y) := by
              have := orgV_at H0.out (i := ixL L y) (by omega)
              rw [x3] at this; exact this
            have hoe : lefE L y = 0 := by
              have := lefE_at H0.out (i := ixL L y) (by omega)
              rw [x3] at this; exact this
            have hGl : ixL L y < L.length := by omega
            generalize ixL L y = G at *
            have hGm : G ∈ pk L i := List.mem_of_getElem? hkk
            have hgd : (pk L i).getD k 0 = G := by rw [List.getD_eq_getElem?_getD, hkk]; rfl
            have hbp : Below wr.heap.size wr (wr.alloc (.cells #[.int .i64 y, .int .i64 pl, .int .i64 ph] 35)) := by repeat (first | (with_reducible exact Below.refl _ _) | (with_reducible assumption) | (with_reducible refine Below.drew ?_) | ((with_reducible refine Below.alloc ?_ ?_ _); rotate_left; (first | (with_reducible exact Nat.zero_le _) | (with_reducible exact Nat.le_refl _) | omega | (dsimp only; omega) | (simp only [World.size_alloc, World.size_setCell, World.size_drew]; omega))) | ((with_reducible refine Below.setCell ?_ ?_ _); rotate_left; (first | (with_reducible exact Nat.zero_le _) | (with_reducible exact Nat.le_refl _) | omega | (dsimp only; omega) | (simp only [World.size_alloc, World.size_setCell, World.size_drew]; omega))))
            have hbz := hbr.trans (hbp.mono hsz)
            have hba := HB6.out.trans (hbz.mono hz6)
            have hcall := origin_own (HH.out.step hba) y hwy
            rw [hov, hoe] at hcall
            have HLT := Lib.hid (own_lt own)
            have hwrs : wr.heap.size ≤ (wr.alloc (.cells #[.int .i64 y, .int .i64 pl, .int .i64 ph] 35)).heap.size := by simp
            have own1 := ownsRow_step own hbp
            have HQS := Lib.hid (fun j q h => (show (wr.alloc (.cells #[.int .i64 y, .int .i64 pl, .int .i64 ph] 35)).ownsRow _ _ _ _ _ _ ∧ Apart q _ from ⟨ownsRow_step (hqs j q h).1 hbp, (hqs j q h).2⟩))
            have HBZ := Lib.hid hbz
            have HO1 := Lib.hid own1
            have HWR := Lib.hid hwrs
            clear hqs own own1 hbz hba hbr hball hbp hwrs x1 x3 hov hoe hkk hil
            go_wp2_with fail
            refine hcall.mono ?_
            rintro e w5 ⟨vq, rfl, ownq, hb7⟩
            clear hcall e0 e1 e2
            have RQ := RowIn.of_own encI1_len ownq
            obtain ⟨qa, qc, hve, q1, q2, _, hq5⟩ := RQ.at_
            subst hve
            unfold maxLen at q2
            have hb8 := HBZ.out.trans (hb7.mono HBZ.out.size)
            have hz8 := hb8.size
            have hbs : Below w5.heap.size w5 (w5.alloc (.cells #[.slice qa (orgL L G).length qc] 40)) := by repeat (first | (with_reducible exact Below.refl _ _) | (with_reducible assumption) | (with_reducible refine Below.drew ?_) | ((with_reducible refine Below.alloc ?_ ?_ _); rotate_left; (first | (with_reducible exact Nat.zero_le _) | (with_reducible exact Nat.le_refl _) | omega | (dsimp only; omega) | (simp only [World.size_alloc, World.size_setCell, World.size_drew]; omega))) | ((with_reducible refine Below.setCell ?_ ?_ _); rotate_left; (first | (with_reducible exact Nat.zero_le _) | (with_reducible exact Nat.le_refl _) | omega | (dsimp only; omega) | (simp only [World.size_alloc, World.size_setCell, World.size_drew]; omega))))
            have hb9 := hb8.trans (hbs.mono hz8)
            have own2 := ownsRow_step (ownsRow_step HO1.out hb7) hbs
            have BK := Blk.new w5 40 #[.slice qa (orgL L G).length qc]
            have ownq2 := ownsRow_step ownq hbs
            have HQ2 := Lib.hid (fun j q h => (show (w5.alloc (.cells #[.slice qa (orgL L G).length qc] 40)).ownsRow _ _ _ _ _ _ ∧ Apart q _ from ⟨ownsRow_step (ownsRow_step (HQS.out j q h).1 hb7) hbs, (HQS.out j q h).2⟩))
            have hapq : Apart (.slice qa (orgL L G).length qc) u13 := fun j hj hT => by
              have h1 := own_ge' ownq j hj
              have h2 := HLT.out j hT
              have h3 := HWR.out
              omega
            have HOQ := Lib.hid ownq2
            have HAPQ := Lib.hid hapq
            have HB9 := Lib.hid hb9
            have HRQ := Lib.hid RQ
            clear hbs hb8 hb9 hb7 ownq ownq2 hapq RQ hq5
            go_wp2_with (at_builtin; go_loud (refine wpList_append_any _ rfl _ _ _ rfl w4.heap.size 40 tj _ 1 24 Try.underlying45 ji jz jsi jby rfl (by omega) _ k _ rfl own2 _ 1 (encQv (.slice qa (orgL L G).length qc)) rfl (Src.of_blk BK 1) rfl (fun u hu => by simp [encQv] at hu; subst hu; rfl) (by simp only [maxLen]; omega) (by omega) (by simp only [World.size_alloc]; omega) ?_); intro v6 w6 own6 hg6 hat6)
            have hb10 := Below.grown HB9.out hg6 HB9.out.size (own_ge' own2)
            have ownT : w6.ownsRow w4.heap.size 40 1 v6 (k + 1) (rowOf encQv (qs ++ [.slice qa (orgL L G).length qc])) := by
              rw [rowOf_append]
              simpa [rowOf, encQv] using own6
            have hqn : ∀ j q, (qs ++ [.slice qa (orgL L G).length qc])[j]? = some q → w6.ownsRow w4.heap.size 3 1 q (orgL L ((pk L i).getD j 0)).length (rowOf encI1 (orgL L ((pk L i).getD j 0))) ∧ Apart q v6 := fun j q hq => by
              by_cases hj : j < qs.length
              · rw [List.getElem?_append_left hj] at hq
                obtain ⟨h1, h2⟩ := HQ2.out j q hq
                exact ⟨own_grown h1 hg6 h2, h2.grow h1 hat6⟩
              · rw [List.getElem?_append_right (by omega)] at hq
                have hj0 : j - qs.length = 0 := by
                  have := (List.getElem?_eq_some_iff.1 hq).1
                  simp at this; omega
                rw [hj0] at hq
                simp at hq
                have hjk : j = k := by omega
                subst hq
                rw [hjk, hgd]
                have h1 := ownsRow_low HOQ.out (base' := w4.heap.size) (by have := HWR.out; omega)
                exact ⟨own_grown h1 hg6 HAPQ.out, HAPQ.out.grow h1 hat6⟩
            have ROw := HRO.out.step hb10
            have hqk := (hqn k (.slice qa (orgL L G).length qc) (by rw [List.getElem?_append_right (by omega), hql, Nat.sub_self]; rfl)).1
            rw [hgd] at hqk
            have RQw := RowIn.of_own encI1_len hqk
            have hz10 := hb10.size
            have HT := Lib.hid ownT
            have HN := Lib.hid hqn
            have HB10 := Lib.hid hb10
            have HROw := Lib.hid ROw
            clear own6 own2 hg6 hat6 ownT hqn hqk ROw hb10 BK
            go_loopw [134] (fun m wr => InRel w6 (orgL L G).length m wr) (fun m _ => ((orgL L G).length - intOf m).toNat)
            case atStart => exact ⟨0, Nat.zero_le _, rfl, Below.refl _ _⟩
            case round =>
              obtain ⟨m, hm, rfl, hbr⟩ := hrel
              have hsz2 := hbr.size
              by_cases hml : m < (orgL L G).length
              · have hmi : (m : Int) < (orgL L G).length := by omega
                have hm0 : (0 : Int) ≤ m := by omega
                have hx := getD_of (d := 0) hml
                obtain ⟨oa9, cap9, hv9, _, _, _, h95⟩ := RQw.at_
                simp only [Value.slice.injEq] at hv9
                obtain ⟨rfl, _, rfl⟩ := hv9
                obtain ⟨zb, zo, rfl, hzp, hzc⟩ := h95 (by rintro e; rw [e] at hml; simp at hml)
                have d0 : World.cell? wr ⟨zb, zo + m, none⟩ = some (.int .i64 ((orgL L G).getD m 0)) := by
                  have := hzc m _ hx 0 (by omega)
                  rw [Nat.mul_one, Nat.add_zero] at this
                  exact (hbr.cell (p := ⟨zb, zo + m, none⟩) hzp).trans this
                have hmem := org_sub H0.out HI.out hGm (List.mem_of_getElem? hx)
                have hcall := has_any (HROw.out.step hbr) ((orgL L G).getD m 0)
                rw [show (orgL L i).contains ((orgL L G).getD m 0) = true from by simpa using hmem] at hcall
                have HBR := Lib.hid hbr
                clear hx hzc hmem h95 hbr
                generalize (orgL L G).getD m 0 = z at *
                go_wp2_with fail
                refine hcall.mono ?_
                rintro e w7 ⟨rfl, hb11⟩
                go_wp2_with fail
                go_roundw
                case rel => exact ⟨m + 1, hml, by simp, HBR.out.trans (hb11.mono HBR.out.size)⟩
                case measure => simp [intOf] <;> omega
              · obtain rfl : m = (orgL L G).length := by omega
                have HBR := Lib.hid hbr
                clear hbr
                go_wp2_with fail
                go_roundw
                case rel => exact ⟨k + 1, qs ++ [.slice qa (orgL L G).length qc], by rw [← HX.out]; exact hkl, by simp, HB10.out.trans (HBR.out.mono hz10), by simp [hql], ownsRow_step HT.out HBR.out, fun j q hq => ⟨ownsRow_step (HN.out j q hq).1 HBR.out, (HN.out j q hq).2⟩⟩
                case measure => simp [intOf] <;> omega
          · obtain rfl : k = xs.length := by omega
            have RO7 := HRO.out.step hbr
            have RT7 : RowIn wr u13 1 encQv qs := RowIn.of_own encQv_len (by rw [hql]; exact own)
            obtain ⟨ta, tc, hte, t1, t2, _, ht5⟩ := RT7.at_
            rw [hql] at hte t1
            subst hte
            unfold maxLen at t2
            obtain ⟨va', vc', hve', _, _, _, hv6⟩ := RO7.at_
            simp only [Value.slice.injEq] at hve'
            obtain ⟨rfl, _, rfl⟩ := hve'
            have HQ := Lib.hid (fun j q h => RowIn.of_own encI1_len (hqs j q h).1)
            have HT5 := Lib.hid ht5
            have HV6 := Lib.hid hv6
            have HBA := Lib.hid hball
            have hza := hball.size
            have hll : ((pk L i).map (orgL L)).length = xs.length := by rw [List.length_map]; unfold pk; rw [List.length_map, ← HX.out]
            have hlg : ∀ m, m < xs.length → ((pk L i).map (orgL L))[m]? = some (orgL L ((pk L i).getD m 0)) := fun m hm => by
              have hm2 : m < (pk L i).length := by unfold pk; rw [List.length_map, ← HX.out]; exact hm
              rw [List.getElem?_map, List.getD_eq_getElem?_getD, List.getElem?_eq_getElem hm2]; rfl
            have hcov : ∀ x, x ∈ orgL L i → (((pk L i).map (orgL L)).any fun q => q.contains x) = true := fun x hx => by
              obtain ⟨G, hG, hxG⟩ := org_cov H0.out HI.out (by rw [← HX.out]; exact HXS.out) hx
              rw [List.any_eq_true]
              exact ⟨_, List.mem_map.2 ⟨G, hG, rfl⟩, by simpa using hxG⟩
            have HLL := Lib.hid hll
            have HLG := Lib.hid hlg
            have HCV := Lib.hid hcov
            clear own hqs ht5 hv6 RT7 RO7 hll hlg hcov hball hbr
            generalize (pk L i).map (orgL L) = LL at *
            generalize hO : orgL L i = O at *
            clear hO
            go_wp2_with fail
            generalize wr = wa at *
            go_loopw [146] (fun m wr => InRel wa O.length m wr) (fun m _ => (O.length - intOf m).toNat)
            case atStart => exact ⟨0, Nat.zero_le _, rfl, Below.refl _ _⟩
            case round =>
              obtain ⟨m, hm, rfl, hbr⟩ := hrel
              have hsz2 := hbr.size
              by_cases hml : m < O.length
              · have hmi : (m : Int) < O.length := by omega
                have hm0 : (0 : Int) ≤ m := by omega
                have hx := getD_of (d := 0) hml
                obtain ⟨zb, zo, rfl, hzp, hzc⟩ := HV6.out (by rintro e; rw [e] at hml; simp at hml)
                have d0 : World.cell? wr ⟨zb, zo + m, none⟩ = some (.int .i64 (O.getD m 0)) := by
                  have := hzc m _ hx 0 (by omega)
                  rw [Nat.mul_one, Nat.add_zero] at this
                  exact (hbr.cell (p := ⟨zb, zo + m, none⟩) hzp).trans this
                have HMEM := Lib.hid (HCV.out _ (List.mem_of_getElem? hx))
                have HBR := Lib.hid hbr
                clear hx hzc hbr
                generalize O.getD m 0 = z at *
                go_wp2_with fail
                clear d0
                generalize wr = wb at *
                go_loopw [22, 152] (fun f m wr => FdRel wb LL z f m wr) (fun _ m _ => (xs.length - intOf m).toNat)
                case atStart => exact ⟨0, Nat.zero_le _, rfl, rfl, Below.refl _ _⟩
                case round =>
                  obtain ⟨n, hn, rfl, rfl, hbr⟩ := hrel
                  rw [HLL.out] at hn
                  have hsz3 := hbr.size
                  by_cases hnl : n < xs.length
                  · have hni : (n : Int) < xs.length := by omega
                    have hn0 : (0 : Int) ≤ n := by omega
                    have hx := getD_of (d := undef) (show n < qs.length by omega)
                    obtain ⟨tb, tt, rfl, htp, htc⟩ := HT5.out (by rintro e; rw [e] at hql; simp at hql; omega)
                    have hbab := HBR.out.trans (hbr.mono hsz2)
                    have c0 : World.cell? wr ⟨tb, tt + n, none⟩ = some (qs.getD n undef) := by
                      have := htc n _ hx 0 (by omega)
                      rw [Nat.mul_one, Nat.add_zero] at this
                      exact (hbab.cell (p := ⟨tb, tt + n, none⟩) htp).trans this
                    have hstep : (LL.take (n + 1)).any (fun q => q.contains z) = ((LL.take n).any (fun q => q.contains z) || (orgL L ((pk L i).getD n 0)).contains z) := by
                      rw [List.take_add_one, HLG.out n hnl, List.any_append]; simp
                    have hcall := has_any ((HQ.out n _ hx).step hbab) z
                    have HST := Lib.hid hstep
                    have HBR2 := Lib.hid hbr
                    have hvq : ∃ o c l, qs.getD n undef = .slice o l c := by
                      obtain ⟨o, c, h, _⟩ := (HQ.out n _ hx).at_
                      exact ⟨o, c, _, h⟩
                    obtain ⟨qo, qc, ql, hvq⟩ := hvq
                    rw [hvq] at c0 hcall
                    generalize (orgL L ((pk L i).getD n 0)).contains z = C at *
                    generalize (LL.take n).any (fun q => q.contains z) = F at *
                    clear hx htc hstep hbr hbab hvq
                    cases F with
                    | true =>
                      clear hcall
                      go_wp2_with fail
                      go_roundw
                      case rel => exact ⟨n + 1, by rw [HLL.out]; exact hnl, by simp, by rw [HST.out]; rfl, HBR2.out⟩
                      case measure => simp [intOf] <;> omega
                    | false =>
                      go_wp2_with fail
                      refine hcall.mono ?_
                      rintro e w9 ⟨rfl, hb12⟩
                      go_wp2_with fail
                      go_roundw
                      case rel => exact ⟨n + 1, by rw [HLL.out]; exact hnl, by simp, by rw [HST.out]; rfl, HBR2.out.trans (hb12.mono HBR2.out.size)⟩
                      case measure => simp [intOf] <;> omega
                  · obtain rfl : n = xs.length := by omega
                    rw [← HLL.out, List.take_length, HMEM.out]
                    have HBR2 := Lib.hid hbr
                    have hll := HLL.out
                    have hnn : ¬ (LL.length : Int) < xs.length := by omega
                    clear hbr
                    go_wp2_with fail
                    refine ⟨⟨_, _, _, _, _, ⟨m + 1, hml, by simp, HBR.out.trans (HBR2.out.mono hsz2)⟩, rfl, rfl, rfl, rfl, rfl⟩, ?_⟩
                    simp [intOf] <;> omega
              · obtain rfl : m = O.length := by omega
                have HBR := Lib.hid hbr
                clear hbr
                go_wp2_with fail
                refine (ha _).mono ?_
                rintro e w8 ⟨rfl, hb13⟩
                go_wp2_with fail
                go_ret
                have hb14 := HBA.out.trans (HBR.out.mono hza)
                exact ⟨by first | rfl | simp, hb14.trans (hb13.mono hb14.size)⟩

end Go.Proofs.Ytpafcdigcpbbeaa
