/- The walk of LotUses. -/
import Derived.Test.YtpafcdigcpbbeaaLotZa
namespace Go.Proofs.Ytpafcdigcpbbeaa
set_option linter.unusedVariables false
set_option linter.unusedSimpArgs false
open Go.RowKit

theorem selK_mem {F : Nat → Bool} {L : List Lv} {x : Int} : ∀ {k : Nat}, x ∈ selK F L k ↔ ∃ i, i < k ∧ F i = true ∧ (L.getD i lv0).id = x := fun {k} => by
  unfold selK
  simp [List.mem_filter]
  constructor
  · rintro ⟨i, ⟨h1, h2⟩, h3⟩; exact ⟨i, h1, h2, h3⟩
  · rintro ⟨i, h1, h2, h3⟩; exact ⟨i, ⟨h1, h2⟩, h3⟩
theorem selK_has {F : Nat → Bool} {L : List Lv} (h : nodup L L.length = true) {k : Nat} (hk : k < L.length) : (selK F L L.length).contains (L.getD k lv0).id = F k := by
  rw [Bool.eq_iff_iff, List.contains_iff_mem, selK_mem]
  constructor
  · rintro ⟨i, h1, h2, h3⟩
    rw [nodup_at h i k h1 hk h3] at h2; exact h2
  · intro h1; exact ⟨k, hk, h1, rfl⟩
theorem lefE_at {L : List Lv} (h : chkL L = 0) {i : Nat} (hi : i < L.length) : lefE L (L.getD i lv0).id = 0 := by
  unfold lefE
  rw [if_neg (by simpa using h), kn_uniq (chkL_ok h).2.2.1 hi, if_neg (by simp)]
theorem useV_at {L : List Lv} (h : chkL L = 0) {i : Nat} (hi : i < L.length) : useV L (L.getD i lv0).id = useL L i := by
  unfold useV
  rw [if_pos (lefE_at h hi), ixL_at h hi]
theorem orgV_at {L : List Lv} (h : chkL L = 0) {i : Nat} (hi : i < L.length) : orgV L (L.getD i lv0).id = orgL L i := by
  unfold orgV
  rw [if_pos (lefE_at h hi), ixL_at h hi]
/-- The last test of the law. -/
theorem uses_eq {L : List Lv} (h : chkL L = 0) {i j : Nat} (hj : j < L.length) : orgF L j i = (decide ((L.getD i lv0).parts.length = 0) && (useF L i j || decide (i = j))) := by
  unfold orgF useF
  by_cases e : i = j
  · subst e
    have : rB L i i = true := (rB_iff h hj).2 (.refl _)
    rw [this]; simp
  · have e1 : decide (i = j) = false := decide_eq_false e
    have e2 : decide (j = i) = false := decide_eq_false fun h => e h.symm
    rw [e1, e2]
    cases rB L j i <;> cases decide ((L.getD i lv0).parts.length = 0) <;> rfl
def LuRel (w3 : World) (L : List Lv) (i j : Nat) (o m : Value) (wr : World) : Prop :=
  ∃ k : Nat, k ≤ (L.getD j lv0).parts.length ∧ m = .int .i64 k ∧ o = .bool (usR L i j k j) ∧ Below w3.heap.size w3 wr
set_option maxRecDepth 100000 in
set_option maxHeartbeats 8000000 in
theorem law_uses {w : World} {v : Value} {L : List Lv} (h : LotsIn w v L) (a b : Int) (ha0 : 0 ≤ a ∧ a ≤ 255) (hb0 : 0 ≤ b ∧ b ≤ 255) : Calls Try.prog 9 #[v, .int .u8 a, .int .u8 b] w fun e w' => e = .returned (.bool true) ∧ Below w.heap.size w w' := by
  have ha := awake_any
  have hl := large_any h
  have h1 := fun w h => lcheck_any (w := w) (v := v) (L := L) h
  obtain ⟨oa, cap, hv, p1, p2, _, hp5⟩ := h.row.at_
  subst hv
  unfold maxLen at p2
  cases hB : largeB L with
  | true =>
    rw [hB] at hl
    clear h1 hB
    go_enter Try.func9, Try.ntmps9
    go_wp2_with fail
    refine hl.mono ?_
    rintro e w1 ⟨rfl, hb1⟩
    go_wp2_with fail
    refine (ha _).mono ?_
    rintro e w2 ⟨rfl, hb2⟩
    go_wp2_with fail
    go_ret
    exact ⟨by first | rfl | simp, hb1.trans (hb2.mono hb1.size)⟩
  | false =>
  rw [hB] at hl
  clear hB
  by_cases hn : L.length = 0
  · have hn' : ((L.length : Int) == 0) = true := by simp [hn]
    clear hn h1
    go_enter Try.func9, Try.ntmps9
    go_wp2_with fail
    refine hl.mono ?_
    rintro e w1 ⟨rfl, hb1⟩
    go_wp2_with fail
    refine (ha _).mono ?_
    rintro e w2 ⟨rfl, hb2⟩
    go_wp2_with fail
    go_ret
    exact ⟨by first | rfl | simp, hb1.trans (hb2.mono hb1.size)⟩
  have hn' : ((L.length : Int) == 0) = false := by simp; exact fun e => hn (by rw [e]; rfl)
  by_cases h0 : chkL L = 0
  case neg =>
    have h0' : (chkL L != 0) = true := by simpa using h0
    clear h0
    generalize chkL L = E at *
    go_enter Try.func9, Try.ntmps9
    go_wp2_with fail
    refine hl.mono ?_
    rintro e w1 ⟨rfl, hb1⟩
    go_wp2_with fail
    refine (h1 _ (h.step hb1)).mono ?_
    rintro e w2 ⟨rfl, hb2⟩
    go_wp2_with fail
    refine (ha _).mono ?_
    rintro e w3 ⟨rfl, hb3⟩
    have hb := hb1.trans (hb2.mono hb1.size)
    go_wp2_with fail
    go_ret
    exact ⟨by first | rfl | simp, hb.trans (hb3.mono hb.size)⟩
  rw [h0] at h1
  have H0 := Lib.hid h0
  have hnpos : 0 < L.length := by omega
  have hin : (a % L.length).toNat < L.length := by
    have := Int.emod_nonneg a (show (L.length : Int) ≠ 0 by omega)
    have := Int.emod_lt_of_pos a (show (0 : Int) < L.length by omega)
    omega
  have hjn : (b % L.length).toNat < L.length := by
    have := Int.emod_nonneg b (show (L.length : Int) ≠ 0 by omega)
    have := Int.emod_lt_of_pos b (show (0 : Int) < L.length by omega)
    omega
  clear h0
  go_enter Try.func9, Try.ntmps9
  go_wp2_with fail
  refine hl.mono ?_
  rintro e w1 ⟨rfl, hb1⟩
  go_wp2_with fail
  refine (h1 _ (h.step hb1)).mono ?_
  rintro e w2 ⟨rfl, hb2⟩
  have hb := hb1.trans (hb2.mono hb1.size)
  clear hb1 hb2 hl h1
  go_wp2_with fail
  obtain ⟨ob, oo, rfl, hoz, hoc⟩ := hp5 (by rintro rfl; simp at hn)
  have ei0 := hoc _ _ (getD_of (d := lv0) hin)
  have ej0 := hoc _ _ (getD_of (d := lv0) hjn)
  have eii : a % L.length = ((a % L.length).toNat : Int) := (Int.toNat_of_nonneg (Int.emod_nonneg a (by omega))).symm
  have ejj : b % L.length = ((b % L.length).toNat : Int) := (Int.toNat_of_nonneg (Int.emod_nonneg b (by omega))).symm
  have hI := Lib.hid hin
  have hJ := Lib.hid hjn
  have hpi := h.part _ (List.mem_of_getElem? (getD_of (d := lv0) hin))
  have hpj := h.part _ (List.mem_of_getElem? (getD_of (d := lv0) hjn))
  have hwi := h.id _ (List.mem_of_getElem? (getD_of (d := lv0) hin))
  have hwj := h.id _ (List.mem_of_getElem? (getD_of (d := lv0) hjn))
  have hwl := h.lot _ (List.mem_of_getElem? (getD_of (d := lv0) hjn))
  generalize (a % L.length).toNat = i at *
  generalize (b % L.length).toNat = j at *
  have q : ∀ k, w2.cell? ⟨ob, k, none⟩ = w.cell? ⟨ob, k, none⟩ := fun k => hb.cell (p := ⟨ob, k, none⟩) hoz
  have lob : ob < w2.heap.size := by have := hb.size; omega
  obtain ⟨X, hX⟩ : ∃ X, X = L.getD i lv0 := ⟨_, rfl⟩
  obtain ⟨Y, hY⟩ : ∃ Y, Y = L.getD j lv0 := ⟨_, rfl⟩
  rw [← hX] at ei0 hpi hwi
  rw [← hY] at ej0 hpj hwj hwl
  have d0 : w2.cell? ⟨ob, oo + i * 5, none⟩ = some (.int .i64 X.id) := (q _).trans (ei0 0 (by omega))
  have d1 : w2.cell? ⟨ob, oo + i * 5 + 1, none⟩ = some (.int .i64 X.mat) := (q _).trans (ei0 1 (by omega))
  have d2 : w2.cell? ⟨ob, oo + i * 5 + 2, none⟩ = some (.int .i64 X.lo) := (q _).trans (ei0 2 (by omega))
  have d3 : w2.cell? ⟨ob, oo + i * 5 + 3, none⟩ = some (.int .i64 X.hi) := (q _).trans (ei0 3 (by omega))
  have d4 : w2.cell? ⟨ob, oo + i * 5 + 4, none⟩ = some X.pv := (q _).trans (ei0 4 (by omega))
  have e0 : w2.cell? ⟨ob, oo + j * 5, none⟩ = some (.int .i64 Y.id) := (q _).trans (ej0 0 (by omega))
  have e1 : w2.cell? ⟨ob, oo + j * 5 + 1, none⟩ = some (.int .i64 Y.mat) := (q _).trans (ej0 1 (by omega))
  have e2 : w2.cell? ⟨ob, oo + j * 5 + 2, none⟩ = some (.int .i64 Y.lo) := (q _).trans (ej0 2 (by omega))
  have e3 : w2.cell? ⟨ob, oo + j * 5 + 3, none⟩ = some (.int .i64 Y.hi) := (q _).trans (ej0 3 (by omega))
  have e4 : w2.cell? ⟨ob, oo + j * 5 + 4, none⟩ = some Y.pv := (q _).trans (ej0 4 (by omega))
  clear ei0 ej0 q hoc
  have HX := Lib.hid hX
  have HY := Lib.hid hY
  have HL := Lib.hid hwl
  clear hX hY hwl
  obtain ⟨xi, xm, xl, xh, xv, xs⟩ := X
  obtain ⟨yi, ym, yl, yh, yv, ys⟩ := Y
  dsimp only at *
  obtain ⟨pa, pc, hpv, r1, r2, _, _⟩ := hpi.at_
  subst hpv
  unfold maxLen at r2
  obtain ⟨pb, pd, hpv, s1, s2, _, hs5⟩ := hpj.at_
  subst hpv
  unfold maxLen at s2
  have HR := Lib.hid hs5
  clear hpi hpj hs5
  have HI := Lib.hid hin
  have HJ := Lib.hid hjn
  have hb3 : ∀ A B, Below w2.heap.size w2 (((w2.alloc (.cells A 33)).alloc (.cells B 33)).drew) := fun A B => by repeat (first | (with_reducible exact Below.refl _ _) | (with_reducible assumption) | (with_reducible refine Below.drew ?_) | ((with_reducible refine Below.alloc ?_ ?_ _); rotate_left; (first | (with_reducible exact Nat.zero_le _) | (with_reducible exact Nat.le_refl _) | omega | (dsimp only; omega) | (simp only [World.size_alloc, World.size_setCell, World.size_drew]; omega))) | ((with_reducible refine Below.setCell ?_ ?_ _); rotate_left; (first | (with_reducible exact Nat.zero_le _) | (with_reducible exact Nat.le_refl _) | omega | (dsimp only; omega) | (simp only [World.size_alloc, World.size_setCell, World.size_drew]; omega))))
  go_region
  · have BX := ((Blk.new w2 33 #[.int .i64 xi, .int .i64 xm, .int .i64 xl, .int .i64 xh, .slice pa xs.length pc]).alloc (.cells #[.int .i64 yi, .int .i64 ym, .int .i64 yl, .int .i64 yh, .slice pb ys.length pd] 33)).drew
    have BY := (Blk.new (w2.alloc (.cells #[.int .i64 xi, .int .i64 xm, .int .i64 xl, .int .i64 xh, .slice pa xs.length pc] 33)) 33 #[.int .i64 yi, .int .i64 ym, .int .i64 yl, .int .i64 yh, .slice pb ys.length pd]).drew
    rw [World.size_alloc] at BY
    have hb4 := hb.trans ((hb3 #[.int .i64 xi, .int .i64 xm, .int .i64 xl, .int .i64 xh, .slice pa xs.length pc] #[.int .i64 yi, .int .i64 ym, .int .i64 yl, .int .i64 yh, .slice pb ys.length pd]).mono hb.size)
    clear hb3 d0 d1 d2 d3 d4 e0 e1 e2 e3 e4 lob hb hn hn' hnpos hI hJ eii ejj
    generalize ((w2.alloc (.cells #[.int .i64 xi, .int .i64 xm, .int .i64 xl, .int .i64 xh, .slice pa xs.length pc] 33)).alloc (.cells #[.int .i64 yi, .int .i64 ym, .int .i64 yl, .int .i64 yh, .slice pb ys.length pd] 33)).drew = w3 at *
    skip
    have huv : useV L xi = useL L i := by
      have := useV_at H0.out HI.out
      rw [← HX.out] at this; exact this
    have hue : lefE L xi = 0 := by
      have := lefE_at H0.out HI.out
      rw [← HX.out] at this; exact this
    have hov : orgV L yi = orgL L j := by
      have := orgV_at H0.out HJ.out
      rw [← HY.out] at this; exact this
    have hoe : lefE L yi = 0 := by
      have := lefE_at H0.out HJ.out
      rw [← HY.out] at this; exact this
    have hux := uses_any (h.step hb4) xi hwi
    rw [huv, hue] at hux
    have hoy := fun w h => origin_any (w := w) (v := .slice (some ⟨ob, oo, none⟩) L.length cap) (L := L) h yi hwj
    rw [hov, hoe] at hoy
    have cx := BX.cell 0
    have lx := BX.lt
    go_wp2_with fail
    refine hux.mono ?_
    rintro e w4 ⟨vu, rfl, RU, hb5⟩
    clear cx lx hux huv hue hov hoe
    replace BX := BX.step hb5
    replace BY := BY.step hb5
    replace hb4 := hb4.trans (hb5.mono hb4.size)
    have hoq := hoy _ (h.step hb4)
    have cy := BY.cell 0
    have ly := BY.lt
    clear hb5 hoy
    go_wp2_with fail
    refine hoq.mono ?_
    rintro e w5 ⟨vo, rfl, RO, hb5⟩
    clear cy ly hoq
    replace BX := BX.step hb5
    replace BY := BY.step hb5
    replace RU := RU.step hb5
    replace hb4 := hb4.trans (hb5.mono hb4.size)
    have hz5 := hb4.size
    have cy := BY.cell
    have ly := BY.lt
    have HBX := Lib.hid BX
    have HBY := Lib.hid BY
    have HRU := Lib.hid RU
    have HRO := Lib.hid RO
    clear hb5 BX BY RU RO
    go_wp2_with fail
    clear cy ly
    go_loopw [13, 68] (fun o m wr => LuRel w5 L i j o m wr) (fun _ m _ => (ys.length - intOf m).toNat)
    case atStart => exact ⟨0, Nat.zero_le _, rfl, by rw [usR_zero]; simp, Below.refl _ _⟩
    case round =>
      obtain ⟨k, hk, rfl, rfl, hbr⟩ := hrel
      rw [← HY.out] at hk
      dsimp only at hk
      have hsz := hbr.size
      have hball := hb4.trans (hbr.mono hz5)
      have BX := HBX.out.step hbr
      have BY := HBY.out.step hbr
      have cx := BX.cell
      have lx := BX.lt
      have cy := BY.cell
      have ly := BY.lt
      by_cases hkl : k < ys.length
      · have hki : (k : Int) < ys.length := by omega
        have hk0 : (0 : Int) ≤ k := by omega
        have hx := getD_of (d := pt0) hkl
        have hxm := List.mem_of_getElem? hx
        obtain ⟨qb, qo, rfl, hpz, hpc⟩ := HR.out (by rintro rfl; simp at hkl)
        have ec := hpc k _ hx
        have q : ∀ j, wr.cell? ⟨qb, j, none⟩ = w.cell? ⟨qb, j, none⟩ := fun j => hball.cell (p := ⟨qb, j, none⟩) hpz
        have hpx := ixL_part H0.out HJ.out (p := ys.getD k pt0) (by rw [← HY.out]; exact hxm)
        have hkk : (pk L j)[k]? = some (ixL L (ys.getD k pt0).lot) := by unfold pk; rw [← HY.out, List.getElem?_map]; dsimp only; rw [hx]; rfl
        have hsv := usR_succ (c := i) hkk j
        rw [if_pos rfl] at hsv
        clear hx hxm hpc hkk
        generalize ys.getD k pt0 = p at *
        have e0 : World.cell? wr ⟨qb, qo + k * 3, none⟩ = some (.int .i64 p.lot) := (q _).trans (ec 0 (by omega))
        have e1 : World.cell? wr ⟨qb, qo + k * 3 + 1, none⟩ = some (.int .i64 p.lo) := (q _).trans (ec 1 (by omega))
        have e2 : World.cell? wr ⟨qb, qo + k * 3 + 2, none⟩ = some (.int .i64 p.hi) := (q _).trans (ec 2 (by omega))
        clear ec q
        obtain ⟨y, pl, ph⟩ := p
        dsimp only at *
        obtain ⟨x1, _, x3⟩ := hpx
        have hjl := HJ.out
        have hil := HI.out
        have hyx : y = xi ↔ ixL L y = i := ⟨fun e => nodup_at (chkL_ok H0.out).2.2.1 _ _ (by omega) hil (by rw [x3, e, ← HX.out]), fun e => by rw [← x3, e, ← HX.out]⟩
        have hhas : (useL L i).contains y = useF L i (ixL L y) := by
          have := selK_has (F := useF L i) (chkL_ok H0.out).2.2.1 (show ixL L y < L.length by omega)
          rw [x3] at this; exact this
        generalize ixL L y = G at *
        have hbp : Below wr.heap.size wr (wr.alloc (.cells #[.int .i64 y, .int .i64 pl, .int .i64 ph] 35)) := by repeat (first | (with_reducible exact Below.refl _ _) | (with_reducible assumption) | (with_reducible refine Below.drew ?_) | ((with_reducible refine Below.alloc ?_ ?_ _); rotate_left; (first | (with_reducible exact Nat.zero_le _) | (with_reducible exact Nat.le_refl _) | omega | (dsimp only; omega) | (simp only [World.size_alloc, World.size_setCell, World.size_drew]; omega))) | ((with_reducible refine Below.setCell ?_ ?_ _); rotate_left; (first | (with_reducible exact Nat.zero_le _) | (with_reducible exact Nat.le_refl _) | omega | (dsimp only; omega) | (simp only [World.size_alloc, World.size_setCell, World.size_drew]; omega))))
        have hbz := hbr.trans (hbp.mono hsz)
        have hcall := has_any (HRU.out.step hbz) y
        rw [hhas] at hcall
        have HZ := Lib.hid hbz
        clear hhas hbz hbp x1 x3 hjl hil BX BY
        generalize usR L i j k j = U at *
        generalize useF L i G = V at *
        cases U with
        | true =>
          rw [Bool.true_or] at hsv
          have HSV := Lib.hid hsv
          clear hsv hcall hyx
          go_wp2_with fail
          go_roundw
          case rel => exact ⟨k + 1, by rw [← HY.out]; exact hkl, by simp, by rw [HSV.out], HZ.out⟩
          case measure => simp [intOf] <;> omega
        | false =>
          rw [Bool.false_or] at hsv
          by_cases hy : y = xi
          · have hy' : (y == xi) = true := by simpa using hy
            have hgi := hyx.1 hy
            rw [decide_eq_true hgi, Bool.true_or] at hsv
            have HSV := Lib.hid hsv
            clear hsv hcall hyx hy hgi
            go_wp2_with fail
            go_roundw
            case rel => exact ⟨k + 1, by rw [← HY.out]; exact hkl, by simp, by rw [HSV.out], HZ.out⟩
            case measure => simp [intOf] <;> omega
          · have hy' : (y == xi) = false := by simpa using hy
            rw [decide_eq_false fun e => hy (hyx.2 e), Bool.false_or] at hsv
            have HSV := Lib.hid hsv
            clear hsv hyx hy
            go_wp2_with fail
            refine hcall.mono ?_
            rintro e w6 ⟨rfl, hb6⟩
            go_wp2_with fail
            go_roundw
            case rel => exact ⟨k + 1, by rw [← HY.out]; exact hkl, by simp, by rw [HSV.out], HZ.out.trans (hb6.mono HZ.out.size)⟩
            case measure => simp [intOf] <;> omega
      · obtain rfl : k = ys.length := by omega
        have hpk : (pk L j).length = ys.length := by unfold pk; rw [List.length_map, ← HY.out]
        have hus : usR L i j ys.length j = useF L i j := by rw [← hpk, usR_all H0.out HJ.out HI.out]; simp
        have h1 := has_any (HRU.out.step hbr) yi
        have hhy : (useL L i).contains yi = useF L i j := by
          have := selK_has (F := useF L i) (chkL_ok H0.out).2.2.1 HJ.out
          rw [← HY.out] at this; exact this
        have h2 : ∀ w h, Calls Try.prog 24 #[vo, .int .i64 xi] w fun e w' => e = .returned (.bool ((orgL L j).contains xi)) ∧ Below w.heap.size w w' := fun w h => has_any (w := w) (v := vo) (a := orgL L j) h xi
        have hhx : (orgL L j).contains xi = (decide (xs.length = 0) && (useF L i j || decide (i = j))) := by
          have := selK_has (F := orgF L j) (chkL_ok H0.out).2.2.1 HI.out
          rw [← HX.out, uses_eq H0.out HJ.out, ← HX.out] at this; exact this
        have hxy : xi = yi ↔ i = j := ⟨fun e => nodup_at (chkL_ok H0.out).2.2.1 _ _ HI.out HJ.out (by rw [← HX.out, ← HY.out]; exact e), fun e => by
          have a1 := HX.out
          have a2 := HY.out
          rw [e, ← a2] at a1
          injection a1⟩
        rw [hus]
        rw [hhy] at h1
        rw [hhx] at h2
        clear hhx hhy hus hpk
        generalize useF L i j = B at *
        have HRO2 := Lib.hid (HRO.out.step hbr)
        have HB2 := Lib.hid hball
        clear hball hbr HRO HRU
        by_cases hxs : xs.length = 0
        · have hxs' : ((xs.length : Int) == 0) = true := by simp [hxs]
          rw [decide_eq_true hxs, Bool.true_and] at h2
          clear hxs
          cases B with
          | true =>
            rw [Bool.true_or] at h2
            clear hxy
            have H2 := Lib.hid h2
            clear h2
            go_wp2_with fail
            refine h1.mono ?_
            rintro e w6 ⟨rfl, hb6⟩
            clear h1 cx lx cy ly
            have hb7 := HB2.out.trans (hb6.mono HB2.out.size)
            have RO := HRO2.out.step hb6
            replace BX := BX.step hb6
            replace BY := BY.step hb6
            have cx : ∀ y : BW w6, ∀ k, y.w.cell? ⟨_, k, none⟩ = #[.int .i64 xi, .int .i64 xm, .int .i64 xl, .int .i64 xh, .slice pa xs.length pc][k]? := fun y k => (BX.bw y).cell k
            have cy : ∀ y : BW w6, ∀ k, y.w.cell? ⟨_, k, none⟩ = #[.int .i64 yi, .int .i64 ym, .int .i64 yl, .int .i64 yh, .slice pb ys.length pd][k]? := fun y k => (BY.bw y).cell k
            have h3 : ∀ y : BW w6, _ := fun y => (H2.out y.w (RO.step y.h)).mono fun e w' ⟨he, hb⟩ => (show _ ∧ ∃ z : BW w6, w' = z.w from ⟨he, ⟨w', y.h.trans (hb.mono y.h.size)⟩, rfl⟩)
            clear BX BY
            go_wp2_with fail
            refine wp_region_calm (by kernel_rfl) (by kernel_rfl) ?_
            repeat (go_big_quiet_step (fail))
            go_big_quiet_want; go_big_quiet_op; go_big_quiet_call (exact h3 _)
            repeat (go_big_quiet_step (fail))
            go_big_quiet_want; go_big_quiet_op; go_big_quiet_call (exact calls_bw ha _)
            repeat (go_big_quiet_step (fail))
            first | refine wpQuiet_nil ?_ | skip
            intro w7 hb8
            go_wp2_with fail
            go_ret
            exact ⟨by first | rfl | simp, hb7.trans (hb8.mono hb7.size)⟩
          | false =>
            rw [Bool.false_or] at h2
            by_cases hxe : xi = yi
            · have hxe' : (xi == yi) = true := by simpa using hxe
              rw [decide_eq_true (hxy.1 hxe)] at h2
              clear hxy hxe
              have H2 := Lib.hid h2
              clear h2
              go_wp2_with fail
              refine h1.mono ?_
              rintro e w6 ⟨rfl, hb6⟩
              clear h1 cx lx cy ly
              have hb7 := HB2.out.trans (hb6.mono HB2.out.size)
              have RO := HRO2.out.step hb6
              replace BX := BX.step hb6
              replace BY := BY.step hb6
              have cx : ∀ y : BW w6, ∀ k, y.w.cell? ⟨_, k, none⟩ = #[.int .i64 xi, .int .i64 xm, .int .i64 xl, .int .i64 xh, .slice pa xs.length pc][k]? := fun y k => (BX.bw y).cell k
              have cy : ∀ y : BW w6, ∀ k, y.w.cell? ⟨_, k, none⟩ = #[.int .i64 yi, .int .i64 ym, .int .i64 yl, .int .i64 yh, .slice pb ys.length pd][k]? := fun y k => (BY.bw y).cell k
              have h3 : ∀ y : BW w6, _ := fun y => (H2.out y.w (RO.step y.h)).mono fun e w' ⟨he, hb⟩ => (show _ ∧ ∃ z : BW w6, w' = z.w from ⟨he, ⟨w', y.h.trans (hb.mono y.h.size)⟩, rfl⟩)
              clear BX BY
              go_wp2_with fail
              refine wp_region_calm (by kernel_rfl) (by kernel_rfl) ?_
              repeat (go_big_quiet_step (fail))
              go_big_quiet_want; go_big_quiet_op; go_big_quiet_call (exact h3 _)
              repeat (go_big_quiet_step (fail))
              go_big_quiet_want; go_big_quiet_op; go_big_quiet_call (exact calls_bw ha _)
              repeat (go_big_quiet_step (fail))
              first | refine wpQuiet_nil ?_ | skip
              intro w7 hb8
              go_wp2_with fail
              go_ret
              exact ⟨by first | rfl | simp, hb7.trans (hb8.mono hb7.size)⟩
            · have hxe' : (xi == yi) = false := by simpa using hxe
              rw [decide_eq_false fun e => hxe (hxy.2 e)] at h2
              clear hxy hxe
              have H2 := Lib.hid h2
              clear h2
              go_wp2_with fail
              refine h1.mono ?_
              rintro e w6 ⟨rfl, hb6⟩
              clear h1 cx lx cy ly
              have hb7 := HB2.out.trans (hb6.mono HB2.out.size)
              have RO := HRO2.out.step hb6
              replace BX := BX.step hb6
              replace BY := BY.step hb6
              have cx : ∀ y : BW w6, ∀ k, y.w.cell? ⟨_, k, none⟩ = #[.int .i64 xi, .int .i64 xm, .int .i64 xl, .int .i64 xh, .slice pa xs.length pc][k]? := fun y k => (BX.bw y).cell k
              have cy : ∀ y : BW w6, ∀ k, y.w.cell? ⟨_, k, none⟩ = #[.int .i64 yi, .int .i64 ym, .int .i64 yl, .int .i64 yh, .slice pb ys.length pd][k]? := fun y k => (BY.bw y).cell k
              have h3 : ∀ y : BW w6, _ := fun y => (H2.out y.w (RO.step y.h)).mono fun e w' ⟨he, hb⟩ => (show _ ∧ ∃ z : BW w6, w' = z.w from ⟨he, ⟨w', y.h.trans (hb.mono y.h.size)⟩, rfl⟩)
              clear BX BY
              go_wp2_with fail
              refine wp_region_calm (by kernel_rfl) (by kernel_rfl) ?_
              repeat (go_big_quiet_step (fail))
              go_big_quiet_want; go_big_quiet_op; go_big_quiet_call (exact h3 _)
              repeat (go_big_quiet_step (fail))
              go_big_quiet_want; go_big_quiet_op; go_big_quiet_call (exact calls_bw ha _)
              repeat (go_big_quiet_step (fail))
              first | refine wpQuiet_nil ?_ | skip
              intro w7 hb8
              go_wp2_with fail
              go_ret
              exact ⟨by first | rfl | simp, hb7.trans (hb8.mono hb7.size)⟩
        · have hxs' : ((xs.length : Int) == 0) = false := by simpa using hxs
          rw [decide_eq_false hxs, Bool.false_and] at h2
          clear hxs hxy
          cases B
          all_goals (
            have H2 := Lib.hid h2
            clear h2
            go_wp2_with fail
            refine h1.mono ?_
            rintro e w6 ⟨rfl, hb6⟩
            clear h1 cx lx cy ly
            have hb7 := HB2.out.trans (hb6.mono HB2.out.size)
            have RO := HRO2.out.step hb6
            replace BX := BX.step hb6
            replace BY := BY.step hb6
            have cx : ∀ y : BW w6, ∀ k, y.w.cell? ⟨_, k, none⟩ = #[.int .i64 xi, .int .i64 xm, .int .i64 xl, .int .i64 xh, .slice pa xs.length pc][k]? := fun y k => (BX.bw y).cell k
            have cy : ∀ y : BW w6, ∀ k, y.w.cell? ⟨_, k, none⟩ = #[.int .i64 yi, .int .i64 ym, .int .i64 yl, .int .i64 yh, .slice pb ys.length pd][k]? := fun y k => (BY.bw y).cell k
            have h3 : ∀ y : BW w6, _ := fun y => (H2.out y.w (RO.step y.h)).mono fun e w' ⟨he, hb⟩ => (show _ ∧ ∃ z : BW w6, w' = z.w from ⟨he, ⟨w', y.h.trans (hb.mono y.h.size)⟩, rfl⟩)
            clear BX BY
            go_wp2_with fail
            refine wp_region_calm (by kernel_rfl) (by kernel_rfl) ?_
            repeat (go_big_quiet_step (fail))
            go_big_quiet_want; go_big_quiet_op; go_big_quiet_call (exact h3 _)
            repeat (go_big_quiet_step (fail))
            go_big_quiet_want; go_big_quiet_op; go_big_quiet_call (exact calls_bw ha _)
            repeat (go_big_quiet_step (fail))
            first | refine wpQuiet_nil ?_ | skip
            intro w7 hb8
            go_wp2_with fail
            go_ret
            exact ⟨by first | rfl | simp, hb7.trans (hb8.mono hb7.size)⟩)
  · have BY := ((Blk.new w2 33 #[.int .i64 yi, .int .i64 ym, .int .i64 yl, .int .i64 yh, .slice pb ys.length pd]).alloc (.cells #[.int .i64 xi, .int .i64 xm, .int .i64 xl, .int .i64 xh, .slice pa xs.length pc] 33)).drew
    have BX := (Blk.new (w2.alloc (.cells #[.int .i64 yi, .int .i64 ym, .int .i64 yl, .int .i64 yh, .slice pb ys.length pd] 33)) 33 #[.int .i64 xi, .int .i64 xm, .int .i64 xl, .int .i64 xh, .slice pa xs.length pc]).drew
    rw [World.size_alloc] at BX
    have hb4 := hb.trans ((hb3 #[.int .i64 yi, .int .i64 ym, .int .i64 yl, .int .i64 yh, .slice pb ys.length pd] #[.int .i64 xi, .int .i64 xm, .int .i64 xl, .int .i64 xh, .slice pa xs.length pc]).mono hb.size)
    clear hb3 d0 d1 d2 d3 d4 e0 e1 e2 e3 e4 lob hb hn hn' hnpos hI hJ eii ejj
    generalize ((w2.alloc (.cells #[.int .i64 yi, .int .i64 ym, .int .i64 yl, .int .i64 yh, .slice pb ys.length pd] 33)).alloc (.cells #[.int .i64 xi, .int .i64 xm, .int .i64 xl, .int .i64 xh, .slice pa xs.length pc] 33)).drew = w3 at *
    skip
    have huv : useV L xi = useL L i := by
      have := useV_at H0.out HI.out
      rw [← HX.out] at this; exact this
    have hue : lefE L xi = 0 := by
      have := lefE_at H0.out HI.out
      rw [← HX.out] at this; exact this
    have hov : orgV L yi = orgL L j := by
      have := orgV_at H0.out HJ.out
      rw [← HY.out] at this; exact this
    have hoe : lefE L yi = 0 := by
      have := lefE_at H0.out HJ.out
      rw [← HY.out] at this; exact this
    have hux := uses_any (h.step hb4) xi hwi
    rw [huv, hue] at hux
    have hoy := fun w h => origin_any (w := w) (v := .slice (some ⟨ob, oo, none⟩) L.length cap) (L := L) h yi hwj
    rw [hov, hoe] at hoy
    have cx := BX.cell 0
    have lx := BX.lt
    go_wp2_with fail
    refine hux.mono ?_
    rintro e w4 ⟨vu, rfl, RU, hb5⟩
    clear cx lx hux huv hue hov hoe
    replace BX := BX.step hb5
    replace BY := BY.step hb5
    replace hb4 := hb4.trans (hb5.mono hb4.size)
    have hoq := hoy _ (h.step hb4)
    have cy := BY.cell 0
    have ly := BY.lt
    clear hb5 hoy
    go_wp2_with fail
    refine hoq.mono ?_
    rintro e w5 ⟨vo, rfl, RO, hb5⟩
    clear cy ly hoq
    replace BX := BX.step hb5
    replace BY := BY.step hb5
    replace RU := RU.step hb5
    replace hb4 := hb4.trans (hb5.mono hb4.size)
    have hz5 := hb4.size
    have cy := BY.cell
    have ly := BY.lt
    have HBX := Lib.hid BX
    have HBY := Lib.hid BY
    have HRU := Lib.hid RU
    have HRO := Lib.hid RO
    clear hb5 BX BY RU RO
    go_wp2_with fail
    clear cy ly
    go_loopw [13, 68] (fun o m wr => LuRel w5 L i j o m wr) (fun _ m _ => (ys.length - intOf m).toNat)
    case atStart => exact ⟨0, Nat.zero_le _, rfl, by rw [usR_zero]; simp, Below.refl _ _⟩
    case round =>
      obtain ⟨k, hk, rfl, rfl, hbr⟩ := hrel
      rw [← HY.out] at hk
      dsimp only at hk
      have hsz := hbr.size
      have hball := hb4.trans (hbr.mono hz5)
      have BX := HBX.out.step hbr
      have BY := HBY.out.step hbr
      have cx := BX.cell
      have lx := BX.lt
      have cy := BY.cell
      have ly := BY.lt
      by_cases hkl : k < ys.length
      · have hki : (k : Int) < ys.length := by omega
        have hk0 : (0 : Int) ≤ k := by omega
        have hx := getD_of (d := pt0) hkl
        have hxm := List.mem_of_getElem? hx
        obtain ⟨qb, qo, rfl, hpz, hpc⟩ := HR.out (by rintro rfl; simp at hkl)
        have ec := hpc k _ hx
        have q : ∀ j, wr.cell? ⟨qb, j, none⟩ = w.cell? ⟨qb, j, none⟩ := fun j => hball.cell (p := ⟨qb, j, none⟩) hpz
        have hpx := ixL_part H0.out HJ.out (p := ys.getD k pt0) (by rw [← HY.out]; exact hxm)
        have hkk : (pk L j)[k]? = some (ixL L (ys.getD k pt0).lot) := by unfold pk; rw [← HY.out, List.getElem?_map]; dsimp only; rw [hx]; rfl
        have hsv := usR_succ (c := i) hkk j
        rw [if_pos rfl] at hsv
        clear hx hxm hpc hkk
        generalize ys.getD k pt0 = p at *
        have e0 : World.cell? wr ⟨qb, qo + k * 3, none⟩ = some (.int .i64 p.lot) := (q _).trans (ec 0 (by omega))
        have e1 : World.cell? wr ⟨qb, qo + k * 3 + 1, none⟩ = some (.int .i64 p.lo) := (q _).trans (ec 1 (by omega))
        have e2 : World.cell? wr ⟨qb, qo + k * 3 + 2, none⟩ = some (.int .i64 p.hi) := (q _).trans (ec 2 (by omega))
        clear ec q
        obtain ⟨y, pl, ph⟩ := p
        dsimp only at *
        obtain ⟨x1, _, x3⟩ := hpx
        have hjl := HJ.out
        have hil := HI.out
        have hyx : y = xi ↔ ixL L y = i := ⟨fun e => nodup_at (chkL_ok H0.out).2.2.1 _ _ (by omega) hil (by rw [x3, e, ← HX.out]), fun e => by rw [← x3, e, ← HX.out]⟩
        have hhas : (useL L i).contains y = useF L i (ixL L y) := by
          have := selK_has (F := useF L i) (chkL_ok H0.out).2.2.1 (show ixL L y < L.length by omega)
          rw [x3] at this; exact this
        generalize ixL L y = G at *
        have hbp : Below wr.heap.size wr (wr.alloc (.cells #[.int .i64 y, .int .i64 pl, .int .i64 ph] 35)) := by repeat (first | (with_reducible exact Below.refl _ _) | (with_reducible assumption) | (with_reducible refine Below.drew ?_) | ((with_reducible refine Below.alloc ?_ ?_ _); rotate_left; (first | (with_reducible exact Nat.zero_le _) | (with_reducible exact Nat.le_refl _) | omega | (dsimp only; omega) | (simp only [World.size_alloc, World.size_setCell, World.size_drew]; omega))) | ((with_reducible refine Below.setCell ?_ ?_ _); rotate_left; (first | (with_reducible exact Nat.zero_le _) | (with_reducible exact Nat.le_refl _) | omega | (dsimp only; omega) | (simp only [World.size_alloc, World.size_setCell, World.size_drew]; omega))))
        have hbz := hbr.trans (hbp.mono hsz)
        have hcall := has_any (HRU.out.step hbz) y
        rw [hhas] at hcall
        have HZ := Lib.hid hbz
        clear hhas hbz hbp x1 x3 hjl hil BX BY
        generalize usR L i j k j = U at *
        generalize useF L i G = V at *
        cases U with
        | true =>
          rw [Bool.true_or] at hsv
          have HSV := Lib.hid hsv
          clear hsv hcall hyx
          go_wp2_with fail
          go_roundw
          case rel => exact ⟨k + 1, by rw [← HY.out]; exact hkl, by simp, by rw [HSV.out], HZ.out⟩
          case measure => simp [intOf] <;> omega
        | false =>
          rw [Bool.false_or] at hsv
          by_cases hy : y = xi
          · have hy' : (y == xi) = true := by simpa using hy
            have hgi := hyx.1 hy
            rw [decide_eq_true hgi, Bool.true_or] at hsv
            have HSV := Lib.hid hsv
            clear hsv hcall hyx hy hgi
            go_wp2_with fail
            go_roundw
            case rel => exact ⟨k + 1, by rw [← HY.out]; exact hkl, by simp, by rw [HSV.out], HZ.out⟩
            case measure => simp [intOf] <;> omega
          · have hy' : (y == xi) = false := by simpa using hy
            rw [decide_eq_false fun e => hy (hyx.2 e), Bool.false_or] at hsv
            have HSV := Lib.hid hsv
            clear hsv hyx hy
            go_wp2_with fail
            refine hcall.mono ?_
            rintro e w6 ⟨rfl, hb6⟩
            go_wp2_with fail
            go_roundw
            case rel => exact ⟨k + 1, by rw [← HY.out]; exact hkl, by simp, by rw [HSV.out], HZ.out.trans (hb6.mono HZ.out.size)⟩
            case measure => simp [intOf] <;> omega
      · obtain rfl : k = ys.length := by omega
        have hpk : (pk L j).length = ys.length := by unfold pk; rw [List.length_map, ← HY.out]
        have hus : usR L i j ys.length j = useF L i j := by rw [← hpk, usR_all H0.out HJ.out HI.out]; simp
        have h1 := has_any (HRU.out.step hbr) yi
        have hhy : (useL L i).contains yi = useF L i j := by
          have := selK_has (F := useF L i) (chkL_ok H0.out).2.2.1 HJ.out
          rw [← HY.out] at this; exact this
        have h2 : ∀ w h, Calls Try.prog 24 #[vo, .int .i64 xi] w fun e w' => e = .returned (.bool ((orgL L j).contains xi)) ∧ Below w.heap.size w w' := fun w h => has_any (w := w) (v := vo) (a := orgL L j) h xi
        have hhx : (orgL L j).contains xi = (decide (xs.length = 0) && (useF L i j || decide (i = j))) := by
          have := selK_has (F := orgF L j) (chkL_ok H0.out).2.2.1 HI.out
          rw [← HX.out, uses_eq H0.out HJ.out, ← HX.out] at this; exact this
        have hxy : xi = yi ↔ i = j := ⟨fun e => nodup_at (chkL_ok H0.out).2.2.1 _ _ HI.out HJ.out (by rw [← HX.out, ← HY.out]; exact e), fun e => by
          have a1 := HX.out
          have a2 := HY.out
          rw [e, ← a2] at a1
          injection a1⟩
        rw [hus]
        rw [hhy] at h1
        rw [hhx] at h2
        clear hhx hhy hus hpk
        generalize useF L i j = B at *
        have HRO2 := Lib.hid (HRO.out.step hbr)
        have HB2 := Lib.hid hball
        clear hball hbr HRO HRU
        by_cases hxs : xs.length = 0
        · have hxs' : ((xs.length : Int) == 0) = true := by simp [hxs]
          rw [decide_eq_true hxs, Bool.true_and] at h2
          clear hxs
          cases B with
          | true =>
            rw [Bool.true_or] at h2
            clear hxy
            have H2 := Lib.hid h2
            clear h2
            go_wp2_with fail
            refine h1.mono ?_
            rintro e w6 ⟨rfl, hb6⟩
            clear h1 cx lx cy ly
            have hb7 := HB2.out.trans (hb6.mono HB2.out.size)
            have RO := HRO2.out.step hb6
            replace BX := BX.step hb6
            replace BY := BY.step hb6
            have cx : ∀ y : BW w6, ∀ k, y.w.cell? ⟨_, k, none⟩ = #[.int .i64 xi, .int .i64 xm, .int .i64 xl, .int .i64 xh, .slice pa xs.length pc][k]? := fun y k => (BX.bw y).cell k
            have cy : ∀ y : BW w6, ∀ k, y.w.cell? ⟨_, k, none⟩ = #[.int .i64 yi, .int .i64 ym, .int .i64 yl, .int .i64 yh, .slice pb ys.length pd][k]? := fun y k => (BY.bw y).cell k
            have h3 : ∀ y : BW w6, _ := fun y => (H2.out y.w (RO.step y.h)).mono fun e w' ⟨he, hb⟩ => (show _ ∧ ∃ z : BW w6, w' = z.w from ⟨he, ⟨w', y.h.trans (hb.mono y.h.size)⟩, rfl⟩)
            clear BX BY
            go_wp2_with fail
            refine wp_region_calm (by kernel_rfl) (by kernel_rfl) ?_
            repeat (go_big_quiet_step (fail))
            go_big_quiet_want; go_big_quiet_op; go_big_quiet_call (exact h3 _)
            repeat (go_big_quiet_step (fail))
            go_big_quiet_want; go_big_quiet_op; go_big_quiet_call (exact calls_bw ha _)
            repeat (go_big_quiet_step (fail))
            first | refine wpQuiet_nil ?_ | skip
            intro w7 hb8
            go_wp2_with fail
            go_ret
            exact ⟨by first | rfl | simp, hb7.trans (hb8.mono hb7.size)⟩
          | false =>
            rw [Bool.false_or] at h2
            by_cases hxe : xi = yi
            · have hxe' : (xi == yi) = true := by simpa using hxe
              rw [decide_eq_true (hxy.1 hxe)] at h2
              clear hxy hxe
              have H2 := Lib.hid h2
              clear h2
              go_wp2_with fail
              refine h1.mono ?_
              rintro e w6 ⟨rfl, hb6⟩
              clear h1 cx lx cy ly
              have hb7 := HB2.out.trans (hb6.mono HB2.out.size)
              have RO := HRO2.out.step hb6
              replace BX := BX.step hb6
              replace BY := BY.step hb6
              have cx : ∀ y : BW w6, ∀ k, y.w.cell? ⟨_, k, none⟩ = #[.int .i64 xi, .int .i64 xm, .int .i64 xl, .int .i64 xh, .slice pa xs.length pc][k]? := fun y k => (BX.bw y).cell k
              have cy : ∀ y : BW w6, ∀ k, y.w.cell? ⟨_, k, none⟩ = #[.int .i64 yi, .int .i64 ym, .int .i64 yl, .int .i64 yh, .slice pb ys.length pd][k]? := fun y k => (BY.bw y).cell k
              have h3 : ∀ y : BW w6, _ := fun y => (H2.out y.w (RO.step y.h)).mono fun e w' ⟨he, hb⟩ => (show _ ∧ ∃ z : BW w6, w' = z.w from ⟨he, ⟨w', y.h.trans (hb.mono y.h.size)⟩, rfl⟩)
              clear BX BY
              go_wp2_with fail
              refine wp_region_calm (by kernel_rfl) (by kernel_rfl) ?_
              repeat (go_big_quiet_step (fail))
              go_big_quiet_want; go_big_quiet_op; go_big_quiet_call (exact h3 _)
              repeat (go_big_quiet_step (fail))
              go_big_quiet_want; go_big_quiet_op; go_big_quiet_call (exact calls_bw ha _)
              repeat (go_big_quiet_step (fail))
              first | refine wpQuiet_nil ?_ | skip
              intro w7 hb8
              go_wp2_with fail
              go_ret
              exact ⟨by first | rfl | simp, hb7.trans (hb8.mono hb7.size)⟩
            · have hxe' : (xi == yi) = false := by simpa using hxe
              rw [decide_eq_false fun e => hxe (hxy.2 e)] at h2
              clear hxy hxe
              have H2 := Lib.hid h2
              clear h2
              go_wp2_with fail
              refine h1.mono ?_
              rintro e w6 ⟨rfl, hb6⟩
              clear h1 cx lx cy ly
              have hb7 := HB2.out.trans (hb6.mono HB2.out.size)
              have RO := HRO2.out.step hb6
              replace BX := BX.step hb6
              replace BY := BY.step hb6
              have cx : ∀ y : BW w6, ∀ k, y.w.cell? ⟨_, k, none⟩ = #[.int .i64 xi, .int .i64 xm, .int .i64 xl, .int .i64 xh, .slice pa xs.length pc][k]? := fun y k => (BX.bw y).cell k
              have cy : ∀ y : BW w6, ∀ k, y.w.cell? ⟨_, k, none⟩ = #[.int .i64 yi, .int .i64 ym, .int .i64 yl, .int .i64 yh, .slice pb ys.length pd][k]? := fun y k => (BY.bw y).cell k
              have h3 : ∀ y : BW w6, _ := fun y => (H2.out y.w (RO.step y.h)).mono fun e w' ⟨he, hb⟩ => (show _ ∧ ∃ z : BW w6, w' = z.w from ⟨he, ⟨w', y.h.trans (hb.mono y.h.size)⟩, rfl⟩)
              clear BX BY
              go_wp2_with fail
              refine wp_region_calm (by kernel_rfl) (by kernel_rfl) ?_
              repeat (go_big_quiet_step (fail))
              go_big_quiet_want; go_big_quiet_op; go_big_quiet_call (exact h3 _)
              repeat (go_big_quiet_step (fail))
              go_big_quiet_want; go_big_quiet_op; go_big_quiet_call (exact calls_bw ha _)
              repeat (go_big_quiet_step (fail))
              first | refine wpQuiet_nil ?_ | skip
              intro w7 hb8
              go_wp2_with fail
              go_ret
              exact ⟨by first | rfl | simp, hb7.trans (hb8.mono hb7.size)⟩
        · have hxs' : ((xs.length : Int) == 0) = false := by simpa using hxs
          rw [decide_eq_false hxs, Bool.false_and] at h2
          clear hxs hxy
          cases B
          all_goals (
            have H2 := Lib.hid h2
            clear h2
            go_wp2_with fail
            refine h1.mono ?_
            rintro e w6 ⟨rfl, hb6⟩
            clear h1 cx lx cy ly
            have hb7 := HB2.out.trans (hb6.mono HB2.out.size)
            have RO := HRO2.out.step hb6
            replace BX := BX.step hb6
            replace BY := BY.step hb6
            have cx : ∀ y : BW w6, ∀ k, y.w.cell? ⟨_, k, none⟩ = #[.int .i64 xi, .int .i64 xm, .int .i64 xl, .int .i64 xh, .slice pa xs.length pc][k]? := fun y k => (BX.bw y).cell k
            have cy : ∀ y : BW w6, ∀ k, y.w.cell? ⟨_, k, none⟩ = #[.int .i64 yi, .int .i64 ym, .int .i64 yl, .int .i64 yh, .slice pb ys.length pd][k]? := fun y k => (BY.bw y).cell k
            have h3 : ∀ y : BW w6, _ := fun y => (H2.out y.w (RO.step y.h)).mono fun e w' ⟨he, hb⟩ => (show _ ∧ ∃ z : BW w6, w' = z.w from ⟨he, ⟨w', y.h.trans (hb.mono y.h.size)⟩, rfl⟩)
            clear BX BY
            go_wp2_with fail
            refine wp_region_calm (by kernel_rfl) (by kernel_rfl) ?_
            repeat (go_big_quiet_step (fail))
            go_big_quiet_want; go_big_quiet_op; go_big_quiet_call (exact h3 _)
            repeat (go_big_quiet_step (fail))
            go_big_quiet_want; go_big_quiet_op; go_big_quiet_call (exact calls_bw ha _)
            repeat (go_big_quiet_step (fail))
            first | refine wpQuiet_nil ?_ | skip
            intro w7 hb8
            go_wp2_with fail
            go_ret
            exact ⟨by first | rfl | simp, hb7.trans (hb8.mono hb7.size)⟩)

end Go.Proofs.Ytpafcdigcpbbeaa
