/- Contract: parts of the reference. -/
import Derived.Test.YtapfihlfnaebhaaLotI
namespace Go.Proofs.Ytapfihlfnaebhaa
set_option linter.unusedVariables false
set_option linter.unusedSimpArgs false
open Go.RowKit

/-- The errors of a lot's parts. -/
def parE (K : Int → Bool) (x : Lv) : Int := if x.parts.length > 8 then 8 else if firstE (ptE K) x.parts ≠ 0 then firstE (ptE K) x.parts else if dupP x.parts x.parts.length = true then 6 else balE x
theorem oneE_head {K : Int → Bool} {x : Lv} (h : ¬ x.id < 1) (h1 : ¬ x.id > 1000000) (h2 : ¬ x.mat < 0) (h3 : ¬ x.mat ≥ 16) (h4 : mOk x.lo x.hi = true) : oneE K x = parE K x := by
  have hh : headE x = if x.parts.length > 8 then 8 else 0 := by
    unfold headE
    rw [if_neg (by omega), if_neg (by omega), if_neg (by rw [h4]; simp)]
  unfold oneE parE
  rw [hh]
  by_cases h5 : x.parts.length > 8
  · rw [if_pos h5, if_pos (by decide), if_pos h5]
  · rw [if_neg h5, if_neg (by decide), if_neg h5]
def JpRel (w : World) (K : Int → Bool) (cs : Array Value) (ps : List Pt) (i : Value) (wr : World) : Prop := ∃ k : Nat, k ≤ ps.length ∧ i = .int .i64 k ∧ firstE (ptE K) (ps.take k) = 0 ∧ Below w.heap.size w wr ∧ Blk wr w.heap.size 49 cs ∧ Blk wr (w.heap.size + 1) 32 #[.int .i64 (sumLo (ps.take k)), .int .i64 (sumHi (ps.take k))]
def JdRel (w2 : World) (ps : List Pt) (i : Value) (wr : World) : Prop := ∃ k : Nat, k ≤ ps.length ∧ i = .int .i64 k ∧ dupP ps k = false ∧ Below w2.heap.size w2 wr
def JeRel (w2 : World) (ps : List Pt) (k : Nat) (y : Int) (i : Value) (wr : World) : Prop := ∃ j : Nat, j ≤ k ∧ i = .int .i64 j ∧ seenP ps j y = false ∧ Below w2.heap.size w2 wr
set_option maxRecDepth 100000 in
set_option maxHeartbeats 8000000 in
theorem rparts_any {w : World} {ve : Value} {E : List Lv} (x : Lv) (he : LotsIn w ve E) (hp : RowIn w x.pv 3 encT x.parts) :
    Calls Try.prog 39 #[ve, .agg #[.int .i64 (x).id, .int .i64 (x).mat, .int .i64 (x).lo, .int .i64 (x).hi, (x).pv]] w fun e w' => e = .returned (.int .i64 (parE (fun y => (kn E E.length y).isSome) x)) ∧ Below w.heap.size w w' := by
  have hms := fun lo hi w => ramount_any lo hi w
  have hkn := fun w h id => rknown_any (w := w) (v := ve) (L := E) h id
  have hB : balE x = if x.parts ≠ [] ∧ (sumHi x.parts < x.lo ∨ sumLo x.parts > x.hi) then 16 else 0 := rfl
  have hO : parE (fun y => (kn E E.length y).isSome) x = if x.parts.length > 8 then 8 else if firstE (ptE (fun y => (kn E E.length y).isSome)) x.parts ≠ 0 then firstE (ptE (fun y => (kn E E.length y).isSome)) x.parts else if dupP x.parts x.parts.length = true then 6 else balE x := rfl
  obtain ⟨oa, cap, hv, p1, p2, _, hp5⟩ := hp.at_
  unfold maxLen at p2
  have HP := Lib.hid hp5
  clear hp5 hp
  generalize parE (fun y => (kn E E.length y).isSome) x = OE at *
  obtain ⟨xi, xm, xl, xh, xv, ps⟩ := x
  dsimp only at *
  subst hv
  generalize balE ⟨xi, xm, xl, xh, .slice oa ps.length cap, ps⟩ = BE at *
  have HK := Lib.hid (fun p : Pt => ptE_is (fun y => (kn E E.length y).isSome) p)
  by_cases h8 : ps.length > 8
  · have h8' : (ps.length : Int) > 8 := by omega
    rw [if_pos h8] at hO
    rw [hO]
    clear h8 hO
    have hb : Below w.heap.size w (w.alloc (.cells #[.int .i64 xi, .int .i64 xm, .int .i64 xl, .int .i64 xh, .slice oa ps.length cap] 49)) := by repeat (first | (with_reducible exact Below.refl _ _) | (with_reducible assumption) | (with_reducible refine Below.drew ?_) | ((with_reducible refine Below.alloc ?_ ?_ _); rotate_left; (first | (with_reducible exact Nat.zero_le _) | (with_reducible exact Nat.le_refl _) | omega | (dsimp only; omega) | (simp only [World.size_alloc, World.size_setCell, World.size_drew]; omega))) | ((with_reducible refine Below.setCell ?_ ?_ _); rotate_left; (first | (with_reducible exact Nat.zero_le _) | (with_reducible exact Nat.le_refl _) | omega | (dsimp only; omega) | (simp only [World.size_alloc, World.size_setCell, World.size_drew]; omega))))
    go_enter Try.func39, Try.ntmps39
    go_wp2_with fail
    go_ret
    exact ⟨rfl, hb⟩
  have h8' : ¬ (ps.length : Int) > 8 := by omega
  rw [if_neg h8] at hO
  have HO := Lib.hid hO
  have HB := Lib.hid hB
  clear hO hB
  have hb0 : Below w.heap.size w ((w.alloc (.cells #[.int .i64 xi, .int .i64 xm, .int .i64 xl, .int .i64 xh, .slice oa ps.length cap] 49)).alloc (.cells #[.int .i64 0, .int .i64 0] 32)) := by repeat (first | (with_reducible exact Below.refl _ _) | (with_reducible assumption) | (with_reducible refine Below.drew ?_) | ((with_reducible refine Below.alloc ?_ ?_ _); rotate_left; (first | (with_reducible exact Nat.zero_le _) | (with_reducible exact Nat.le_refl _) | omega | (dsimp only; omega) | (simp only [World.size_alloc, World.size_setCell, World.size_drew]; omega))) | ((with_reducible refine Below.setCell ?_ ?_ _); rotate_left; (first | (with_reducible exact Nat.zero_le _) | (with_reducible exact Nat.le_refl _) | omega | (dsimp only; omega) | (simp only [World.size_alloc, World.size_setCell, World.size_drew]; omega))))
  have BX : Blk ((w.alloc (.cells #[.int .i64 xi, .int .i64 xm, .int .i64 xl, .int .i64 xh, .slice oa ps.length cap] 49)).alloc (.cells #[.int .i64 0, .int .i64 0] 32)) w.heap.size 49 #[.int .i64 xi, .int .i64 xm, .int .i64 xl, .int .i64 xh, .slice oa ps.length cap] := (Blk.new w 49 #[.int .i64 xi, .int .i64 xm, .int .i64 xl, .int .i64 xh, .slice oa ps.length cap]).alloc _
  have BO : Blk ((w.alloc (.cells #[.int .i64 xi, .int .i64 xm, .int .i64 xl, .int .i64 xh, .slice oa ps.length cap] 49)).alloc (.cells #[.int .i64 0, .int .i64 0] 32)) (w.heap.size + 1) 32 #[.int .i64 0, .int .i64 0] := by
    have := Blk.new (w.alloc (.cells #[.int .i64 xi, .int .i64 xm, .int .i64 xl, .int .i64 xh, .slice oa ps.length cap] 49)) 32 #[.int .i64 0, .int .i64 0]
    simpa using this
  go_enter Try.func39, Try.ntmps39
  go_wp2_with fail
  go_loopw [20] (fun i wr => JpRel w (fun y => (kn E E.length y).isSome) #[.int .i64 xi, .int .i64 xm, .int .i64 xl, .int .i64 xh, .slice oa ps.length cap] ps i wr) (fun i _ => (ps.length - intOf i).toNat)
  case atStart => exact ⟨0, Nat.zero_le _, rfl, rfl, hb0, BX, BO⟩
  case round =>
    clear BO hb0 BX
    obtain ⟨k, hk, rfl, hok, hbr, BX, BO⟩ := hrel
    have hwr := hbr.size
    have hb := hbr
    by_cases hkl : k < ps.length
    · have hki : (k : Int) < ps.length := by omega
      have hk0 : (0 : Int) ≤ k := by omega
      have hx := getD_of (d := pt0) hkl
      obtain ⟨ob, oo, rfl, hoz, hoc⟩ := HP.out (by rintro rfl; simp at hkl)
      have ec := hoc k _ hx
      have q : ∀ j, wr.cell? ⟨ob, j, none⟩ = w.cell? ⟨ob, j, none⟩ := fun j => hb.cell (p := ⟨ob, j, none⟩) hoz
      have HT := Lib.hid (fun (h : ptE (fun y => (kn E E.length y).isSome) (ps.getD k pt0) = 0) => (firstE_take (ptE (fun y => (kn E E.length y).isSome)) hx hok).trans h)
      have HS := Lib.hid (fun h => firstE_stop (ptE (fun y => (kn E E.length y).isSome)) hx hok h)
      have HLo := Lib.hid (sumLo_take hx)
      have HHi := Lib.hid (sumHi_take hx)
      have hsb := sumP_bd (ps := ps.take k) (fun p hp => (ptE_ok.1 (firstE_mem hok p hp)).2) (ps.take k).length (Nat.le_refl _)
      rw [List.take_length] at hsb
      have hl8 : (ps.take k).length ≤ 8 := by simp; omega
      have hKx := HK.out (ps.getD k pt0)
      clear hx hok hoc
      generalize ps.getD k pt0 = y at *
      generalize sumLo (ps.take k) = SL at *
      generalize sumHi (ps.take k) = SH at *
      obtain ⟨yl, y1, y2⟩ := y
      dsimp only at *
      have e0 : World.cell? wr ⟨ob, oo + k * 3, none⟩ = some (.int .i64 yl) := (q _).trans (ec 0 (by omega))
      have e1 : World.cell? wr ⟨ob, oo + k * 3 + 1, none⟩ = some (.int .i64 y1) := (q _).trans (ec 1 (by omega))
      have e2 : World.cell? wr ⟨ob, oo + k * 3 + 2, none⟩ = some (.int .i64 y2) := (q _).trans (ec 2 (by omega))
      clear ec q
      have hbx : Below wr.heap.size wr (wr.alloc (.cells #[.int .i64 yl, .int .i64 y1, .int .i64 y2] 51)) := by repeat (first | (with_reducible exact Below.refl _ _) | (with_reducible assumption) | (with_reducible refine Below.drew ?_) | ((with_reducible refine Below.alloc ?_ ?_ _); rotate_left; (first | (with_reducible exact Nat.zero_le _) | (with_reducible exact Nat.le_refl _) | omega | (dsimp only; omega) | (simp only [World.size_alloc, World.size_setCell, World.size_drew]; omega))) | ((with_reducible refine Below.setCell ?_ ?_ _); rotate_left; (first | (with_reducible exact Nat.zero_le _) | (with_reducible exact Nat.le_refl _) | omega | (dsimp only; omega) | (simp only [World.size_alloc, World.size_setCell, World.size_drew]; omega))))
      have BY := Blk.new wr 51 #[.int .i64 yl, .int .i64 y1, .int .i64 y2]
      have hbz := hbr.trans (hbx.mono hwr)
      have hez := (he.step hbr).step hbx
      have hkk := fun id => hkn _ hez id
      generalize ptE (fun y => (kn E E.length y).isSome) ⟨yl, y1, y2⟩ = PE at *
      have hk1 := hkk yl
      cases hsome : (kn E E.length yl).isSome with
      | false =>
        have h7 := hKx.1 hsome
        have HOE := Lib.hid (HO.out.trans (by rw [HS.out (by rw [h7]; decide), h7, if_pos (by decide)]))
        clear HT HS HK hKx h7
        rw [hsome] at hk1
        clear hsome
        go_wp2_with fail
        refine hk1.mono ?_
        rintro e w3 ⟨rfl, hb3⟩
        go_wp2_with fail
        go_ret
        exact ⟨by rw [HOE.out]; rfl, hbz.trans (hb3.mono hbz.size)⟩
      | true =>
        have h8 := hKx.2 hsome
        have hm2 := fun w => hms y1 y2 w
        cases hmo : mOk y1 y2 with
        | false =>
          have h1 := h8.1 hmo
          rw [hmo] at hm2
          have HOE := Lib.hid (HO.out.trans (by rw [HS.out (by rw [h1]; decide), h1, if_pos (by decide)]))
          clear HT HS HK hKx h8 h1 hmo
          rw [hsome] at hk1
          clear hsome
          go_wp2_with fail
          refine hk1.mono ?_
          rintro e w4 ⟨rfl, hb4⟩
          replace BY := BY.step hb4
          have cy := BY.cell
          have ly := BY.lt
          replace hbz := hbz.trans (hb4.mono hbz.size)
          clear e0 e1 e2
          go_wp2_with fail
          refine (hm2 _).mono ?_
          rintro e w3 ⟨rfl, hb3⟩
          go_wp2_with fail
          go_ret
          exact ⟨by rw [HOE.out]; rfl, hbz.trans (hb3.mono hbz.size)⟩
        | true =>
          have h0 := h8.2 hmo
          have hmo' := mOk_iff.1 hmo
          rw [hmo] at hm2
          have HTK := Lib.hid (HT.out h0)
          clear HT HS HK hKx h8 h0 hmo
          rw [hsome] at hk1
          clear hsome
          go_wp2_with fail
          refine hk1.mono ?_
          rintro e w4 ⟨rfl, hb4⟩
          replace BY := BY.step hb4
          have cy := BY.cell
          have ly := BY.lt
          replace hbz := hbz.trans (hb4.mono hbz.size)
          clear e0 e1 e2
          go_wp2_with fail
          clear cy ly
          refine (hm2 _).mono ?_
          rintro e w3 ⟨rfl, hb3⟩
          have hno := BO.lt
          replace BO := ((BO.step hbx).step hb4).step hb3
          have BXs := ((((BX.step hbx).step hb4).step hb3).far (p := ⟨w.heap.size + 1, 0, none⟩) (by simp) (.int .i64 (SL + y1))).far (p := ⟨w.heap.size + 1, 1, none⟩) (by simp) (.int .i64 (SH + y2))
          replace BY := BY.step hb3
          have cy := BY.cell
          have ly := BY.lt
          have co := BO.cell
          have fo := BO.free
          have lo := BO.lt
          replace hbz := hbz.trans (hb3.mono hbz.size)
          have hbs := (hbz.setCell (p := ⟨w.heap.size + 1, 0, none⟩) (by simp) (.int .i64 (SL + y1))).setCell (p := ⟨w.heap.size + 1, 1, none⟩) (by simp) (.int .i64 (SH + y2))
          have BOs := (BO.put 0 (.int .i64 (SL + y1))).put 1 (.int .i64 (SH + y2))
          have hne : w.heap.size + 1 ≠ wr.heap.size := by omega
          have hne2 : wr.heap.size ≠ w.heap.size + 1 := by omega
          obtain ⟨s1, s2, s3⟩ := hsb
          obtain ⟨t1, t2, t3⟩ := hmo'
          clear hb3 BO
          go_wp2_with fail
          go_roundw
          case rel => exact ⟨k + 1, hkl, by simp, HTK.out, hbs, BXs, by rw [HLo.out, HHi.out]; exact BOs⟩
          case measure => simp [intOf]; omega
    · obtain rfl : k = ps.length := by omega
      rw [List.take_length] at hok BO
      have HO1 := Lib.hid (HO.out.trans (if_neg (by simp [hok])))
      clear HO HK hok
      generalize sumLo ps = SL at *
      generalize sumHi ps = SH at *
      have cx := BX.cell
      have lx := BX.lt
      go_wp2_with fail
      go_loopw [51] (fun i wz => JdRel wr ps i wz) (fun i _ => (ps.length - intOf i).toNat)
      case atStart => exact ⟨0, Nat.zero_le _, rfl, rfl, Below.refl _ _⟩
      case round =>
        have hb00 := hbr
        have hbX := BX
        have hbO := BO
        clear cx lx hwr
        obtain ⟨k, hk, rfl, hdu, hbz⟩ := hrel
        have hwz := hbz.size
        have hball := hb00.trans (hbz.mono hb00.size)
        have BXz := BX.step hbz
        have cx := BXz.cell
        have lx := BXz.lt
        by_cases hkl : k < ps.length
        · have hki : (k : Int) < ps.length := by omega
          have hk0 : (0 : Int) ≤ k := by omega
          have hkc : (k : Int) ≤ cap := by omega
          have hx := getD_of (d := pt0) hkl
          obtain ⟨ob, oo, rfl, hoz, hoc⟩ := HP.out (by rintro rfl; simp at hkl)
          have HOC := Lib.hid hoc
          have ec := hoc k _ hx
          have q : ∀ j, World.cell? _ ⟨ob, j, none⟩ = w.cell? ⟨ob, j, none⟩ := fun j => hball.cell (p := ⟨ob, j, none⟩) hoz
          have hdk : dupP ps (k + 1) = (dupP ps k || seenP ps k (ps.getD k pt0).lot) := rfl
          rw [hdu, Bool.false_or] at hdk
          have HDK := Lib.hid hdk
          clear hx hoc hdu hdk
          generalize ps.getD k pt0 = y at *
          obtain ⟨yl, y1, y2⟩ := y
          dsimp only at *
          have e0 : World.cell? wr ⟨ob, oo + k * 3, none⟩ = some (.int .i64 yl) := (q _).trans (ec 0 (by omega))
          have e1 : World.cell? wr ⟨ob, oo + k * 3 + 1, none⟩ = some (.int .i64 y1) := (q _).trans (ec 1 (by omega))
          have e2 : World.cell? wr ⟨ob, oo + k * 3 + 2, none⟩ = some (.int .i64 y2) := (q _).trans (ec 2 (by omega))
          clear ec q
          have hbx : Below wr.heap.size wr (wr.alloc (.cells #[.int .i64 yl, .int .i64 y1, .int .i64 y2] 51)) := by repeat (first | (with_reducible exact Below.refl _ _) | (with_reducible assumption) | (with_reducible refine Below.drew ?_) | ((with_reducible refine Below.alloc ?_ ?_ _); rotate_left; (first | (with_reducible exact Nat.zero_le _) | (with_reducible exact Nat.le_refl _) | omega | (dsimp only; omega) | (simp only [World.size_alloc, World.size_setCell, World.size_drew]; omega))) | ((with_reducible refine Below.setCell ?_ ?_ _); rotate_left; (first | (with_reducible exact Nat.zero_le _) | (with_reducible exact Nat.le_refl _) | omega | (dsimp only; omega) | (simp only [World.size_alloc, World.size_setCell, World.size_drew]; omega))))
          have BY := Blk.new wr 51 #[.int .i64 yl, .int .i64 y1, .int .i64 y2]
          go_wp2_with fail
          clear e0 e1 e2 cx lx
          have hbz2 := hbz.trans (hbx.mono hwz)
          have hball2 := hball.trans (hbx.mono hball.size)
          generalize wr.alloc (.cells #[.int .i64 yl, .int .i64 y1, .int .i64 y2] 51) = wb at *
          generalize wr.heap.size = gy at *
          go_loopw [61] (fun i wq => JeRel wb ps k yl i wq) (fun i _ => (k - intOf i).toNat)
          case atStart => exact ⟨0, Nat.zero_le _, rfl, rfl, Below.refl _ _⟩
          case round =>
            obtain ⟨j, hj, rfl, hse, hbq⟩ := hrel
            have hwq := hbq.size
            have hall := hball2.trans (hbq.mono hball2.size)
            have BYq := BY.step hbq
            have cy := BYq.cell
            have ly := BYq.lt
            by_cases hjl : j < k
            · have hji : (j : Int) < k := by omega
              have hj0 : (0 : Int) ≤ j := by omega
              have hx := getD_of (l := ps) (i := j) (d := pt0) (by omega)
              have ec := HOC.out j _ hx
              have q : ∀ j, World.cell? _ ⟨ob, j, none⟩ = w.cell? ⟨ob, j, none⟩ := fun j => hall.cell (p := ⟨ob, j, none⟩) hoz
              have hsk : seenP ps (j + 1) yl = if yl = (ps.getD j pt0).lot then true else seenP ps j yl := rfl
              have hdup : (ps.getD j pt0).lot = yl → seenP ps k yl = true := fun h => seenP_iff.2 ⟨j, hjl, h⟩
              have HSK := Lib.hid hsk
              have HDP := Lib.hid hdup
              clear hx hsk hdup
              generalize ps.getD j pt0 = z at *
              obtain ⟨zl, z1, z2⟩ := z
              dsimp only at *
              have e0 : World.cell? wr ⟨ob, oo + j * 3, none⟩ = some (.int .i64 zl) := (q _).trans (ec 0 (by omega))
              have e1 : World.cell? wr ⟨ob, oo + j * 3 + 1, none⟩ = some (.int .i64 z1) := (q _).trans (ec 1 (by omega))
              have e2 : World.cell? wr ⟨ob, oo + j * 3 + 2, none⟩ = some (.int .i64 z2) := (q _).trans (ec 2 (by omega))
              clear ec q
              have hbv : Below wr.heap.size wr (wr.alloc (.cells #[.int .i64 zl, .int .i64 z1, .int .i64 z2] 51)) := by repeat (first | (with_reducible exact Below.refl _ _) | (with_reducible assumption) | (with_reducible refine Below.drew ?_) | ((with_reducible refine Below.alloc ?_ ?_ _); rotate_left; (first | (with_reducible exact Nat.zero_le _) | (with_reducible exact Nat.le_refl _) | omega | (dsimp only; omega) | (simp only [World.size_alloc, World.size_setCell, World.size_drew]; omega))) | ((with_reducible refine Below.setCell ?_ ?_ _); rotate_left; (first | (with_reducible exact Nat.zero_le _) | (with_reducible exact Nat.le_refl _) | omega | (dsimp only; omega) | (simp only [World.size_alloc, World.size_setCell, World.size_drew]; omega))))
              by_cases hz : yl = zl
              · have HD := Lib.hid (HO1.out.trans (if_pos (dup_late (HDK.out.trans (HDP.out hz.symm)) ps.length hkl)))
                have hz' : (yl == zl) = true := by simpa using hz
                clear hz HSK HDP
                go_wp2_with fail
                go_ret
                exact ⟨by rw [HD.out]; rfl, hall.trans (hbv.mono hall.size)⟩
              · have HS2 := Lib.hid (HSK.out.trans ((if_neg hz).trans hse))
                have hz' : (yl == zl) = false := by simpa using hz
                clear hz HSK HDP hse
                go_wp2_with fail
                go_roundw
                case rel => exact ⟨j + 1, hjl, by simp, HS2.out, hbq.trans (hbv.mono hwq)⟩
                case measure => simp [intOf]; omega
            · obtain rfl : j = k := by omega
              have HD := Lib.hid (HDK.out.trans hse)
              clear hse cy ly
              go_wp2_with fail
              go_roundw
              case rel => exact ⟨j + 1, hkl, by simp, HD.out, hbz2.trans (hbq.mono hbz2.size)⟩
              case measure => simp [intOf]; omega
        · obtain rfl : k = ps.length := by omega
          have HO2 := Lib.hid (HO1.out.trans (if_neg (by rw [hdu]; simp)))
          have BOz := BO.step hbz
          have co := BOz.cell
          have lo := BOz.lt
          clear hdu HO1
          have hpe : ps = [] ↔ ¬ (ps.length : Int) > 0 := by
            constructor
            · rintro rfl; simp
            · intro h; exact List.eq_nil_of_length_eq_zero (by omega)
          rcases (show ¬ (ps.length : Int) > 0 ∨ ((ps.length : Int) > 0 ∧ (SL > xh ∨ (¬ SL > xh ∧ SH < xl) ∨ (¬ SL > xh ∧ ¬ SH < xl))) by omega) with d1 | ⟨d1, d2 | ⟨d2, d3⟩ | ⟨d2, d3⟩⟩
          · have HR := Lib.hid (HO2.out.trans (HB.out.trans (if_neg fun h => h.1 (hpe.2 d1))))
            clear hpe
            go_wp2_with fail
            go_ret
            exact ⟨by rw [HR.out]; rfl, hball⟩
          · have HR := Lib.hid (HO2.out.trans (HB.out.trans (if_pos ⟨fun h => hpe.1 h d1, .inr d2⟩)))
            clear hpe
            go_wp2_with fail
            go_ret
            exact ⟨by rw [HR.out]; rfl, hball⟩
          · have HR := Lib.hid (HO2.out.trans (HB.out.trans (if_pos ⟨fun h => hpe.1 h d1, .inl d3⟩)))
            clear hpe
            go_wp2_with fail
            go_ret
            exact ⟨by rw [HR.out]; rfl, hball⟩
          · have HR := Lib.hid (HO2.out.trans (HB.out.trans (if_neg fun h => by omega)))
            clear hpe
            go_wp2_with fail
            go_ret
            exact ⟨by rw [HR.out]; rfl, hball⟩

end Go.Proofs.Ytapfihlfnaebhaa
