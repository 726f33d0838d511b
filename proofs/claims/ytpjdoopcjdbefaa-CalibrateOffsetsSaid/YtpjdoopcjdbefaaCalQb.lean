/- Contract: the offsets of the reference; the walk of CalibrateOffsets. -/
import Derived.Test.YtpjdoopcjdbefaaCalO
namespace Go.Proofs.Ytpjdoopcjdbefaa
set_option linter.unusedVariables false
set_option linter.unusedSimpArgs false
open Go.RowKit

theorem offO_take (s : Sc) {l : List Kn} {k : Nat} {x : Kn} (h : l[k]? = some x) : offO s (l.take (k + 1)) = ⟨maxi (offO s (l.take k)).lo (knS s x).lo, mini (offO s (l.take k)).hi (knS s x).hi⟩ := by
  have h1 : (l.map (knS s))[k]? = some (knS s x) := by rw [List.getElem?_map, h]; rfl
  have := comS_take h1
  rw [← List.map_take, ← List.map_take] at this
  exact this
def RoRel (w1 : World) (s : Sc) (l : List Kn) (i : Value) (wr : World) : Prop := ∃ k : Nat, k ≤ l.length ∧ i = .int .i64 k ∧ firstE (knE s) (l.take k) = 0 ∧ Below w1.heap.size w1 wr ∧ Blk wr w1.heap.size 35 #[.int .i64 (offO s (l.take k)).lo, .int .i64 (offO s (l.take k)).hi]
set_option maxRecDepth 100000 in
set_option maxHeartbeats 8000000 in
theorem roffset_any {w : World} {v : Value} (s : Sc) {l : List Kn} (hl : RowIn w v 3 encK l) : Calls Try.prog 19 #[.agg #[.int .i64 (s).a, .int .i64 (s).b, .int .i64 (s).c, .int .i64 (s).d, .int .i64 (s).e, .int .i64 (s).f], v] w fun e w' => e = .returned (.tuple #[.agg #[.int .i64 (offS s l).lo, .int .i64 (offS s l).hi], .int .i64 (offE s l)]) ∧ Below w.heap.size w w' := by
  have hck := fun w => rcheck_any s.a s.b s.c s.d s.e s.f w
  rw [show chk s.a s.b s.c s.d s.e s.f = chkS s from rfl] at hck
  have hE : offE s l = if chkS s ≠ 0 then chkS s else if l.length > 64 then 8 else if firstE (knE s) l ≠ 0 then firstE (knE s) l else if (offO s l).lo > (offO s l).hi then 10 else 0 := rfl
  have HN := Lib.hid fun z h h0 => off_no (s := s) (l := l) (z := z) h h0
  have HY := Lib.hid (show offE s l = 0 → offS s l = offO s l from fun h => if_pos h)
  have hbw : Below w.heap.size w ((w.alloc (.cells (#[.int .i64 (s).a, .int .i64 (s).b, .int .i64 (s).c, .int .i64 (s).d, .int .i64 (s).e, .int .i64 (s).f]) 32)).alloc (.cells #[.int .i64 0, .int .i64 0] 35)) := by repeat (first | (with_reducible exact Below.refl _ _) | (with_reducible assumption) | (with_reducible refine Below.drew ?_) | ((with_reducible refine Below.alloc ?_ ?_ _); rotate_left; (first | (with_reducible exact Nat.zero_le _) | (with_reducible exact Nat.le_refl _) | omega | (dsimp only; omega) | (simp only [World.size_alloc, World.size_setCell, World.size_drew]; omega))) | ((with_reducible refine Below.setCell ?_ ?_ _); rotate_left; (first | (with_reducible exact Nat.zero_le _) | (with_reducible exact Nat.le_refl _) | omega | (dsimp only; omega) | (simp only [World.size_alloc, World.size_setCell, World.size_drew]; omega))))
  have BS : Blk ((w.alloc (.cells (#[.int .i64 (s).a, .int .i64 (s).b, .int .i64 (s).c, .int .i64 (s).d, .int .i64 (s).e, .int .i64 (s).f]) 32)).alloc (.cells #[.int .i64 0, .int .i64 0] 35)) w.heap.size 32 (#[.int .i64 (s).a, .int .i64 (s).b, .int .i64 (s).c, .int .i64 (s).d, .int .i64 (s).e, .int .i64 (s).f]) := (Blk.new w 32 (#[.int .i64 (s).a, .int .i64 (s).b, .int .i64 (s).c, .int .i64 (s).d, .int .i64 (s).e, .int .i64 (s).f])).alloc _
  have BR : Blk ((w.alloc (.cells (#[.int .i64 (s).a, .int .i64 (s).b, .int .i64 (s).c, .int .i64 (s).d, .int .i64 (s).e, .int .i64 (s).f]) 32)).alloc (.cells #[.int .i64 0, .int .i64 0] 35)) (w.heap.size + 1) 35 #[.int .i64 0, .int .i64 0] := by
    have := Blk.new (w.alloc (.cells (#[.int .i64 (s).a, .int .i64 (s).b, .int .i64 (s).c, .int .i64 (s).d, .int .i64 (s).e, .int .i64 (s).f]) 32)) 35 #[.int .i64 0, .int .i64 0]
    simpa using this
  obtain ⟨oa, cap, rfl, l1, l2, _, hl5⟩ := hl.at_
  unfold maxLen at l2
  have HL := Lib.hid hl5
  clear hl5 hl
  generalize offE s l = OE at *
  generalize offS s l = OS at *
  by_cases h0 : chkS s = 0
  case neg =>
    have h0' : (chkS s != 0) = true := by simpa using h0
    rw [if_pos h0] at hE
    rw [HN.out _ hE h0, hE]
    clear hE h0
    generalize chkS s = E at *
    go_enter Try.func19, Try.ntmps19
    go_wp2_with fail
    refine (hck _).mono ?_
    rintro e w1 ⟨rfl, hb1⟩
    replace BR := BR.step hb1
    have cr := BR.cell
    have fr := BR.free
    have lr := BR.lt
    have hs1 := hb1.size
    replace hbw := hbw.trans (hb1.mono hbw.size)
    go_wp2_with fail
    refine bodyPost_ret (v := .tuple #[.agg #[.int .i64 0, .int .i64 0], .int .i64 E]) (by simp only [results, Try.results19]; go_simp; first | done | rfl) rfl ?_
    refine ⟨rfl, ?_⟩
    repeat (first | (with_reducible exact Below.refl _ _) | (with_reducible assumption) | (with_reducible refine Below.drew ?_) | ((with_reducible refine Below.alloc ?_ ?_ _); rotate_left; (first | (with_reducible exact Nat.zero_le _) | (with_reducible exact Nat.le_refl _) | omega | (dsimp only; omega) | (simp only [World.size_alloc, World.size_setCell, World.size_drew]; omega))) | ((with_reducible refine Below.setCell ?_ ?_ _); rotate_left; (first | (with_reducible exact Nat.zero_le _) | (with_reducible exact Nat.le_refl _) | omega | (dsimp only; omega) | (simp only [World.size_alloc, World.size_setCell, World.size_drew]; omega))))
  rw [if_neg (by simp [h0])] at hE
  rw [h0] at hck
  by_cases g1 : l.length > 64
  · have g1' : (l.length : Int) > 64 := by omega
    rw [if_pos g1] at hE
    rw [HN.out _ hE (by decide), hE]
    clear hE h0 g1
    go_enter Try.func19, Try.ntmps19
    go_wp2_with fail
    refine (hck _).mono ?_
    rintro e w1 ⟨rfl, hb1⟩
    replace BR := BR.step hb1
    have cr := BR.cell
    have fr := BR.free
    have lr := BR.lt
    have hs1 := hb1.size
    replace hbw := hbw.trans (hb1.mono hbw.size)
    go_wp2_with fail
    refine bodyPost_ret (v := .tuple #[.agg #[.int .i64 0, .int .i64 0], .int .i64 8]) (by simp only [results, Try.results19]; go_simp; first | done | rfl) rfl ?_
    refine ⟨rfl, ?_⟩
    repeat (first | (with_reducible exact Below.refl _ _) | (with_reducible assumption) | (with_reducible refine Below.drew ?_) | ((with_reducible refine Below.alloc ?_ ?_ _); rotate_left; (first | (with_reducible exact Nat.zero_le _) | (with_reducible exact Nat.le_refl _) | omega | (dsimp only; omega) | (simp only [World.size_alloc, World.size_setCell, World.size_drew]; omega))) | ((with_reducible refine Below.setCell ?_ ?_ _); rotate_left; (first | (with_reducible exact Nat.zero_le _) | (with_reducible exact Nat.le_refl _) | omega | (dsimp only; omega) | (simp only [World.size_alloc, World.size_setCell, World.size_drew]; omega))))
  have g1' : ¬ (l.length : Int) > 64 := by omega
  rw [if_neg g1] at hE
  have HE := Lib.hid hE
  clear hE h0
  go_enter Try.func19, Try.ntmps19
  go_wp2_with fail
  refine (hck _).mono ?_
  rintro e w1 ⟨rfl, hb1⟩
  replace BR := BR.step hb1
  replace BS := BS.step hb1
  replace hbw := hbw.trans (hb1.mono hbw.size)
  clear hb1 hck
  have hss := hbw.size
  go_wp2_with fail
  go_loopw [26] (fun i wr => RoRel w1 s l i wr) (fun i _ => (l.length - intOf i).toNat)
  case atStart => exact ⟨0, Nat.zero_le _, rfl, rfl, by repeat (first | (with_reducible exact Below.refl _ _) | (with_reducible assumption) | (with_reducible refine Below.drew ?_) | ((with_reducible refine Below.alloc ?_ ?_ _); rotate_left; (first | (with_reducible exact Nat.zero_le _) | (with_reducible exact Nat.le_refl _) | omega | (dsimp only; omega) | (simp only [World.size_alloc, World.size_setCell, World.size_drew]; omega))) | ((with_reducible refine Below.setCell ?_ ?_ _); rotate_left; (first | (with_reducible exact Nat.zero_le _) | (with_reducible exact Nat.le_refl _) | omega | (dsimp only; omega) | (simp only [World.size_alloc, World.size_setCell, World.size_drew]; omega)))), Blk.new w1 35 #[.int .i64 (-70368744177664), .int .i64 70368744177664]⟩
  case round =>
    obtain ⟨k, hk, rfl, hok, hbr, BO⟩ := hrel
    have hsz := hbr.size
    have hw := hbw.trans (hbr.mono hbw.size)
    have BRr := BR.step hbr
    have BSr := BS.step hbr
    by_cases hlt : k < l.length
    · have hx := getD_of (d := kn0) hlt
      obtain ⟨ob, oo, rfl, hoz, hoc⟩ := HL.out (by rintro rfl; simp at hlt)
      have hkl : (k : Int) < l.length := by omega
      have hk0 : (0 : Int) ≤ k := by omega
      have ec := hoc k _ hx
      have q : ∀ j, wr.cell? ⟨ob, j, none⟩ = w.cell? ⟨ob, j, none⟩ := fun j => hw.cell (p := ⟨ob, j, none⟩) hoz
      have HT := Lib.hid (fun (h : knE s (l.getD k kn0) = 0) => (firstE_take (knE s) hx hok).trans h)
      have HB := Lib.hid (fun h => HE.out.trans (if_pos (by rw [firstE_stop (knE s) hx hok h]; exact h)) |>.trans (firstE_stop (knE s) hx hok h))
      have HC := Lib.hid (offO_take s hx)
      have hcas := knE_cases s (l.getD k kn0)
      have hbd := fun h => erS_bd (s := s) (m := (l.getD k kn0).tr) (t := (l.getD k kn0).tm) h
      have her := fun w => rerror_any s.a s.b s.c s.d s.e s.f (l.getD k kn0).tr (l.getD k kn0).tm w
      rw [show errn s.a s.b s.c s.d s.e s.f (l.getD k kn0).tr (l.getD k kn0).tm = errS s (l.getD k kn0).tr (l.getD k kn0).tm from rfl, show errv s.a s.b s.c s.d s.e s.f (l.getD k kn0).tr (l.getD k kn0).tm = erS s (l.getD k kn0).tr (l.getD k kn0).tm from rfl] at her
      have hSp : knS s (l.getD k kn0) = ⟨(l.getD k kn0).sh - (l.getD k kn0).tr - (erS s (l.getD k kn0).tr (l.getD k kn0).tm + s.a / 2), (l.getD k kn0).sh - (l.getD k kn0).tr + (erS s (l.getD k kn0).tr (l.getD k kn0).tm + s.a / 2)⟩ := rfl
      clear hx hok hoc
      generalize l.getD k kn0 = x at *
      have e0 : World.cell? wr ⟨ob, oo + k * 3, none⟩ = some (.int .i64 x.tm) := (q _).trans (ec 0 (by omega))
      have e1 : World.cell? wr ⟨ob, oo + k * 3 + 1, none⟩ = some (.int .i64 x.tr) := (q _).trans (ec 1 (by omega))
      have e2 : World.cell? wr ⟨ob, oo + k * 3 + 2, none⟩ = some (.int .i64 x.sh) := (q _).trans (ec 2 (by omega))
      clear ec q
      obtain ⟨xt, xm, xs⟩ := x
      dsimp only at *
      generalize errS s xm xt = EE at *
      generalize erS s xm xt = EV at *
      generalize knE s ⟨xt, xm, xs⟩ = KE at *
      generalize knS s ⟨xt, xm, xs⟩ = KS at *
      have z0 : ∀ j, World.cell? wr ⟨w.heap.size, j, none⟩ = (#[.int .i64 (s).a, .int .i64 (s).b, .int .i64 (s).c, .int .i64 (s).d, .int .i64 (s).e, .int .i64 (s).f])[j]? := BSr.cell
      have lz := BSr.lt
      have BX := Blk.new wr 49 #[.int .i64 xt, .int .i64 xm, .int .i64 xs]
      have hbx : Below wr.heap.size wr (wr.alloc (.cells #[.int .i64 xt, .int .i64 xm, .int .i64 xs] 49)) := by repeat (first | (with_reducible exact Below.refl _ _) | (with_reducible assumption) | (with_reducible refine Below.drew ?_) | ((with_reducible refine Below.alloc ?_ ?_ _); rotate_left; (first | (with_reducible exact Nat.zero_le _) | (with_reducible exact Nat.le_refl _) | omega | (dsimp only; omega) | (simp only [World.size_alloc, World.size_setCell, World.size_drew]; omega))) | ((with_reducible refine Below.setCell ?_ ?_ _); rotate_left; (first | (with_reducible exact Nat.zero_le _) | (with_reducible exact Nat.le_refl _) | omega | (dsimp only; omega) | (simp only [World.size_alloc, World.size_setCell, World.size_drew]; omega))))
      have hlo := BO.lt
      replace BO := BO.step hbx
      generalize offO s (l.take k) = O at *
      replace BRr := BRr.step hbx
      have hbz := hbr.trans (hbx.mono hsz)
      rcases hcas with ⟨n1, hc⟩ | ⟨rfl, hc⟩
      · have n1' : (EE != 0) = true := by simpa using n1
        have H1 := HB.out (by rw [hc]; exact n1)
        rw [hc] at H1
        have HOS := Lib.hid (HN.out _ H1 n1)
        have HOE := Lib.hid H1
        clear n1 hc hbd hSp H1
        go_wp2_with fail
        refine (her _).mono ?_
        rintro e w3 ⟨rfl, hb3⟩
        replace BRr := BRr.step hb3
        have cr := BRr.cell
        have fr := BRr.free
        have lr := BRr.lt
        have hbq := hbw.trans ((hbz.trans (hb3.mono hbz.size)).mono hbw.size)
        go_wp2_with fail
        refine bodyPost_ret (v := .tuple #[.agg #[.int .i64 0, .int .i64 0], .int .i64 EE]) (by simp only [results, Try.results19]; go_simp; first | done | rfl) rfl ?_
        refine ⟨by rw [HOS.out, HOE.out]; rfl, ?_⟩
        repeat (first | (with_reducible exact Below.refl _ _) | (with_reducible assumption) | (with_reducible refine Below.drew ?_) | ((with_reducible refine Below.alloc ?_ ?_ _); rotate_left; (first | (with_reducible exact Nat.zero_le _) | (with_reducible exact Nat.le_refl _) | omega | (dsimp only; omega) | (simp only [World.size_alloc, World.size_setCell, World.size_drew]; omega))) | ((with_reducible refine Below.setCell ?_ ?_ _); rotate_left; (first | (with_reducible exact Nat.zero_le _) | (with_reducible exact Nat.le_refl _) | omega | (dsimp only; omega) | (simp only [World.size_alloc, World.size_setCell, World.size_drew]; omega))))
      rcases hc with ⟨hc, hd⟩ | ⟨hc, d1, d2⟩
      · have H1 := HB.out (by rw [hc]; decide)
        rw [hc] at H1
        have HOS := Lib.hid (HN.out _ H1 (by decide))
        have HOE := Lib.hid H1
        clear hc hbd hSp H1
        rcases hd with d1 | ⟨d1, d2⟩
        all_goals (
          go_wp2_with fail
          refine (her _).mono ?_
          rintro e w3 ⟨rfl, hb3⟩
          replace BRr := BRr.step hb3
          replace BX := BX.step hb3
          have cr := BRr.cell
          have fr := BRr.free
          have lr := BRr.lt
          have cx := BX.cell
          have hbq := hbw.trans ((hbz.trans (hb3.mono hbz.size)).mono hbw.size)
          go_wp2_with fail
          refine bodyPost_ret (v := .tuple #[.agg #[.int .i64 0, .int .i64 0], .int .i64 1]) (by simp only [results, Try.results19]; go_simp; first | done | rfl) rfl ?_
          refine ⟨by rw [HOS.out, HOE.out]; rfl, ?_⟩
          repeat (first | (with_reducible exact Below.refl _ _) | (with_reducible assumption) | (with_reducible refine Below.drew ?_) | ((with_reducible refine Below.alloc ?_ ?_ _); rotate_left; (first | (with_reducible exact Nat.zero_le _) | (with_reducible exact Nat.le_refl _) | omega | (dsimp only; omega) | (simp only [World.size_alloc, World.size_setCell, World.size_drew]; omega))) | ((with_reducible refine Below.setCell ?_ ?_ _); rotate_left; (first | (with_reducible exact Nat.zero_le _) | (with_reducible exact Nat.le_refl _) | omega | (dsimp only; omega) | (simp only [World.size_alloc, World.size_setCell, World.size_drew]; omega)))))
      · obtain ⟨b1, b2, b3, b4, b5, b6⟩ := hbd rfl
        have HTK := Lib.hid (HT.out hc)
        have hSp' : KS = ⟨xs - xm - (2 * EV + s.a) / 2, xs - xm + (2 * EV + s.a) / 2⟩ := by rw [hSp, show (2 * EV + s.a) / 2 = EV + s.a / 2 by omega]
        have HCC := HC.out
        rw [hSp'] at HCC
        have HCX := Lib.hid HCC
        clear hc hbd hSp hSp' HT HB HC HCC
        go_wp2_with fail
        refine (her _).mono ?_
        rintro e w3 ⟨rfl, hb3⟩
        replace BX := BX.step hb3
        replace BO := BO.step hb3
        replace BSr := (BSr.step hbx).step hb3
        clear z0 lz e0 e1 e2
        have cx := BX.cell
        have lx := BX.lt
        have z0 : ∀ j, World.cell? w3 ⟨w.heap.size, j, none⟩ = (#[.int .i64 (s).a, .int .i64 (s).b, .int .i64 (s).c, .int .i64 (s).d, .int .i64 (s).e, .int .i64 (s).f])[j]? := BSr.cell
        have lz := BSr.lt
        replace hbz := hbz.trans (hb3.mono hbz.size)
        have o0 : World.cell? w3 ⟨w1.heap.size, 0, none⟩ = some (.int .i64 O.lo) := BO.cell 0
        have o1 : World.cell? w3 ⟨w1.heap.size, 1, none⟩ = some (.int .i64 O.hi) := BO.cell 1
        have fo := BO.free
        have lo := BO.lt
        have hnw : w.heap.size < w1.heap.size := BS.lt
        have hnx : w1.heap.size ≠ wr.heap.size := by omega
        have hnx2 : wr.heap.size ≠ w1.heap.size := by omega
        have hnx3 : w.heap.size ≠ w1.heap.size := by omega
        have hd0 : 0 ≤ (2 * EV + s.a) / 2 ∧ (2 * EV + s.a) / 2 ≤ 4000000000 := by omega
        obtain ⟨hd1, hd2⟩ := hd0
        have BO' := (BO.put 0 (.int .i64 (maxi O.lo (xs - xm - (2 * EV + s.a) / 2)))).put 1 (.int .i64 (mini O.hi (xs - xm + (2 * EV + s.a) / 2)))
        have HBO := Lib.hid BO'
        clear BO'
        rcases (show O.lo < xs - xm - (2 * EV + s.a) / 2 ∨ ¬ O.lo < xs - xm - (2 * EV + s.a) / 2 by omega) with t1 | t1 <;> rcases (show xs - xm + (2 * EV + s.a) / 2 < O.hi ∨ ¬ xs - xm + (2 * EV + s.a) / 2 < O.hi by omega) with t2 | t2
        all_goals (
          go_wp2_with fail
          go_roundw
          case measure => simp [intOf]; omega
          case rel =>
            refine ⟨k + 1, hlt, by simp, HTK.out, ?_, ?_⟩
            · exact (hbz.setCell (p := ⟨w1.heap.size, 0, none⟩) (by simp) _).setCell (p := ⟨w1.heap.size, 1, none⟩) (by simp) _
            · rw [HCX.out]
              have := HBO.out
              first
                | exact this
                | (rw [show maxi O.lo (xs - xm - (2 * EV + s.a) / 2) = xs - xm - (2 * EV + s.a) / 2 by unfold maxi; split <;> omega, show mini O.hi (xs - xm + (2 * EV + s.a) / 2) = xs - xm + (2 * EV + s.a) / 2 by unfold mini; split <;> omega] at this ⊢; exact this)
                | (rw [show maxi O.lo (xs - xm - (2 * EV + s.a) / 2) = xs - xm - (2 * EV + s.a) / 2 by unfold maxi; split <;> omega, show mini O.hi (xs - xm + (2 * EV + s.a) / 2) = O.hi by unfold mini; split <;> omega] at this ⊢; exact this)
                | (rw [show maxi O.lo (xs - xm - (2 * EV + s.a) / 2) = O.lo by unfold maxi; split <;> omega, show mini O.hi (xs - xm + (2 * EV + s.a) / 2) = xs - xm + (2 * EV + s.a) / 2 by unfold mini; split <;> omega] at this ⊢; exact this)
                | (rw [show maxi O.lo (xs - xm - (2 * EV + s.a) / 2) = O.lo by unfold maxi; split <;> omega, show mini O.hi (xs - xm + (2 * EV + s.a) / 2) = O.hi by unfold mini; split <;> omega] at this ⊢; exact this))
    · obtain rfl : k = l.length := by omega
      rw [List.take_length] at hok BO
      have hE := HE.out
      rw [if_neg (by simp [hok])] at hE
      clear hok HE
      generalize offO s l = O at *
      have o0 : World.cell? wr ⟨w1.heap.size, 0, none⟩ = some (.int .i64 O.lo) := BO.cell 0
      have o1 : World.cell? wr ⟨w1.heap.size, 1, none⟩ = some (.int .i64 O.hi) := BO.cell 1
      have lo := BO.lt
      have cr := BRr.cell
      have fr := BRr.free
      have lr := BRr.lt
      by_cases ho : O.lo ≤ O.hi
      · rw [if_neg (by omega)] at hE
        have HOS := Lib.hid (HY.out hE)
        have HOE := Lib.hid hE
        have ho' : ¬ O.lo > O.hi := by omega
        clear hE ho
        go_wp2_with fail
        refine bodyPost_ret (v := .tuple #[.agg #[.int .i64 (O).lo, .int .i64 (O).hi], .int .i64 0]) (by simp only [results, Try.results19]; go_simp; first | done | rfl) rfl ?_
        refine ⟨by rw [HOS.out, HOE.out], ?_⟩
        repeat (first | (with_reducible exact Below.refl _ _) | (with_reducible assumption) | (with_reducible refine Below.drew ?_) | ((with_reducible refine Below.alloc ?_ ?_ _); rotate_left; (first | (with_reducible exact Nat.zero_le _) | (with_reducible exact Nat.le_refl _) | omega | (dsimp only; omega) | (simp only [World.size_alloc, World.size_setCell, World.size_drew]; omega))) | ((with_reducible refine Below.setCell ?_ ?_ _); rotate_left; (first | (with_reducible exact Nat.zero_le _) | (with_reducible exact Nat.le_refl _) | omega | (dsimp only; omega) | (simp only [World.size_alloc, World.size_setCell, World.size_drew]; omega))))
      · rw [if_pos (by omega)] at hE
        have HOS := Lib.hid (HN.out _ hE (by decide))
        have HOE := Lib.hid hE
        have ho' : O.lo > O.hi := by omega
        clear hE ho
        go_wp2_with fail
        refine bodyPost_ret (v := .tuple #[.agg #[.int .i64 0, .int .i64 0], .int .i64 10]) (by simp only [results, Try.results19]; go_simp; first | done | rfl) rfl ?_
        refine ⟨by rw [HOS.out, HOE.out]; rfl, ?_⟩
        repeat (first | (with_reducible exact Below.refl _ _) | (with_reducible assumption) | (with_reducible refine Below.drew ?_) | ((with_reducible refine Below.alloc ?_ ?_ _); rotate_left; (first | (with_reducible exact Nat.zero_le _) | (with_reducible exact Nat.le_refl _) | omega | (dsimp only; omega) | (simp only [World.size_alloc, World.size_setCell, World.size_drew]; omega))) | ((with_reducible refine Below.setCell ?_ ?_ _); rotate_left; (first | (with_reducible exact Nat.zero_le _) | (with_reducible exact Nat.le_refl _) | omega | (dsimp only; omega) | (simp only [World.size_alloc, World.size_setCell, World.size_drew]; omega))))


set_option maxRecDepth 100000 in
set_option maxHeartbeats 8000000 in
theorem law_offs {w : World} {v : Value} (s : Sc) {l : List Kn} (hl : RowIn w v 3 encK l) : Calls Try.prog 5 #[.agg #[.int .i64 (s).a, .int .i64 (s).b, .int .i64 (s).c, .int .i64 (s).d, .int .i64 (s).e, .int .i64 (s).f], v] w fun e w' => e = .returned (.bool true) ∧ Below w.heap.size w w' := by
  have hl' := hl
  obtain ⟨oa, cap, rfl, l1, l2, _, _⟩ := hl.at_
  unfold maxLen at l2
  clear hl
  have hb : Below w.heap.size w (w.alloc (.cells (#[.int .i64 (s).a, .int .i64 (s).b, .int .i64 (s).c, .int .i64 (s).d, .int .i64 (s).e, .int .i64 (s).f]) 32)) := by repeat (first | (with_reducible exact Below.refl _ _) | (with_reducible assumption) | (with_reducible refine Below.drew ?_) | ((with_reducible refine Below.alloc ?_ ?_ _); rotate_left; (first | (with_reducible exact Nat.zero_le _) | (with_reducible exact Nat.le_refl _) | omega | (dsimp only; omega) | (simp only [World.size_alloc, World.size_setCell, World.size_drew]; omega))) | ((with_reducible refine Below.setCell ?_ ?_ _); rotate_left; (first | (with_reducible exact Nat.zero_le _) | (with_reducible exact Nat.le_refl _) | omega | (dsimp only; omega) | (simp only [World.size_alloc, World.size_setCell, World.size_drew]; omega))))
  replace hl' := hl'.step (w' := w.alloc (.cells (#[.int .i64 (s).a, .int .i64 (s).b, .int .i64 (s).c, .int .i64 (s).d, .int .i64 (s).e, .int .i64 (s).f]) 32)) (by repeat (first | (with_reducible exact Below.refl _ _) | (with_reducible assumption) | (with_reducible refine Below.drew ?_) | ((with_reducible refine Below.alloc ?_ ?_ _); rotate_left; (first | (with_reducible exact Nat.zero_le _) | (with_reducible exact Nat.le_refl _) | omega | (dsimp only; omega) | (simp only [World.size_alloc, World.size_setCell, World.size_drew]; omega))) | ((with_reducible refine Below.setCell ?_ ?_ _); rotate_left; (first | (with_reducible exact Nat.zero_le _) | (with_reducible exact Nat.le_refl _) | omega | (dsimp only; omega) | (simp only [World.size_alloc, World.size_setCell, World.size_drew]; omega)))))
  have BS := Blk.new w 32 (#[.int .i64 (s).a, .int .i64 (s).b, .int .i64 (s).c, .int .i64 (s).d, .int .i64 (s).e, .int .i64 (s).f])
  have cs := BS.cell
  have ls := BS.lt
  by_cases g : l.length > 100
  · have g' : (l.length : Int) > 100 := by omega
    clear g cs ls
    go_enter Try.func5, Try.ntmps5
    go_wp2_with fail
    refine (awake29_any _).mono ?_
    rintro e w9 ⟨rfl, hb9⟩
    go_wp2_with fail
    go_ret
    exact ⟨by first | rfl | simp, hb.trans (hb9.mono hb.size)⟩
  have g' : ¬ (l.length : Int) > 100 := by omega
  have h1 := fun w hl => offset_any (w := w) (v := .slice oa l.length cap) s (l := l) hl
  have h2 := fun w hl => roffset_any (w := w) (v := .slice oa l.length cap) s (l := l) hl
  clear g
  generalize offS s l = O at *
  generalize offE s l = E at *
  go_enter Try.func5, Try.ntmps5
  go_wp2_with fail
  refine (h1 _ hl').mono ?_
  rintro e w1 ⟨rfl, hb1⟩
  have hb2 : Below w1.heap.size w1 (w1.alloc (.cells #[.int .i64 O.lo, .int .i64 O.hi] 35)) := by repeat (first | (with_reducible exact Below.refl _ _) | (with_reducible assumption) | (with_reducible refine Below.drew ?_) | ((with_reducible refine Below.alloc ?_ ?_ _); rotate_left; (first | (with_reducible exact Nat.zero_le _) | (with_reducible exact Nat.le_refl _) | omega | (dsimp only; omega) | (simp only [World.size_alloc, World.size_setCell, World.size_drew]; omega))) | ((with_reducible refine Below.setCell ?_ ?_ _); rotate_left; (first | (with_reducible exact Nat.zero_le _) | (with_reducible exact Nat.le_refl _) | omega | (dsimp only; omega) | (simp only [World.size_alloc, World.size_setCell, World.size_drew]; omega))))
  have BA := Blk.new w1 35 #[.int .i64 O.lo, .int .i64 O.hi]
  replace BS := (BS.step hb1).step hb2
  replace hl' := (hl'.step hb1).step hb2
  replace hb := (hb.trans (hb1.mono hb.size)).trans (hb2.mono (hb.trans (hb1.mono hb.size)).size)
  clear cs ls
  have cs := BS.cell
  have ls := BS.lt
  go_wp2_with fail
  refine (h2 _ hl').mono ?_
  rintro e w3 ⟨rfl, hb3⟩
  have hb4 : Below w3.heap.size w3 (w3.alloc (.cells #[.int .i64 O.lo, .int .i64 O.hi] 35)) := by repeat (first | (with_reducible exact Below.refl _ _) | (with_reducible assumption) | (with_reducible refine Below.drew ?_) | ((with_reducible refine Below.alloc ?_ ?_ _); rotate_left; (first | (with_reducible exact Nat.zero_le _) | (with_reducible exact Nat.le_refl _) | omega | (dsimp only; omega) | (simp only [World.size_alloc, World.size_setCell, World.size_drew]; omega))) | ((with_reducible refine Below.setCell ?_ ?_ _); rotate_left; (first | (with_reducible exact Nat.zero_le _) | (with_reducible exact Nat.le_refl _) | omega | (dsimp only; omega) | (simp only [World.size_alloc, World.size_setCell, World.size_drew]; omega))))
  have BB := Blk.new w3 35 #[.int .i64 O.lo, .int .i64 O.hi]
  replace BA := (BA.step hb3).step hb4
  replace hb := (hb.trans (hb3.mono hb.size)).trans (hb4.mono (hb.trans (hb3.mono hb.size)).size)
  clear cs ls BS hl' h1 h2 hb1 hb2 hb3 hb4
  have ca := BA.cell
  have cb := BB.cell
  have la := BA.lt
  have lb := BB.lt
  go_wp2_with fail
  refine (awake29_any _).mono ?_
  rintro e w9 ⟨rfl, hb9⟩
  go_wp2_with fail
  go_ret
  exact ⟨by first | rfl | simp, hb.trans (hb9.mono hb.size)⟩

end Go.Proofs.Ytpjdoopcjdbefaa
