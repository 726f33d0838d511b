/- Contract: the offsets of the program. -/
import Derived.Test.YtpjdoopcjdbefaaCalJ
import Derived.Test.YtpjdoopcjdbefaaCalK
namespace Go.Proofs.Ytpjdoopcjdbefaa
set_option linter.unusedVariables false
set_option linter.unusedSimpArgs false
open Go.RowKit

structure Kn where
  tm : Int
  tr : Int
  sh : Int
def kn0 : Kn := ⟨0, 0, 0⟩
def encK (k : Kn) : List Value := [.int .i64 k.tm, .int .i64 k.tr, .int .i64 k.sh]
def knE (s : Sc) (k : Kn) : Int := if errS s k.tr k.tm ≠ 0 then errS s k.tr k.tm else if k.sh < 0 ∨ k.sh > 1073741824 then 1 else 0
def knD (s : Sc) (k : Kn) : Int := erS s k.tr k.tm + s.a / 2
def knS (s : Sc) (k : Kn) : Sp := ⟨k.sh - k.tr - knD s k, k.sh - k.tr + knD s k⟩
def offO (s : Sc) (l : List Kn) : Sp := comS (l.map (knS s))
def offE (s : Sc) (l : List Kn) : Int := if chkS s ≠ 0 then chkS s else if l.length > 64 then 8 else if firstE (knE s) l ≠ 0 then firstE (knE s) l else if (offO s l).lo > (offO s l).hi then 10 else 0
def offS (s : Sc) (l : List Kn) : Sp := if offE s l = 0 then offO s l else sp0
theorem off_no {s : Sc} {l : List Kn} {z : Int} (h : offE s l = z) (h0 : z ≠ 0) : offS s l = sp0 := by unfold offS; rw [if_neg (by rw [h]; exact h0)]
theorem knE_cases (s : Sc) (k : Kn) : (errS s k.tr k.tm ≠ 0 ∧ knE s k = errS s k.tr k.tm) ∨ (errS s k.tr k.tm = 0 ∧ ((knE s k = 1 ∧ (k.sh < 0 ∨ (¬ k.sh < 0 ∧ k.sh > 1073741824))) ∨ (knE s k = 0 ∧ ¬ k.sh < 0 ∧ ¬ k.sh > 1073741824))) := by
  unfold knE
  by_cases h : errS s k.tr k.tm = 0
  · rw [if_neg (by simpa using h)]
    refine .inr ⟨h, ?_⟩
    by_cases h2 : k.sh < 0 ∨ k.sh > 1073741824
    · rw [if_pos h2]; exact .inl ⟨rfl, by omega⟩
    · rw [if_neg h2]; exact .inr ⟨rfl, by omega, by omega⟩
  · rw [if_pos h]; exact .inl ⟨h, rfl⟩
theorem erS_bd {s : Sc} {m t : Int} (h : errS s m t = 0) : 0 ≤ erS s m t ∧ erS s m t ≤ 3860000000 ∧ 0 ≤ m ∧ m ≤ 1073741824 ∧ 1 ≤ s.a ∧ s.a ≤ 10000 := by
  obtain ⟨hV, h1, h2, h3, h4, h5⟩ := errn_ok.1 h
  have := bnd_bd hV h1 h2 h4 h5
  have e : erS s m t = bnd s.c s.d s.e s.f m t := if_pos h
  rw [e]
  exact ⟨this.1, this.2, h1, h2, hV.a1, hV.a2⟩
theorem oneP (m : List Sp) : ∀ u ∈ rowOf encP m, u.oneCell' = true := by
  intro u hu
  unfold rowOf at hu
  obtain ⟨e, _, he⟩ := List.mem_flatMap.1 hu
  simp [encP] at he
  rcases he with rfl | rfl <;> rfl
def OfRel (w1 : World) (s : Sc) (l : List Kn) (v i : Value) (wr : World) : Prop := ∃ k : Nat, k ≤ l.length ∧ i = .int .i64 k ∧ firstE (knE s) (l.take k) = 0 ∧ Below w1.heap.size w1 wr ∧ wr.ownsRow w1.heap.size 35 2 v k (rowOf encP ((l.take k).map (knS s)))

set_option maxRecDepth 100000 in
set_option maxHeartbeats 8000000 in
theorem offset_any {w : World} {v : Value} (s : Sc) {l : List Kn} (hl : RowIn w v 3 encK l) : Calls Try.prog 18 #[.agg #[.int .i64 (s).a, .int .i64 (s).b, .int .i64 (s).c, .int .i64 (s).d, .int .i64 (s).e, .int .i64 (s).f], v] w fun e w' => e = .returned (.tuple #[.agg #[.int .i64 (offS s l).lo, .int .i64 (offS s l).hi], .int .i64 (offE s l)]) ∧ Below w.heap.size w w' := by
  have hck := fun w => check_any s.a s.b s.c s.d s.e s.f w
  rw [show chk s.a s.b s.c s.d s.e s.f = chkS s from rfl] at hck
  have hE : offE s l = if chkS s ≠ 0 then chkS s else if l.length > 64 then 8 else if firstE (knE s) l ≠ 0 then firstE (knE s) l else if (offO s l).lo > (offO s l).hi then 10 else 0 := rfl
  have HN := Lib.hid fun z h h0 => off_no (s := s) (l := l) (z := z) h h0
  have HY := Lib.hid (show offE s l = 0 → offS s l = offO s l from fun h => if_pos h)
  have hbw : Below w.heap.size w ((w.alloc (.cells (#[.int .i64 (s).a, .int .i64 (s).b, .int .i64 (s).c, .int .i64 (s).d, .int .i64 (s).e, .int .i64 (s).f]) 32)).alloc (.cells #[.int .i64 0, .int .i64 0] 35)) := by repeat (first | (with_reducible exact Below.refl _ _) | (with_reducible assumption) | (with_reducible refine Below.drew ?_) | ((with_reducible refine Below.alloc ?_ ?_ _); rotate_left; (first | (with_reducible exact Nat.zero_le _) | (with_reducible exact Nat.le_refl _) | omega | (dsimp only; omega) | (simp only [World.size_alloc, World.size_setCell, World.size_drew]; omega))) | ((with_reducible refine Below.setCell ?_ ?_ _); rotate_left; (first | (with_reducible exact Nat.zero_le _) | (with_reducible exact Nat.le_refl _) | omega | (dsimp only; omega) | (simp only [World.size_alloc, World.size_setCell, World.size_drew]; omega))))
  have BS : Blk ((w.alloc (.cells (#[.int .i64 (s).a, .int .i64 (s).b, .int .i64 (s).c, .int .i64 (s).d, .int .i64 (s).e, .int .i64 (s).f]) 32)).alloc (.cells #[.int .i64 0, .int .i64 0] 35)) w.heap.size 32 (#[.int .i64 (s).a, .int .i64 (s).b, .int .i64 (s).c, .int .i64 (s).d, .int .i64 (s).e, .int .i64 (s).f]) := (Blk.new w 32 (#[.int .i64 (s).a, .int .i64 (s).b, .int .i64 (s).c, .int .i64 (s).d, .int .i64 (s).e, .int .i64 (s).f])).alloc _
  have BR : Blk ((w.alloc (.cells (#[.int .i64 (s).a, .int .i64 (s).b, .int .i64 (s).c, .int .i64 (s).d, .int .i64 (s).e, .int .i64 (s).f]) 32)).alloc (.cells #[.int .i64 0, .int .i64 0] 35)) (w.heap.size + 1) 35 #[.int .i64 0, .int .i64 0] := by
    have := Blk.new (w.alloc (.cells (#[.int .i64 (s).a, .int .i64 (s).b, .int .i64 (s).c, .int .i64 (s).d, .int .i64 (s).e, .int .i64 (s).f]) 32)) 35 #[.int .i64 0, .int .i64 0]
    simpa using this
  obtain ⟨oa, cap, rfl, l1, l2, _, hl5⟩ := hl.at_
  unfold maxLen at l2
  have HL := Lib.hid hl5
  clear hl5 hl
  generalize offE s l = OE at *
  generalize offS s l = OS at *
  by_cases h0 : chkS s = 0
  case neg =>
    have h0' : (chkS s != 0) = true := by simpa using h0
    rw [if_pos h0] at hE
    rw [HN.out _ hE h0, hE]
    clear hE h0
    generalize chkS s = E at *
    go_enter Try.func18, Try.ntmps18
    go_wp2_with fail
    refine (hck _).mono ?_
    rintro e w1 ⟨rfl, hb1⟩
    replace BR := BR.step hb1
    have cr := BR.cell
    have fr := BR.free
    have lr := BR.lt
    have hs1 := hb1.size
    replace hbw := hbw.trans (hb1.mono hbw.size)
    go_wp2_with fail
    refine bodyPost_ret (v := .tuple #[.agg #[.int .i64 0, .int .i64 0], .int .i64 E]) (by simp only [results, Try.results18]; go_simp; first | done | rfl) rfl ?_
    refine ⟨rfl, ?_⟩
    repeat (first | (with_reducible exact Below.refl _ _) | (with_reducible assumption) | (with_reducible refine Below.drew ?_) | ((with_reducible refine Below.alloc ?_ ?_ _); rotate_left; (first | (with_reducible exact Nat.zero_le _) | (with_reducible exact Nat.le_refl _) | omega | (dsimp only; omega) | (simp only [World.size_alloc, World.size_setCell, World.size_drew]; omega))) | ((with_reducible refine Below.setCell ?_ ?_ _); rotate_left; (first | (with_reducible exact Nat.zero_le _) | (with_reducible exact Nat.le_refl _) | omega | (dsimp only; omega) | (simp only [World.size_alloc, World.size_setCell, World.size_drew]; omega))))
  rw [if_neg (by simp [h0])] at hE
  rw [h0] at hck
  by_cases g1 : l.length > 64
  · have g1' : (l.length : Int) > 64 := by omega
    rw [if_pos g1] at hE
    rw [HN.out _ hE (by decide), hE]
    clear hE h0 g1
    go_enter Try.func18, Try.ntmps18
    go_wp2_with fail
    refine (hck _).mono ?_
    rintro e w1 ⟨rfl, hb1⟩
    replace BR := BR.step hb1
    have cr := BR.cell
    have fr := BR.free
    have lr := BR.lt
    have hs1 := hb1.size
    replace hbw := hbw.trans (hb1.mono hbw.size)
    go_wp2_with fail
    refine bodyPost_ret (v := .tuple #[.agg #[.int .i64 0, .int .i64 0], .int .i64 8]) (by simp only [results, Try.results18]; go_simp; first | done | rfl) rfl ?_
    refine ⟨rfl, ?_⟩
    repeat (first | (with_reducible exact Below.refl _ _) | (with_reducible assumption) | (with_reducible refine Below.drew ?_) | ((with_reducible refine Below.alloc ?_ ?_ _); rotate_left; (first | (with_reducible exact Nat.zero_le _) | (with_reducible exact Nat.le_refl _) | omega | (dsimp only; omega) | (simp only [World.size_alloc, World.size_setCell, World.size_drew]; omega))) | ((with_reducible refine Below.setCell ?_ ?_ _); rotate_left; (first | (with_reducible exact Nat.zero_le _) | (with_reducible exact Nat.le_refl _) | omega | (dsimp only; omega) | (simp only [World.size_alloc, World.size_setCell, World.size_drew]; omega))))
  have g1' : ¬ (l.length : Int) > 64 := by omega
  rw [if_neg g1] at hE
  have HE := Lib.hid hE
  clear hE h0
  obtain ⟨ti, hi, hz, hsi, hby⟩ := info_of (P := Try.prog) (t := 35) (z := .agg #[.int .i64 0, .int .i64 0]) (size := 2) (bytes := 16) (by kernel_rfl)
  go_enter Try.func18, Try.ntmps18
  go_wp2_with fail
  refine (hck _).mono ?_
  rintro e w1 ⟨rfl, hb1⟩
  replace BR := BR.step hb1
  replace BS := BS.step hb1
  replace hbw := hbw.trans (hb1.mono hbw.size)
  clear hb1 hck
  have hss := hbw.size
  go_wp2_with fail
  go_loopw [7, 27] (fun v i wr => OfRel w1 s l v i wr) (fun _ i _ => (l.length - intOf i).toNat)
  case atStart => exact ⟨0, Nat.zero_le _, rfl, rfl, Below.refl _ _, ⟨by simp [rowOf], .inl ⟨rfl, rfl⟩⟩⟩
  case round =>
    obtain ⟨k, hk, rfl, hok, hbr, own⟩ := hrel
    have hsz := hbr.size
    have hw := hbw.trans (hbr.mono hbw.size)
    have BRr := BR.step hbr
    have BSr := BS.step hbr
    by_cases hlt : k < l.length
    · have hx := getD_of (d := kn0) hlt
      obtain ⟨ob, oo, rfl, hoz, hoc⟩ := HL.out (by rintro rfl; simp at hlt)
      have hkl : (k : Int) < l.length := by omega
      have hk0 : (0 : Int) ≤ k := by omega
      have ec := hoc k _ hx
      have q : ∀ j, wr.cell? ⟨ob, j, none⟩ = w.cell? ⟨ob, j, none⟩ := fun j => hw.cell (p := ⟨ob, j, none⟩) hoz
      have HT := Lib.hid (fun (h : knE s (l.getD k kn0) = 0) => (firstE_take (knE s) hx hok).trans h)
      have HB := Lib.hid (fun h => HE.out.trans (if_pos (by rw [firstE_stop (knE s) hx hok h]; exact h)) |>.trans (firstE_stop (knE s) hx hok h))
      have HC := Lib.hid (show (l.take (k + 1)).map (knS s) = (l.take k).map (knS s) ++ [knS s (l.getD k kn0)] by rw [List.take_add_one, hx]; simp)
      have hcas := knE_cases s (l.getD k kn0)
      have hbd := fun h => erS_bd (s := s) (m := (l.getD k kn0).tr) (t := (l.getD k kn0).tm) h
      have her := fun w => error_any s.a s.b s.c s.d s.e s.f (l.getD k kn0).tr (l.getD k kn0).tm w
      rw [show errn s.a s.b s.c s.d s.e s.f (l.getD k kn0).tr (l.getD k kn0).tm = errS s (l.getD k kn0).tr (l.getD k kn0).tm from rfl, show errv s.a s.b s.c s.d s.e s.f (l.getD k kn0).tr (l.getD k kn0).tm = erS s (l.getD k kn0).tr (l.getD k kn0).tm from rfl] at her
      have hSp : knS s (l.getD k kn0) = ⟨(l.getD k kn0).sh - (l.getD k kn0).tr - (erS s (l.getD k kn0).tr (l.getD k kn0).tm + s.a / 2), (l.getD k kn0).sh - (l.getD k kn0).tr + (erS s (l.getD k kn0).tr (l.getD k kn0).tm + s.a / 2)⟩ := rfl
      clear hx hok hoc
      generalize l.getD k kn0 = x at *
      have e0 : World.cell? wr ⟨ob, oo + k * 3, none⟩ = some (.int .i64 x.tm) := (q _).trans (ec 0 (by omega))
      have e1 : World.cell? wr ⟨ob, oo + k * 3 + 1, none⟩ = some (.int .i64 x.tr) := (q _).trans (ec 1 (by omega))
      have e2 : World.cell? wr ⟨ob, oo + k * 3 + 2, none⟩ = some (.int .i64 x.sh) := (q _).trans (ec 2 (by omega))
      clear ec q
      obtain ⟨xt, xm, xs⟩ := x
      dsimp only at *
      generalize errS s xm xt = EE at *
      generalize erS s xm xt = EV at *
      generalize knE s ⟨xt, xm, xs⟩ = KE at *
      generalize knS s ⟨xt, xm, xs⟩ = KS at *
      have z0 : ∀ j, World.cell? wr ⟨w.heap.size, j, none⟩ = (#[.int .i64 (s).a, .int .i64 (s).b, .int .i64 (s).c, .int .i64 (s).d, .int .i64 (s).e, .int .i64 (s).f])[j]? := BSr.cell
      have lz := BSr.lt
      have BX := Blk.new wr 49 #[.int .i64 xt, .int .i64 xm, .int .i64 xs]
      have hbx : Below wr.heap.size wr (wr.alloc (.cells #[.int .i64 xt, .int .i64 xm, .int .i64 xs] 49)) := by repeat (first | (with_reducible exact Below.refl _ _) | (with_reducible assumption) | (with_reducible refine Below.drew ?_) | ((with_reducible refine Below.alloc ?_ ?_ _); rotate_left; (first | (with_reducible exact Nat.zero_le _) | (with_reducible exact Nat.le_refl _) | omega | (dsimp only; omega) | (simp only [World.size_alloc, World.size_setCell, World.size_drew]; omega))) | ((with_reducible refine Below.setCell ?_ ?_ _); rotate_left; (first | (with_reducible exact Nat.zero_le _) | (with_reducible exact Nat.le_refl _) | omega | (dsimp only; omega) | (simp only [World.size_alloc, World.size_setCell, World.size_drew]; omega))))
      replace own := ownsRow_step own hbx
      replace BRr := BRr.step hbx
      have hbz := hbr.trans (hbx.mono hsz)
      rcases hcas with ⟨n1, hc⟩ | ⟨rfl, hc⟩
      · have n1' : (EE != 0) = true := by simpa using n1
        have H1 := HB.out (by rw [hc]; exact n1)
        rw [hc] at H1
        have HOS := Lib.hid (HN.out _ H1 n1)
        have HOE := Lib.hid H1
        clear n1 hc hbd hSp H1
        go_wp2_with fail
        refine (her _).mono ?_
        rintro e w3 ⟨rfl, hb3⟩
        replace BRr := BRr.step hb3
        have cr := BRr.cell
        have fr := BRr.free
        have lr := BRr.lt
        have hbq := hbw.trans ((hbz.trans (hb3.mono hbz.size)).mono hbw.size)
        go_wp2_with fail
        refine bodyPost_ret (v := .tuple #[.agg #[.int .i64 0, .int .i64 0], .int .i64 EE]) (by simp only [results, Try.results18]; go_simp; first | done | rfl) rfl ?_
        refine ⟨by rw [HOS.out, HOE.out]; rfl, ?_⟩
        repeat (first | (with_reducible exact Below.refl _ _) | (with_reducible assumption) | (with_reducible refine Below.drew ?_) | ((with_reducible refine Below.alloc ?_ ?_ _); rotate_left; (first | (with_reducible exact Nat.zero_le _) | (with_reducible exact Nat.le_refl _) | omega | (dsimp only; omega) | (simp only [World.size_alloc, World.size_setCell, World.size_drew]; omega))) | ((with_reducible refine Below.setCell ?_ ?_ _); rotate_left; (first | (with_reducible exact Nat.zero_le _) | (with_reducible exact Nat.le_refl _) | omega | (dsimp only; omega) | (simp only [World.size_alloc, World.size_setCell, World.size_drew]; omega))))
      rcases hc with ⟨hc, hd⟩ | ⟨hc, d1, d2⟩
      · have H1 := HB.out (by rw [hc]; decide)
        rw [hc] at H1
        have HOS := Lib.hid (HN.out _ H1 (by decide))
        have HOE := Lib.hid H1
        clear hc hbd hSp H1
        rcases hd with d1 | ⟨d1, d2⟩
        all_goals (
          go_wp2_with fail
          refine (her _).mono ?_
          rintro e w3 ⟨rfl, hb3⟩
          replace BRr := BRr.step hb3
          replace BX := BX.step hb3
          have cr := BRr.cell
          have fr := BRr.free
          have lr := BRr.lt
          have cx := BX.cell
          have hbq := hbw.trans ((hbz.trans (hb3.mono hbz.size)).mono hbw.size)
          go_wp2_with fail
          refine bodyPost_ret (v := .tuple #[.agg #[.int .i64 0, .int .i64 0], .int .i64 1]) (by simp only [results, Try.results18]; go_simp; first | done | rfl) rfl ?_
          refine ⟨by rw [HOS.out, HOE.out]; rfl, ?_⟩
          repeat (first | (with_reducible exact Below.refl _ _) | (with_reducible assumption) | (with_reducible refine Below.drew ?_) | ((with_reducible refine Below.alloc ?_ ?_ _); rotate_left; (first | (with_reducible exact Nat.zero_le _) | (with_reducible exact Nat.le_refl _) | omega | (dsimp only; omega) | (simp only [World.size_alloc, World.size_setCell, World.size_drew]; omega))) | ((with_reducible refine Below.setCell ?_ ?_ _); rotate_left; (first | (with_reducible exact Nat.zero_le _) | (with_reducible exact Nat.le_refl _) | omega | (dsimp only; omega) | (simp only [World.size_alloc, World.size_setCell, World.size_drew]; omega)))))
      · obtain ⟨b1, b2, b3, b4, b5, b6⟩ := hbd rfl
        have HTK := Lib.hid (HT.out hc)
        have HSP := Lib.hid hSp
        clear hc hbd hSp HT HB
        go_wp2_with fail
        refine (her _).mono ?_
        rintro e w3 ⟨rfl, hb3⟩
        replace BX := BX.step hb3
        replace BSr := (BSr.step hbx).step hb3
        clear z0 lz e0 e1 e2
        have cx := BX.cell
        have lx := BX.lt
        have z0 : ∀ j, World.cell? w3 ⟨w.heap.size, j, none⟩ = (#[.int .i64 (s).a, .int .i64 (s).b, .int .i64 (s).c, .int .i64 (s).d, .int .i64 (s).e, .int .i64 (s).f])[j]? := BSr.cell
        have lz := BSr.lt
        replace own := ownsRow_step own hb3
        replace hbz := hbz.trans (hb3.mono hbz.size)
        have hb4 : Below w3.heap.size w3 (w3.alloc (.cells #[.int .i64 (xs - xm - (EV + s.a / 2)), .int .i64 (xs - xm + (EV + s.a / 2))] 35)) := by repeat (first | (with_reducible exact Below.refl _ _) | (with_reducible assumption) | (with_reducible refine Below.drew ?_) | ((with_reducible refine Below.alloc ?_ ?_ _); rotate_left; (first | (with_reducible exact Nat.zero_le _) | (with_reducible exact Nat.le_refl _) | omega | (dsimp only; omega) | (simp only [World.size_alloc, World.size_setCell, World.size_drew]; omega))) | ((with_reducible refine Below.setCell ?_ ?_ _); rotate_left; (first | (with_reducible exact Nat.zero_le _) | (with_reducible exact Nat.le_refl _) | omega | (dsimp only; omega) | (simp only [World.size_alloc, World.size_setCell, World.size_drew]; omega))))
        have BN := Blk.new w3 35 #[.int .i64 (xs - xm - (EV + s.a / 2)), .int .i64 (xs - xm + (EV + s.a / 2))]
        replace own := ownsRow_step own hb4
        replace hbz := hbz.trans (hb4.mono hbz.size)
        go_wp2_with (at_builtin; refine wpList_append_any _ rfl _ _ _ rfl w1.heap.size 35 ti _ 2 16 Try.underlying64 hi hz hsi hby rfl (by omega) _ k _ rfl own _ 1 (encP ⟨xs - xm - (EV + s.a / 2), xs - xm + (EV + s.a / 2)⟩) rfl (Src.of_blk BN 1) rfl (fun u hu => oneP [⟨xs - xm - (EV + s.a / 2), xs - xm + (EV + s.a / 2)⟩] u (by simpa [rowOf] using hu)) (by simp only [maxLen]; omega) (by omega) hbz.size ?_; intro v6 w6 own6 hg6 hat6)
        have hb6 := Below.grown hbz hg6 hbz.size (own_ge' own)
        have own6' : w6.ownsRow w1.heap.size 35 2 v6 (k + 1) (rowOf encP ((l.take (k + 1)).map (knS s))) := by
          rw [HC.out, rowOf_append, HSP.out]
          simpa [rowOf] using own6
        clear own6 own hg6 hat6
        go_roundw
        case rel => exact ⟨k + 1, hlt, by simp, HTK.out, hb6, own6'⟩
        case measure => simp [intOf]; omega
    · obtain rfl : k = l.length := by omega
      rw [List.take_length] at hok own
      have hlm : (l.map (knS s)).length = l.length := by simp
      have RM : RowIn wr u7 2 encP (l.map (knS s)) := RowIn.of_own encP_len (by rw [hlm]; exact own)
      have hO : offO s l = comS (l.map (knS s)) := rfl
      have hE := HE.out
      rw [if_neg (by simp [hok])] at hE
      have hcm := common_any RM
      rw [← hO] at hcm
      clear hO RM hlm own hok HE
      generalize offO s l = O at *
      by_cases ho : O.lo ≤ O.hi
      · rw [if_neg (by omega)] at hE
        have HOS := Lib.hid (HY.out hE)
        have HOE := Lib.hid hE
        rw [decide_eq_true ho] at hcm
        clear hE ho
        go_wp2_with fail
        refine hcm.mono ?_
        rintro e w3 ⟨rfl, hb3⟩
        replace BRr := BRr.step hb3
        have cr := BRr.cell
        have fr := BRr.free
        have lr := BRr.lt
        have hbq := hbw.trans ((hbr.trans (hb3.mono hbr.size)).mono hbw.size)
        go_wp2_with fail
        refine bodyPost_ret (v := .tuple #[.agg #[.int .i64 (O).lo, .int .i64 (O).hi], .int .i64 0]) (by simp only [results, Try.results18]; go_simp; first | done | rfl) rfl ?_
        refine ⟨by rw [HOS.out, HOE.out], ?_⟩
        repeat (first | (with_reducible exact Below.refl _ _) | (with_reducible assumption) | (with_reducible refine Below.drew ?_) | ((with_reducible refine Below.alloc ?_ ?_ _); rotate_left; (first | (with_reducible exact Nat.zero_le _) | (with_reducible exact Nat.le_refl _) | omega | (dsimp only; omega) | (simp only [World.size_alloc, World.size_setCell, World.size_drew]; omega))) | ((with_reducible refine Below.setCell ?_ ?_ _); rotate_left; (first | (with_reducible exact Nat.zero_le _) | (with_reducible exact Nat.le_refl _) | omega | (dsimp only; omega) | (simp only [World.size_alloc, World.size_setCell, World.size_drew]; omega))))
      · rw [if_pos (by omega)] at hE
        have HOS := Lib.hid (HN.out _ hE (by decide))
        have HOE := Lib.hid hE
        rw [decide_eq_false ho] at hcm
        clear hE ho
        go_wp2_with fail
        refine hcm.mono ?_
        rintro e w3 ⟨rfl, hb3⟩
        replace BRr := BRr.step hb3
        have cr := BRr.cell
        have fr := BRr.free
        have lr := BRr.lt
        have hbq := hbw.trans ((hbr.trans (hb3.mono hbr.size)).mono hbw.size)
        go_wp2_with fail
        refine bodyPost_ret (v := .tuple #[.agg #[.int .i64 0, .int .i64 0], .int .i64 10]) (by simp only [results, Try.results18]; go_simp; first | done | rfl) rfl ?_
        refine ⟨by rw [HOS.out, HOE.out]; rfl, ?_⟩
        repeat (first | (with_reducible exact Below.refl _ _) | (with_reducible assumption) | (with_reducible refine Below.drew ?_) | ((with_reducible refine Below.alloc ?_ ?_ _); rotate_left; (first | (with_reducible exact Nat.zero_le _) | (with_reducible exact Nat.le_refl _) | omega | (dsimp only; omega) | (simp only [World.size_alloc, World.size_setCell, World.size_drew]; omega))) | ((with_reducible refine Below.setCell ?_ ?_ _); rotate_left; (first | (with_reducible exact Nat.zero_le _) | (with_reducible exact Nat.le_refl _) | omega | (dsimp only; omega) | (simp only [World.size_alloc, World.size_setCell, World.size_drew]; omega))))

end Go.Proofs.Ytpjdoopcjdbefaa
