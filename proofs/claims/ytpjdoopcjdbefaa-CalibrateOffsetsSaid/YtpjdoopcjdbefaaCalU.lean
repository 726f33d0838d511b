/- The walks of CalibrateShift and CalibrateUntil. -/
import Derived.Test.YtpjdoopcjdbefaaCalO
namespace Go.Proofs.Ytpjdoopcjdbefaa
set_option linter.unusedVariables false
set_option linter.unusedSimpArgs false
open Go.RowKit

/-- A known weighing that could be shown when o is taken off. -/
def shOk (s : Sc) (o : Int) (k : Kn) : Prop := 0 ≤ k.sh ∧ k.sh ≤ 1073741824 ∧ cldS s k.tr (k.sh - o) k.tm = true
theorem shOk_kn {s : Sc} {o : Int} {k : Kn} (h : shOk s o k) : knE s k = 0 ∧ (knS s k).lo ≤ o ∧ o ≤ (knS s k).hi := by
  obtain ⟨h1, h2, h3⟩ := h
  unfold cldS cld at h3
  rw [Bool.and_eq_true, Bool.and_eq_true, decide_eq_true_iff, nearB_iff] at h3
  obtain ⟨⟨h4, h5⟩, h6, h7⟩ := h3
  have hE : errS s k.tr k.tm = 0 := h4
  have hV : erS s k.tr k.tm = bnd s.c s.d s.e s.f k.tr k.tm := if_pos h4
  obtain ⟨_, _, _, _, b5, _⟩ := erS_bd hE
  refine ⟨?_, ?_⟩
  · unfold knE; rw [if_neg (by simpa using hE), if_neg (by omega)]
  · show k.sh - k.tr - (erS s k.tr k.tm + s.a / 2) ≤ o ∧ o ≤ k.sh - k.tr + (erS s k.tr k.tm + s.a / 2)
    rw [hV]
    generalize bnd s.c s.d s.e s.f k.tr k.tm = D at *
    omega
theorem com_has {l : List Sp} {o : Int} (h1 : -70368744177664 ≤ o) (h2 : o ≤ 70368744177664) (h : ∀ x ∈ l, x.lo ≤ o ∧ o ≤ x.hi) : ∀ k, k ≤ l.length → (comS (l.take k)).lo ≤ o ∧ o ≤ (comS (l.take k)).hi
  | 0, _ => ⟨h1, h2⟩
  | k + 1, hk => by
    have ih := com_has h1 h2 h k (by omega)
    have hx := getD_of (l := l) (i := k) (d := sp0) (by omega)
    have := h _ (List.mem_of_getElem? hx)
    rw [comS_take hx]
    unfold maxi mini
    dsimp only
    constructor <;> split <;> omega
theorem shift_law {s : Sc} {l : List Kn} {o : Int} (hs : chkS s = 0) (hl : ¬ l.length > 64) (h1 : -1073741824 ≤ o) (h2 : o ≤ 1073741824) (h : ∀ k ∈ l, shOk s o k) : offE s l = 0 ∧ (offS s l).lo ≤ o ∧ o ≤ (offS s l).hi := by
  have hm : ∀ x ∈ l.map (knS s), x.lo ≤ o ∧ o ≤ x.hi := fun x hx => by
    obtain ⟨k, hk, rfl⟩ := List.mem_map.1 hx
    exact (shOk_kn (h k hk)).2
  have hc := com_has (by omega) (by omega) hm (l.map (knS s)).length (Nat.le_refl _)
  rw [List.take_length] at hc
  have hO : (offO s l).lo ≤ o ∧ o ≤ (offO s l).hi := hc
  have hE : offE s l = 0 := by
    unfold offE
    rw [if_neg (by simp [hs]), if_neg hl, if_neg (by simp [firstE_zero fun k hk => (shOk_kn (h k hk)).1]), if_neg (by omega)]
  refine ⟨hE, ?_⟩
  unfold offS
  rw [if_pos hE]
  exact hO
def ShRel (w1 : World) (s : Sc) (o : Int) (l : List Kn) (i : Value) (wr : World) : Prop := ∃ k : Nat, k ≤ l.length ∧ i = .int .i64 k ∧ (∀ x ∈ l.take k, shOk s o x) ∧ Below w1.heap.size w1 wr
theorem mem_take_succ {α : Type} {p : α → Prop} {l : List α} {k : Nat} {x : α} (hx : l[k]? = some x) (h : ∀ m ∈ l.take k, p m) (hp : p x) : ∀ m ∈ l.take (k + 1), p m := by
  intro m hm
  rw [List.take_add_one, hx] at hm
  rcases List.mem_append.1 hm with hm | hm
  · exact h m hm
  · simp at hm; rw [hm]; exact hp
set_option maxRecDepth 100000 in
set_option maxHeartbeats 8000000 in
theorem law_shift {w : World} {v : Value} (s : Sc) {l : List Kn} (hl : RowIn w v 3 encK l) (o : Int) : Calls Try.prog 8 #[.agg #[.int .i64 (s).a, .int .i64 (s).b, .int .i64 (s).c, .int .i64 (s).d, .int .i64 (s).e, .int .i64 (s).f], v, .int .i64 o] w fun e w' => e = .returned (.bool true) ∧ Below w.heap.size w w' := by
  have hl' := hl
  obtain ⟨oa, cap, rfl, l1, l2, _, hl5⟩ := hl.at_
  unfold maxLen at l2
  have HL := Lib.hid hl5
  clear hl hl5
  have hck := fun w => check_any s.a s.b s.c s.d s.e s.f w
  rw [show chk s.a s.b s.c s.d s.e s.f = chkS s from rfl] at hck
  have hb : Below w.heap.size w (w.alloc (.cells (#[.int .i64 (s).a, .int .i64 (s).b, .int .i64 (s).c, .int .i64 (s).d, .int .i64 (s).e, .int .i64 (s).f]) 32)) := by repeat (first | (with_reducible exact Below.refl _ _) | (with_reducible assumption) | (with_reducible refine Below.drew ?_) | ((with_reducible refine Below.alloc ?_ ?_ _); rotate_left; (first | (with_reducible exact Nat.zero_le _) | (with_reducible exact Nat.le_refl _) | omega | (dsimp only; omega) | (simp only [World.size_alloc, World.size_setCell, World.size_drew]; omega))) | ((with_reducible refine Below.setCell ?_ ?_ _); rotate_left; (first | (with_reducible exact Nat.zero_le _) | (with_reducible exact Nat.le_refl _) | omega | (dsimp only; omega) | (simp only [World.size_alloc, World.size_setCell, World.size_drew]; omega))))
  have hl1 := hl'.step (w' := w.alloc (.cells (#[.int .i64 (s).a, .int .i64 (s).b, .int .i64 (s).c, .int .i64 (s).d, .int .i64 (s).e, .int .i64 (s).f]) 32)) (by repeat (first | (with_reducible exact Below.refl _ _) | (with_reducible assumption) | (with_reducible refine Below.drew ?_) | ((with_reducible refine Below.alloc ?_ ?_ _); rotate_left; (first | (with_reducible exact Nat.zero_le _) | (with_reducible exact Nat.le_refl _) | omega | (dsimp only; omega) | (simp only [World.size_alloc, World.size_setCell, World.size_drew]; omega))) | ((with_reducible refine Below.setCell ?_ ?_ _); rotate_left; (first | (with_reducible exact Nat.zero_le _) | (with_reducible exact Nat.le_refl _) | omega | (dsimp only; omega) | (simp only [World.size_alloc, World.size_setCell, World.size_drew]; omega)))))
  have BS := Blk.new w 32 (#[.int .i64 (s).a, .int .i64 (s).b, .int .i64 (s).c, .int .i64 (s).d, .int .i64 (s).e, .int .i64 (s).f])
  by_cases g : l.length > 64 ∨ o < -1073741824 ∨ o > 1073741824
  · rcases (show (l.length : Int) > 64 ∨ (¬ (l.length : Int) > 64 ∧ o < -1073741824) ∨ (¬ (l.length : Int) > 64 ∧ ¬ o < -1073741824 ∧ o > 1073741824) by omega) with d1 | ⟨d1, d2⟩ | ⟨d1, d2, d3⟩
    all_goals (
      go_enter Try.func8, Try.ntmps8
      go_wp2_with fail
      refine (awake29_any _).mono ?_
      rintro e w9 ⟨rfl, hb9⟩
      go_wp2_with fail
      go_ret
      exact ⟨by first | rfl | simp, hb.trans (hb9.mono hb.size)⟩)
  have d1 : ¬ (l.length : Int) > 64 := by omega
  have d2 : ¬ o < -1073741824 := by omega
  have d3 : ¬ o > 1073741824 := by omega
  have HG := Lib.hid g
  clear g
  have cs := BS.cell
  have ls := BS.lt
  by_cases h0 : chkS s = 0
  case neg =>
    have h0' : (chkS s != 0) = true := by simpa using h0
    clear h0
    generalize chkS s = E at *
    go_enter Try.func8, Try.ntmps8
    go_wp2_with fail
    refine (hck _).mono ?_
    rintro e w1 ⟨rfl, hb1⟩
    replace hb := hb.trans (hb1.mono hb.size)
    go_wp2_with fail
    refine (awake29_any _).mono ?_
    rintro e w9 ⟨rfl, hb9⟩
    go_wp2_with fail
    go_ret
    exact ⟨by first | rfl | simp, hb.trans (hb9.mono hb.size)⟩
  rw [h0] at hck
  have HLAW := Lib.hid fun h => shift_law (s := s) (l := l) (o := o) h0 (by omega) (by omega) (by omega) h
  clear h0
  go_enter Try.func8, Try.ntmps8
  go_wp2_with fail
  refine (hck _).mono ?_
  rintro e w1 ⟨rfl, hb1⟩
  replace hb := hb.trans (hb1.mono hb.size)
  replace hl1 := hl1.step hb1
  replace BS := BS.step hb1
  clear cs ls hb1 hck hl'
  have hz1 := hb.size
  go_wp2_with fail
  go_loopw [30] (fun i wr => ShRel w1 s o l i wr) (fun i _ => (l.length - intOf i).toNat)
  case atStart => exact ⟨0, Nat.zero_le _, rfl, by simp, Below.refl _ _⟩
  case round =>
    obtain ⟨k, hk, rfl, hall, hbr⟩ := hrel
    have hbw := hb.trans (hbr.mono hz1)
    have BSr := BS.step hbr
    have cs := BSr.cell
    have ls := BSr.lt
    by_cases hlt : k < l.length
    · have hx := getD_of (d := kn0) hlt
      obtain ⟨ob, oo, rfl, hoz, hoc⟩ := HL.out (by rintro rfl; simp at hlt)
      have hkl : (k : Int) < l.length := by omega
      have hk0 : (0 : Int) ≤ k := by omega
      have ec := hoc k _ hx
      have HALL := Lib.hid (fun hp => mem_take_succ (p := shOk s o) hx hall hp)
      have hsh : shOk s o (l.getD k kn0) = (0 ≤ (l.getD k kn0).sh ∧ (l.getD k kn0).sh ≤ 1073741824 ∧ cldS s (l.getD k kn0).tr ((l.getD k kn0).sh - o) (l.getD k kn0).tm = true) := rfl
      clear hx hoc hall
      generalize l.getD k kn0 = x at *
      have e0 : World.cell? wr ⟨ob, oo + k * 3, none⟩ = some (.int .i64 x.tm) := (hbw.cell (p := ⟨ob, oo + k * 3, none⟩) hoz).trans (ec 0 (by omega))
      have e1 : World.cell? wr ⟨ob, oo + k * 3 + 1, none⟩ = some (.int .i64 x.tr) := (hbw.cell (p := ⟨ob, oo + k * 3 + 1, none⟩) hoz).trans (ec 1 (by omega))
      have e2 : World.cell? wr ⟨ob, oo + k * 3 + 2, none⟩ = some (.int .i64 x.sh) := (hbw.cell (p := ⟨ob, oo + k * 3 + 2, none⟩) hoz).trans (ec 2 (by omega))
      obtain ⟨xt, xm, xs⟩ := x
      dsimp only at *
      have kA := fun w => could_any s.a s.b s.c s.d s.e s.f xm (xs - o) xt w
      rw [show cld s.a s.b s.c s.d s.e s.f xm (xs - o) xt = cldS s xm (xs - o) xt from rfl] at kA
      have hbx : Below wr.heap.size wr (wr.alloc (.cells #[.int .i64 xt, .int .i64 xm, .int .i64 xs] 49)) := by repeat (first | (with_reducible exact Below.refl _ _) | (with_reducible assumption) | (with_reducible refine Below.drew ?_) | ((with_reducible refine Below.alloc ?_ ?_ _); rotate_left; (first | (with_reducible exact Nat.zero_le _) | (with_reducible exact Nat.le_refl _) | omega | (dsimp only; omega) | (simp only [World.size_alloc, World.size_setCell, World.size_drew]; omega))) | ((with_reducible refine Below.setCell ?_ ?_ _); rotate_left; (first | (with_reducible exact Nat.zero_le _) | (with_reducible exact Nat.le_refl _) | omega | (dsimp only; omega) | (simp only [World.size_alloc, World.size_setCell, World.size_drew]; omega))))
      have hbz := hbr.trans (hbx.mono hbr.size)
      clear ec
      by_cases hr : xs < 0 ∨ xs > 1073741824
      · clear hsh kA
        replace hb := hbw.trans (hbx.mono hbw.size)
        rcases (show xs < 0 ∨ (¬ xs < 0 ∧ xs > 1073741824) by omega) with t1 | ⟨t1, t2⟩
        all_goals (
          go_wp2_with fail
          refine (awake29_any _).mono ?_
          rintro e w9 ⟨rfl, hb9⟩
          go_wp2_with fail
          go_ret
          exact ⟨by first | rfl | simp, hb.trans (hb9.mono hb.size)⟩)
      have t1 : ¬ xs < 0 := by omega
      have t2 : ¬ xs > 1073741824 := by omega
      generalize cldS s xm (xs - o) xt = cA at *
      cases cA with
      | false =>
        replace hb := hbw.trans (hbx.mono hbw.size)
        clear hsh hr
        go_wp2_with fail
        refine (kA _).mono ?_
        rintro e w5 ⟨rfl, hb5⟩
        replace hb := hb.trans (hb5.mono hb.size)
        go_wp2_with fail
        refine (awake29_any _).mono ?_
        rintro e w9 ⟨rfl, hb9⟩
        go_wp2_with fail
        go_ret
        exact ⟨by first | rfl | simp, hb.trans (hb9.mono hb.size)⟩
      | true =>
        have HOK := Lib.hid (HALL.out (by rw [hsh]; exact ⟨by omega, by omega, rfl⟩))
        clear hsh hr
        go_wp2_with fail
        refine (kA _).mono ?_
        rintro e w5 ⟨rfl, hb5⟩
        replace hbz := hbz.trans (hb5.mono hbz.size)
        go_wp2_with fail
        go_roundw
        case rel => exact ⟨k + 1, hlt, by simp, HOK.out, hbz⟩
        case measure => simp [intOf]; omega
    · obtain rfl : k = l.length := by omega
      rw [List.take_length] at hall
      obtain ⟨hE, hlo, hhi⟩ := HLAW.out hall
      have hof := fun w hl => offset_any (w := w) (v := .slice oa l.length cap) s (l := l) hl
      rw [hE] at hof
      clear hall hE HLAW
      generalize offS s l = O at *
      replace hl1 := hl1.step hbr
      replace hb := hbw
      go_wp2_with fail
      refine (hof _ hl1).mono ?_
      rintro e w5 ⟨rfl, hb5⟩
      have BO := Blk.new w5 35 #[.int .i64 O.lo, .int .i64 O.hi]
      have co := BO.cell
      have lo := BO.lt
      replace hb := hb.trans (hb5.mono hb.size)
      have hb6 : Below w5.heap.size w5 (w5.alloc (.cells #[.int .i64 O.lo, .int .i64 O.hi] 35)) := by repeat (first | (with_reducible exact Below.refl _ _) | (with_reducible assumption) | (with_reducible refine Below.drew ?_) | ((with_reducible refine Below.alloc ?_ ?_ _); rotate_left; (first | (with_reducible exact Nat.zero_le _) | (with_reducible exact Nat.le_refl _) | omega | (dsimp only; omega) | (simp only [World.size_alloc, World.size_setCell, World.size_drew]; omega))) | ((with_reducible refine Below.setCell ?_ ?_ _); rotate_left; (first | (with_reducible exact Nat.zero_le _) | (with_reducible exact Nat.le_refl _) | omega | (dsimp only; omega) | (simp only [World.size_alloc, World.size_setCell, World.size_drew]; omega))))
      replace hb := hb.trans (hb6.mono hb.size)
      clear cs ls
      go_wp2_with fail
      refine (awake29_any _).mono ?_
      rintro e w9 ⟨rfl, hb9⟩
      go_wp2_with fail
      go_ret
      exact ⟨by first | rfl | simp, hb.trans (hb9.mono hb.size)⟩

end Go.Proofs.Ytpjdoopcjdbefaa
