/- Contracts: base items whatever comes; the law's awake. -/
import Derived.Test.YtaidcdcikjbjjaaTariffI
import Derived.Test.YtaidcdcikjbjjaaTariffF
import Derived.Test.YtaidcdcikjbjjaaTariffC
namespace Go.Proofs.Ytaidcdcikjbjjaa
set_option linter.unusedVariables false
set_option linter.unusedSimpArgs false
open Go.RowKit

theorem base_any {w : World} {v : Value} {l : List Tf} (hl : RowIn w v 5 encT l) (a b : Int) : Calls Try.prog 20 #[v, .agg #[.int .i64 a, .int .i64 b]] w (itOut w (bL l a b) (bE l a b)) := by
  by_cases h : bE l a b = 0
  · exact base_ok hl a b h
  · exact base_no hl a b h
theorem rbase_any {w : World} {v : Value} {l : List Tf} (hl : RowIn w v 5 encT l) (a b : Int) : Calls Try.prog 21 #[v, .agg #[.int .i64 a, .int .i64 b]] w (itOut w (bL l a b) (bE l a b)) := by
  by_cases h : bE l a b = 0
  · exact rbase_ok hl a b h
  · exact rbase_no hl a b h

theorem RowIn.of_blk {α : Type} {w : World} {g : Nat} {e : TypeId} {C : Nat} {cs : Array Value} {f : α → List Value} {l : List α} (hf : ∀ a, (f a).length = C) (h : Blk w g e cs) (hc : cs.toList = l.flatMap f) (hm : l.length ≤ maxLen) :
    RowIn w (.slice (some ⟨g, 0, none⟩) l.length l.length) C f l := by
  have hl : (l.flatMap f).length = l.length * C := rowOf_length hf l
  have hs : cs.size = l.length * C := by rw [← hl, ← hc]; simp
  refine RowIn.of_own (base := 0) (e := e) hf ⟨hl, .inr ⟨g, l.length, cs, rfl, Nat.zero_le _, h, Nat.le_refl _, hm, hs, ?_⟩⟩
  rw [hc, List.take_of_length_le (by omega)]

def at0 : Tf := ⟨0, 10, 150, 20, 5⟩
def at1 : Tf := ⟨30, 12, 0, 0, 0⟩
set_option maxRecDepth 100000 in
set_option maxHeartbeats 4000000 in
theorem awake_any (w : World) : Calls Try.prog 12 #[] w fun e w' => e = .returned (.bool true) ∧ Below w.heap.size w w' := by
  have f1 : bL [at0, at1] 28 33 = [⟨1, 0, 2, 10, 20⟩, ⟨1, 1, 3, 12, 36⟩] := by decide +kernel
  have f2 : bE [at0, at1] 28 33 = 0 := by decide +kernel
  have f3 : atV [at0, at1] 29 = 0 := by decide +kernel
  have f4 : atE [at0, at1] 29 = 0 := by decide +kernel
  have f5 : atV [at0, at1] 30 = 1 := by decide +kernel
  have f6 : atE [at0, at1] 30 = 0 := by decide +kernel
  have f7 : wV at0 12300 13900 = 7 := by decide +kernel
  have f8 : wE at0 12300 13900 = 0 := by decide +kernel
  have f9 : itL at0 9 12300 13900 = [⟨2, 9, 1, 150, 150⟩, ⟨3, 9, 7, 20, 140⟩] := by decide +kernel
  have f10 : itE at0 9 12300 13900 = 0 := by decide +kernel
  have f11 : bE [⟨3, 0, 0, 0, 0⟩] 2 5 = 7 := by decide +kernel
  have f12 : tchk [at0, at1] = 0 := by decide +kernel
  have f13 : tchk [] = 10 := by decide +kernel
  have BL := Blk.new w 31 #[.int .i64 0, .int .i64 10, .int .i64 150, .int .i64 20, .int .i64 5, .int .i64 30, .int .i64 12, .int .i64 0, .int .i64 0, .int .i64 0]
  have hb : Below w.heap.size w (w.alloc (.cells #[.int .i64 0, .int .i64 10, .int .i64 150, .int .i64 20, .int .i64 5, .int .i64 30, .int .i64 12, .int .i64 0, .int .i64 0, .int .i64 0] 31)) := by repeat (first | (with_reducible exact Below.refl _ _) | (with_reducible assumption) | (with_reducible refine Below.drew ?_) | ((with_reducible refine Below.alloc ?_ ?_ _); rotate_left; (first | (with_reducible exact Nat.zero_le _) | (with_reducible exact Nat.le_refl _) | omega | (dsimp only; omega) | (simp only [World.size_alloc, World.size_setCell, World.size_drew]; omega))) | ((with_reducible refine Below.setCell ?_ ?_ _); rotate_left; (first | (with_reducible exact Nat.zero_le _) | (with_reducible exact Nat.le_refl _) | omega | (dsimp only; omega) | (simp only [World.size_alloc, World.size_setCell, World.size_drew]; omega))))
  have hit := fun w => items_any at0 9 0 0 0 12300 13900 false w
  have hwt := fun w => weight_any at0 12300 13900 w
  unfold encT at hit hwt
  rw [f9, f10] at hit
  rw [f7, f8] at hwt
  have HIT := Lib.hid hit
  have HWT := Lib.hid hwt
  have F1 := Lib.hid f1
  have F2 := Lib.hid f2
  have F3 := Lib.hid f3
  have F4 := Lib.hid f4
  have F5 := Lib.hid f5
  have F6 := Lib.hid f6
  have F11 := Lib.hid f11
  have F12 := Lib.hid f12
  have F13 := Lib.hid f13
  clear f1 f2 f3 f4 f5 f6 f7 f8 f9 f10 f11 f12 f13 hit hwt
  go_enter Try.func12, Try.ntmps12
  have c0 := BL.cell
  have l0 := BL.lt
  go_wp2_with fail
  clear c0 l0
  refine (base_any (RowIn.of_blk (l := [at0, at1]) encT_len BL (by rfl) (by simp [maxLen])) 28 33).mono ?_
  rintro e w1 ⟨v1, rfl, R1, hb1⟩
  rw [F1.out] at R1
  rw [F2.out]
  replace BL := BL.step hb1
  replace hb := hb.trans (hb1.mono hb.size)
  have c0 := BL.cell
  have l0 := BL.lt
  go_wp2_with fail
  clear c0 l0
  refine (at_any (RowIn.of_blk (l := [at0, at1]) encT_len BL (by rfl) (by simp [maxLen])) 29).mono ?_
  rintro e w2 ⟨rfl, hb2⟩
  rw [F3.out, F4.out]
  replace R1 := R1.step hb2
  replace BL := BL.step hb2
  replace hb := hb.trans (hb2.mono hb.size)
  have c0 := BL.cell
  have l0 := BL.lt
  go_wp2_with fail
  clear c0 l0
  refine (at_any (RowIn.of_blk (l := [at0, at1]) encT_len BL (by rfl) (by simp [maxLen])) 30).mono ?_
  rintro e w3 ⟨rfl, hb3⟩
  rw [F5.out, F6.out]
  replace R1 := R1.step hb3
  replace BL := BL.step hb3
  replace hb := hb.trans (hb3.mono hb.size)
  have c0 := BL.cell
  have l0 := BL.lt
  go_wp2_with fail
  clear c0 l0
  refine (HWT.out _).mono ?_
  rintro e w4 ⟨rfl, hb4⟩
  replace R1 := R1.step hb4
  replace BL := BL.step hb4
  replace hb := hb.trans (hb4.mono hb.size)
  have c0 := BL.cell
  have l0 := BL.lt
  go_wp2_with fail
  clear c0 l0
  refine (HIT.out _).mono ?_
  rintro e w5 ⟨v5, rfl, R5, hb5⟩
  replace R1 := R1.step hb5
  replace BL := BL.step hb5
  replace hb := hb.trans (hb5.mono hb.size)
  go_wp2_with fail
  have BS := Blk.new w5 31 #[.int .i64 3, .int .i64 0, .int .i64 0, .int .i64 0, .int .i64 0]
  replace R1 := R1.step (w' := w5.alloc (.cells #[.int .i64 3, .int .i64 0, .int .i64 0, .int .i64 0, .int .i64 0] 31)) (by repeat (first | (with_reducible exact Below.refl _ _) | (with_reducible assumption) | (with_reducible refine Below.drew ?_) | ((with_reducible refine Below.alloc ?_ ?_ _); rotate_left; (first | (with_reducible exact Nat.zero_le _) | (with_reducible exact Nat.le_refl _) | omega | (dsimp only; omega) | (simp only [World.size_alloc, World.size_setCell, World.size_drew]; omega))) | ((with_reducible refine Below.setCell ?_ ?_ _); rotate_left; (first | (with_reducible exact Nat.zero_le _) | (with_reducible exact Nat.le_refl _) | omega | (dsimp only; omega) | (simp only [World.size_alloc, World.size_setCell, World.size_drew]; omega)))))
  replace R5 := R5.step (w' := w5.alloc (.cells #[.int .i64 3, .int .i64 0, .int .i64 0, .int .i64 0, .int .i64 0] 31)) (by repeat (first | (with_reducible exact Below.refl _ _) | (with_reducible assumption) | (with_reducible refine Below.drew ?_) | ((with_reducible refine Below.alloc ?_ ?_ _); rotate_left; (first | (with_reducible exact Nat.zero_le _) | (with_reducible exact Nat.le_refl _) | omega | (dsimp only; omega) | (simp only [World.size_alloc, World.size_setCell, World.size_drew]; omega))) | ((with_reducible refine Below.setCell ?_ ?_ _); rotate_left; (first | (with_reducible exact Nat.zero_le _) | (with_reducible exact Nat.le_refl _) | omega | (dsimp only; omega) | (simp only [World.size_alloc, World.size_setCell, World.size_drew]; omega)))))
  replace BL := BL.alloc (.cells #[.int .i64 3, .int .i64 0, .int .i64 0, .int .i64 0, .int .i64 0] 31)
  replace hb := hb.alloc hb.size (.cells #[.int .i64 3, .int .i64 0, .int .i64 0, .int .i64 0, .int .i64 0] 31)
  refine (base_any (RowIn.of_blk (l := [⟨3, 0, 0, 0, 0⟩]) encT_len BS (by rfl) (by simp [maxLen])) 2 5).mono ?_
  rintro e w6 ⟨v6, rfl, R6, hb6⟩
  rw [F11.out]
  clear R6 BS
  replace R1 := R1.step hb6
  replace R5 := R5.step hb6
  replace BL := BL.step hb6
  replace hb := hb.trans (hb6.mono hb.size)
  go_wp2_with fail
  refine (check_any (RowIn.of_blk (l := [at0, at1]) encT_len BL (by rfl) (by simp [maxLen]))).mono ?_
  rintro e w7 ⟨rfl, hb7⟩
  rw [F12.out]
  replace R1 := R1.step hb7
  replace R5 := R5.step hb7
  replace hb := hb.trans (hb7.mono hb.size)
  go_wp2_with fail
  refine (check_any (RowIn.nil _ _ _)).mono ?_
  rintro e w8 ⟨rfl, hb8⟩
  rw [F13.out]
  replace R1 := R1.step hb8
  replace R5 := R5.step hb8
  replace hb := hb.trans (hb8.mono hb.size)
  go_wp2_with fail
  have B9 := Blk.new w8 49 #[.int .i64 1, .int .i64 0, .int .i64 2, .int .i64 10, .int .i64 20, .int .i64 1, .int .i64 1, .int .i64 3, .int .i64 12, .int .i64 36]
  have hs9 : Below w8.heap.size w8 (w8.alloc (.cells #[.int .i64 1, .int .i64 0, .int .i64 2, .int .i64 10, .int .i64 20, .int .i64 1, .int .i64 1, .int .i64 3, .int .i64 12, .int .i64 36] 49)) := by repeat (first | (with_reducible exact Below.refl _ _) | (with_reducible assumption) | (with_reducible refine Below.drew ?_) | ((with_reducible refine Below.alloc ?_ ?_ _); rotate_left; (first | (with_reducible exact Nat.zero_le _) | (with_reducible exact Nat.le_refl _) | omega | (dsimp only; omega) | (simp only [World.size_alloc, World.size_setCell, World.size_drew]; omega))) | ((with_reducible refine Below.setCell ?_ ?_ _); rotate_left; (first | (with_reducible exact Nat.zero_le _) | (with_reducible exact Nat.le_refl _) | omega | (dsimp only; omega) | (simp only [World.size_alloc, World.size_setCell, World.size_drew]; omega))))
  refine (same_any (R1.step hs9) (RowIn.of_blk (l := [⟨1, 0, 2, 10, 20⟩, ⟨1, 1, 3, 12, 36⟩]) encI_len B9 (by rfl) (by simp [maxLen]))).mono ?_
  rintro e w10 ⟨rfl, hb10⟩
  replace R5 := (R5.step hs9).step hb10
  replace hb := (hb.trans (hs9.mono hb.size)).trans (hb10.mono (Nat.le_trans hb.size hs9.size))
  clear B9 hs9 R1
  go_wp2_with fail
  have B9 := Blk.new w10 49 #[.int .i64 2, .int .i64 9, .int .i64 1, .int .i64 150, .int .i64 150, .int .i64 3, .int .i64 9, .int .i64 7, .int .i64 20, .int .i64 140]
  have hs9 : Below w10.heap.size w10 (w10.alloc (.cells #[.int .i64 2, .int .i64 9, .int .i64 1, .int .i64 150, .int .i64 150, .int .i64 3, .int .i64 9, .int .i64 7, .int .i64 20, .int .i64 140] 49)) := by repeat (first | (with_reducible exact Below.refl _ _) | (with_reducible assumption) | (with_reducible refine Below.drew ?_) | ((with_reducible refine Below.alloc ?_ ?_ _); rotate_left; (first | (with_reducible exact Nat.zero_le _) | (with_reducible exact Nat.le_refl _) | omega | (dsimp only; omega) | (simp only [World.size_alloc, World.size_setCell, World.size_drew]; omega))) | ((with_reducible refine Below.setCell ?_ ?_ _); rotate_left; (first | (with_reducible exact Nat.zero_le _) | (with_reducible exact Nat.le_refl _) | omega | (dsimp only; omega) | (simp only [World.size_alloc, World.size_setCell, World.size_drew]; omega))))
  refine (same_any (R5.step hs9) (RowIn.of_blk (l := [⟨2, 9, 1, 150, 150⟩, ⟨3, 9, 7, 20, 140⟩]) encI_len B9 (by rfl) (by simp [maxLen]))).mono ?_
  rintro e w11 ⟨rfl, hb11⟩
  replace hb := (hb.trans (hs9.mono hb.size)).trans (hb11.mono (Nat.le_trans hb.size hs9.size))
  clear B9 hs9 R5
  go_wp2_with fail
  go_ret
  exact ⟨by simp, hb⟩

end Go.Proofs.Ytaidcdcikjbjjaa
