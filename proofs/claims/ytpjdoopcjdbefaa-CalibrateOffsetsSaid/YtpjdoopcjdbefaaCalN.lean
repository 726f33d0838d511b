/- Contract: the examples of chapter 29. -/
import Derived.Test.YtpjdoopcjdbefaaCalH
import Derived.Test.YtpjdoopcjdbefaaCalL
import Derived.Test.YtpjdoopcjdbefaaCalM
namespace Go.Proofs.Ytpjdoopcjdbefaa
set_option linter.unusedVariables false
set_option linter.unusedSimpArgs false
open Go.RowKit

theorem RowIn.of_blk {α : Type} {w : World} {g : Nat} {t : TypeId} {cs : Array Value} {C : Nat} {f : α → List Value} {l : List α} (hf : ∀ a, (f a).length = C) (hB : Blk w g t cs) (hcs : cs.toList = l.flatMap f) (hl : l.length ≤ maxLen) :
    RowIn w (.slice (some ⟨g, 0, none⟩) l.length l.length) C f l := by
  have hn : (l.flatMap f).length = l.length * C := rowOf_length hf l
  refine RowIn.of_own (base := 0) (e := t) hf ⟨hn, .inr ⟨g, l.length, cs, rfl, Nat.zero_le _, hB, Nat.le_refl _, hl, ?_, ?_⟩⟩
  · rw [← Array.length_toList, hcs, hn]
  · rw [hcs, ← hn, List.take_length]
theorem encS_len (s : Sc) : (encS s).length = 6 := rfl
theorem encQ_len (s : Pr) : (encQ s).length = 5 := rfl
theorem encK_len (s : Kn) : (encK s).length = 3 := rfl

def xSc : Sc := ⟨10, 10000, 20, 0, 0, 0⟩
def xS : List Sc := [xSc, xSc, xSc, xSc]
def xL : List Pr := [⟨0, 2, 1000, 1060, 0⟩, ⟨1, 2, 1000, 1060, 0⟩, ⟨1, 3, 1000, 1050, 0⟩, ⟨1, 3, 1060, 1000, 0⟩]
theorem xTrue {n : Int} (h0 : 25 ≤ n) (h1 : n ≤ 100000) (ht : trnS xSc n 0 = 0) : loS xSc n 0 = n - 25 ∧ hiS xSc n 0 = n + 25 := by
  have h : TrueIs 10 20 0 0 0 n 0 (n - 25) (n + 25) := by
    refine ⟨by omega, by omega, by omega, by omega, fun m h0 h1 => ?_⟩
    rw [nearB_iff]
    unfold bnd begun
    omega
  obtain ⟨e1, e2⟩ := tSpan_eq h
  constructor
  · exact (if_pos ht).trans e1
  · exact (if_pos ht).trans e2
theorem xE : conE xS xL = 0 := by decide
theorem xC : conL xS xL = [0, 1, 3] := by
  obtain ⟨a1, a2⟩ := xTrue (n := 1000) (by omega) (by omega) (by decide)
  obtain ⟨b1, b2⟩ := xTrue (n := 1060) (by omega) (by omega) (by decide)
  obtain ⟨c1, c2⟩ := xTrue (n := 1050) (by omega) (by omega) (by decide)
  have p0 : prC xS ⟨0, 2, 1000, 1060, 0⟩ = true := (prC_iff _ _).2 (.inl (by show hiS xSc 1000 0 < loS xSc 1060 0; rw [a2, b1]; decide))
  have p1 : prC xS ⟨1, 2, 1000, 1060, 0⟩ = true := (prC_iff _ _).2 (.inl (by show hiS xSc 1000 0 < loS xSc 1060 0; rw [a2, b1]; decide))
  have p2 : prC xS ⟨1, 3, 1000, 1050, 0⟩ = false := Bool.eq_false_iff.2 fun h => by
    rcases (prC_iff _ _).1 h with h | h
    · have h : hiS xSc 1000 0 < loS xSc 1050 0 := h
      rw [a2, c1] at h; omega
    · have h : hiS xSc 1050 0 < loS xSc 1000 0 := h
      rw [c2, a1] at h; omega
  have p3 : prC xS ⟨1, 3, 1060, 1000, 0⟩ = true := (prC_iff _ _).2 (.inr (by show hiS xSc 1000 0 < loS xSc 1060 0; rw [a2, b1]; decide))
  unfold conL
  rw [if_pos xE]
  show conTo xS xL 4 = _
  simp only [conTo, xL, List.getD_cons_succ, List.getD_cons_zero, p0, p1, p2, p3, if_true, Bool.false_eq_true, if_false]
  rfl
theorem xP : conP xS xL = [(0, 2), (1, 2), (1, 3)] := by unfold conP; rw [xC]; decide
theorem xSus : susL xS xL = [0, 1] := by unfold susL; rw [xP, xC, if_neg (by decide)]; decide
theorem xOE : offE xSc [⟨0, 1000, 1030⟩] = 0 := by decide
theorem xOS : offS xSc [⟨0, 1000, 1030⟩] = ⟨5, 55⟩ := by decide
theorem xUE : untE ⟨10, 10000, 20, 0, 5, 100⟩ 31 = 0 := by decide
theorem xUV : untV ⟨10, 10000, 20, 0, 5, 100⟩ 31 = 172900 := by decide

set_option maxRecDepth 100000 in
set_option maxHeartbeats 8000000 in
theorem awake29_any (w : World) : Calls Try.prog 12 #[] w fun e w' => e = .returned (.bool true) ∧ Below w.heap.size w w' := by
  have hco := fun w vs vl hs hl => conflicts_any (w := w) (vs := vs) (vl := vl) (S := xS) (l := xL) hs hl
  have hsu := fun w vs vl hs hl => suspects_any (w := w) (vs := vs) (vl := vl) (S := xS) (l := xL) hs hl
  rw [xC, xE] at hco
  rw [xSus, xE] at hsu
  have hof := fun w v hl => offset_any (w := w) (v := v) xSc (l := [⟨0, 1000, 1030⟩]) hl
  rw [xOS, xOE] at hof
  have hun := fun w => until_any ⟨10, 10000, 20, 0, 5, 100⟩ 31 w
  rw [xUV, xUE] at hun
  have BA := Blk.new w 32 #[.int .i64 10, .int .i64 10000, .int .i64 20, .int .i64 0, .int .i64 0, .int .i64 0]
  have BB := Blk.new (w.alloc (.cells #[.int .i64 10, .int .i64 10000, .int .i64 20, .int .i64 0, .int .i64 0, .int .i64 0] 32)) 32 #[.int .i64 10, .int .i64 10000, .int .i64 20, .int .i64 0, .int .i64 0, .int .i64 0, .int .i64 10, .int .i64 10000, .int .i64 20, .int .i64 0, .int .i64 0, .int .i64 0, .int .i64 10, .int .i64 10000, .int .i64 20, .int .i64 0, .int .i64 0, .int .i64 0, .int .i64 10, .int .i64 10000, .int .i64 20, .int .i64 0, .int .i64 0, .int .i64 0]
  simp only [World.size_alloc] at BB
  have BC := Blk.new ((w.alloc (.cells #[.int .i64 10, .int .i64 10000, .int .i64 20, .int .i64 0, .int .i64 0, .int .i64 0] 32)).alloc (.cells #[.int .i64 10, .int .i64 10000, .int .i64 20, .int .i64 0, .int .i64 0, .int .i64 0, .int .i64 10, .int .i64 10000, .int .i64 20, .int .i64 0, .int .i64 0, .int .i64 0, .int .i64 10, .int .i64 10000, .int .i64 20, .int .i64 0, .int .i64 0, .int .i64 0, .int .i64 10, .int .i64 10000, .int .i64 20, .int .i64 0, .int .i64 0, .int .i64 0] 32)) 44 #[.int .i64 0, .int .i64 2, .int .i64 1000, .int .i64 1060, .int .i64 0, .int .i64 1, .int .i64 2, .int .i64 1000, .int .i64 1060, .int .i64 0, .int .i64 1, .int .i64 3, .int .i64 1000, .int .i64 1050, .int .i64 0, .int .i64 1, .int .i64 3, .int .i64 1060, .int .i64 1000, .int .i64 0]
  simp only [World.size_alloc] at BC
  have hb : Below w.heap.size w (((w.alloc (.cells #[.int .i64 10, .int .i64 10000, .int .i64 20, .int .i64 0, .int .i64 0, .int .i64 0] 32)).alloc (.cells #[.int .i64 10, .int .i64 10000, .int .i64 20, .int .i64 0, .int .i64 0, .int .i64 0, .int .i64 10, .int .i64 10000, .int .i64 20, .int .i64 0, .int .i64 0, .int .i64 0, .int .i64 10, .int .i64 10000, .int .i64 20, .int .i64 0, .int .i64 0, .int .i64 0, .int .i64 10, .int .i64 10000, .int .i64 20, .int .i64 0, .int .i64 0, .int .i64 0] 32)).alloc (.cells #[.int .i64 0, .int .i64 2, .int .i64 1000, .int .i64 1060, .int .i64 0, .int .i64 1, .int .i64 2, .int .i64 1000, .int .i64 1060, .int .i64 0, .int .i64 1, .int .i64 3, .int .i64 1000, .int .i64 1050, .int .i64 0, .int .i64 1, .int .i64 3, .int .i64 1060, .int .i64 1000, .int .i64 0] 44)) := by repeat (first | (with_reducible exact Below.refl _ _) | (with_reducible assumption) | (with_reducible refine Below.drew ?_) | ((with_reducible refine Below.alloc ?_ ?_ _); rotate_left; (first | (with_reducible exact Nat.zero_le _) | (with_reducible exact Nat.le_refl _) | omega | (dsimp only; omega) | (simp only [World.size_alloc, World.size_setCell, World.size_drew]; omega))) | ((with_reducible refine Below.setCell ?_ ?_ _); rotate_left; (first | (with_reducible exact Nat.zero_le _) | (with_reducible exact Nat.le_refl _) | omega | (dsimp only; omega) | (simp only [World.size_alloc, World.size_setCell, World.size_drew]; omega))))
  replace BB := BB.alloc (.cells #[.int .i64 0, .int .i64 2, .int .i64 1000, .int .i64 1060, .int .i64 0, .int .i64 1, .int .i64 2, .int .i64 1000, .int .i64 1060, .int .i64 0, .int .i64 1, .int .i64 3, .int .i64 1000, .int .i64 1050, .int .i64 0, .int .i64 1, .int .i64 3, .int .i64 1060, .int .i64 1000, .int .i64 0] 44)
  replace BA := (BA.alloc (.cells #[.int .i64 10, .int .i64 10000, .int .i64 20, .int .i64 0, .int .i64 0, .int .i64 0, .int .i64 10, .int .i64 10000, .int .i64 20, .int .i64 0, .int .i64 0, .int .i64 0, .int .i64 10, .int .i64 10000, .int .i64 20, .int .i64 0, .int .i64 0, .int .i64 0, .int .i64 10, .int .i64 10000, .int .i64 20, .int .i64 0, .int .i64 0, .int .i64 0] 32)).alloc (.cells #[.int .i64 0, .int .i64 2, .int .i64 1000, .int .i64 1060, .int .i64 0, .int .i64 1, .int .i64 2, .int .i64 1000, .int .i64 1060, .int .i64 0, .int .i64 1, .int .i64 3, .int .i64 1000, .int .i64 1050, .int .i64 0, .int .i64 1, .int .i64 3, .int .i64 1060, .int .i64 1000, .int .i64 0] 44)
  have RS : RowIn _ (.slice (some ⟨w.heap.size + 1, 0, none⟩) 4 4) 6 encS xS := RowIn.of_blk (l := xS) encS_len BB rfl (by simp [maxLen, xS])
  have RL : RowIn _ (.slice (some ⟨w.heap.size + 1 + 1, 0, none⟩) 4 4) 5 encQ xL := RowIn.of_blk (l := xL) encQ_len BC rfl (by simp [maxLen, xL])
  clear BB BC
  go_enter Try.func12, Try.ntmps12
  go_wp2_with fail
  refine (hco _ _ _ RS RL).mono ?_
  rintro e w1 ⟨v1, rfl, R1, hb1⟩
  replace BA := BA.step hb1
  replace RS := RS.step hb1
  replace RL := RL.step hb1
  replace hb := hb.trans (hb1.mono hb.size)
  clear hb1 hco
  go_wp2_with fail
  refine (hsu _ _ _ RS RL).mono ?_
  rintro e w2 ⟨v2, rfl, R2, hb2⟩
  replace BA := BA.step hb2
  replace R1 := R1.step hb2
  replace hb := hb.trans (hb2.mono hb.size)
  clear hb2 hsu RS RL
  have ca := BA.cell
  have la := BA.lt
  have BK := Blk.new w2 49 #[.int .i64 0, .int .i64 1000, .int .i64 1030]
  have hbk : Below w2.heap.size w2 (w2.alloc (.cells #[.int .i64 0, .int .i64 1000, .int .i64 1030] 49)) := by repeat (first | (with_reducible exact Below.refl _ _) | (with_reducible assumption) | (with_reducible refine Below.drew ?_) | ((with_reducible refine Below.alloc ?_ ?_ _); rotate_left; (first | (with_reducible exact Nat.zero_le _) | (with_reducible exact Nat.le_refl _) | omega | (dsimp only; omega) | (simp only [World.size_alloc, World.size_setCell, World.size_drew]; omega))) | ((with_reducible refine Below.setCell ?_ ?_ _); rotate_left; (first | (with_reducible exact Nat.zero_le _) | (with_reducible exact Nat.le_refl _) | omega | (dsimp only; omega) | (simp only [World.size_alloc, World.size_setCell, World.size_drew]; omega))))
  have RK : RowIn _ (.slice (some ⟨w2.heap.size, 0, none⟩) 1 1) 3 encK [⟨0, 1000, 1030⟩] := RowIn.of_blk (l := [⟨0, 1000, 1030⟩]) encK_len BK rfl (by simp [maxLen])
  replace R1 := R1.step hbk
  replace R2 := R2.step hbk
  replace hb := hb.trans (hbk.mono hb.size)
  go_wp2_with fail
  refine (hof _ _ RK).mono ?_
  rintro e w3 ⟨rfl, hb3⟩
  replace R1 := R1.step hb3
  replace R2 := R2.step hb3
  replace hb := hb.trans (hb3.mono hb.size)
  clear hb3 hof RK BK hbk ca la BA
  have BO := Blk.new w3 35 #[.int .i64 5, .int .i64 55]
  have hbo : Below w3.heap.size w3 (w3.alloc (.cells #[.int .i64 5, .int .i64 55] 35)) := by repeat (first | (with_reducible exact Below.refl _ _) | (with_reducible assumption) | (with_reducible refine Below.drew ?_) | ((with_reducible refine Below.alloc ?_ ?_ _); rotate_left; (first | (with_reducible exact Nat.zero_le _) | (with_reducible exact Nat.le_refl _) | omega | (dsimp only; omega) | (simp only [World.size_alloc, World.size_setCell, World.size_drew]; omega))) | ((with_reducible refine Below.setCell ?_ ?_ _); rotate_left; (first | (with_reducible exact Nat.zero_le _) | (with_reducible exact Nat.le_refl _) | omega | (dsimp only; omega) | (simp only [World.size_alloc, World.size_setCell, World.size_drew]; omega))))
  replace R1 := R1.step hbo
  replace R2 := R2.step hbo
  replace hb := hb.trans (hbo.mono hb.size)
  go_wp2_with fail
  refine (hun _).mono ?_
  rintro e w4 ⟨rfl, hb4⟩
  replace R1 := R1.step hb4
  replace R2 := R2.step hb4
  replace BO := BO.step hb4
  replace hb := hb.trans (hb4.mono hb.size)
  clear hb4 hun hbo
  have hb5 : Below w4.heap.size w4 (w4.alloc (.cells #[.int .i64 0, .int .i64 1, .int .i64 3] 3)) := by repeat (first | (with_reducible exact Below.refl _ _) | (with_reducible assumption) | (with_reducible refine Below.drew ?_) | ((with_reducible refine Below.alloc ?_ ?_ _); rotate_left; (first | (with_reducible exact Nat.zero_le _) | (with_reducible exact Nat.le_refl _) | omega | (dsimp only; omega) | (simp only [World.size_alloc, World.size_setCell, World.size_drew]; omega))) | ((with_reducible refine Below.setCell ?_ ?_ _); rotate_left; (first | (with_reducible exact Nat.zero_le _) | (with_reducible exact Nat.le_refl _) | omega | (dsimp only; omega) | (simp only [World.size_alloc, World.size_setCell, World.size_drew]; omega))))
  have R5 : RowIn (w4.alloc (.cells #[.int .i64 0, .int .i64 1, .int .i64 3] 3)) (.slice (some ⟨w4.heap.size, 0, none⟩) 3 3) 1 encN [0, 1, 3] := RowIn.of_blk (l := [0, 1, 3]) encN_len (Blk.new w4 3 #[.int .i64 0, .int .i64 1, .int .i64 3]) rfl (by simp [maxLen])
  have hi1 := rints_any (R1.step hb5) R5
  rw [decide_eq_true rfl] at hi1
  replace R2 := R2.step hb5
  replace BO := BO.step hb5
  replace hb := hb.trans (hb5.mono hb.size)
  clear hb5 R5 R1
  go_wp2_with fail
  refine hi1.mono ?_
  rintro e w5 ⟨rfl, hb5⟩
  replace R2 := R2.step hb5
  replace BO := BO.step hb5
  replace hb := hb.trans (hb5.mono hb.size)
  clear hb5 hi1
  have hb6 : Below w5.heap.size w5 (w5.alloc (.cells #[.int .i64 0, .int .i64 1] 3)) := by repeat (first | (with_reducible exact Below.refl _ _) | (with_reducible assumption) | (with_reducible refine Below.drew ?_) | ((with_reducible refine Below.alloc ?_ ?_ _); rotate_left; (first | (with_reducible exact Nat.zero_le _) | (with_reducible exact Nat.le_refl _) | omega | (dsimp only; omega) | (simp only [World.size_alloc, World.size_setCell, World.size_drew]; omega))) | ((with_reducible refine Below.setCell ?_ ?_ _); rotate_left; (first | (with_reducible exact Nat.zero_le _) | (with_reducible exact Nat.le_refl _) | omega | (dsimp only; omega) | (simp only [World.size_alloc, World.size_setCell, World.size_drew]; omega))))
  have R6 : RowIn (w5.alloc (.cells #[.int .i64 0, .int .i64 1] 3)) (.slice (some ⟨w5.heap.size, 0, none⟩) 2 2) 1 encN [0, 1] := RowIn.of_blk (l := [0, 1]) encN_len (Blk.new w5 3 #[.int .i64 0, .int .i64 1]) rfl (by simp [maxLen])
  have hi2 := rints_any (R2.step hb6) R6
  rw [decide_eq_true rfl] at hi2
  replace BO := BO.step hb6
  replace hb := hb.trans (hb6.mono hb.size)
  clear hb6 R6 R2
  go_wp2_with fail
  refine hi2.mono ?_
  rintro e w7 ⟨rfl, hb7⟩
  replace BO := BO.step hb7
  replace hb := hb.trans (hb7.mono hb.size)
  have co := BO.cell
  have lo := BO.lt
  go_wp2_with fail
  go_ret
  exact ⟨by first | rfl | simp, hb⟩

end Go.Proofs.Ytpjdoopcjdbefaa
