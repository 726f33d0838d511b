/- Contract: the example of the law, two exact scales in conflict. -/
import Derived.Test.YtapfihlfnaebhaaCalH
import Derived.Test.YtapfihlfnaebhaaMeaE
namespace Go.Proofs.Ytapfihlfnaebhaa
set_option linter.unusedVariables false
set_option linter.unusedSimpArgs false
open Go.RowKit

theorem RowIn.of_blkM {α : Type} {w : World} {g : Nat} {t : TypeId} {cs : Array Value} {C : Nat} {f : α → List Value} {l : List α} (hf : ∀ a, (f a).length = C) (hB : Blk w g t cs) (hcs : cs.toList = l.flatMap f) (hl : l.length ≤ maxLen) :
    RowIn w (.slice (some ⟨g, 0, none⟩) l.length l.length) C f l := by
  have hn : (l.flatMap f).length = l.length * C := rowOf_length hf l
  refine RowIn.of_own (base := 0) (e := t) hf ⟨hn, .inr ⟨g, l.length, cs, rfl, Nat.zero_le _, hB, Nat.le_refl _, hl, ?_, ?_⟩⟩
  · rw [← Array.length_toList, hcs, hn]
  · rw [hcs, ← hn, List.take_length]
theorem encS_lenM (s : Sc) : (encS s).length = 6 := rfl
theorem encQ_lenM (s : Pr) : (encQ s).length = 5 := rfl
def ySc : Sc := ⟨1, 1000, 0, 0, 0, 0⟩
def yS : List Sc := [ySc, ySc]
def yL : List Pr := [⟨0, 1, 5, 6, 0⟩]
theorem yTrue {n : Int} (h0 : 0 ≤ n) (h1 : n ≤ 1000) (ht : trnS ySc n 0 = 0) : loS ySc n 0 = n ∧ hiS ySc n 0 = n := by
  have h : TrueIs 1 0 0 0 0 n 0 n n := by
    refine ⟨by omega, by omega, by omega, by omega, fun m h0 h1 => ?_⟩
    rw [nearB_iff]
    unfold bnd begun
    omega
  obtain ⟨e1, e2⟩ := tSpan_eq h
  constructor
  · exact (if_pos ht).trans e1
  · exact (if_pos ht).trans e2
theorem yE : conE yS yL = 0 := by decide
theorem yC : conL yS yL = [0] := by
  obtain ⟨a1, a2⟩ := yTrue (n := 5) (by omega) (by omega) (by decide)
  obtain ⟨b1, b2⟩ := yTrue (n := 6) (by omega) (by omega) (by decide)
  have p0 : prC yS ⟨0, 1, 5, 6, 0⟩ = true := (prC_iff _ _).2 (.inl (by show hiS ySc 5 0 < loS ySc 6 0; rw [a2, b1]; decide))
  unfold conL
  rw [if_pos yE]
  show conTo yS yL 1 = _
  simp only [conTo, yL, List.getD_cons_zero, p0, if_true]
  rfl
theorem yP : conP yS yL = [(0, 1)] := by unfold conP; rw [yC]; decide
theorem ySus : susL yS yL = [0] := by unfold susL; rw [yP, yC, if_neg (by decide)]; decide
set_option maxRecDepth 100000 in
set_option maxHeartbeats 8000000 in
theorem awakeM_any (w : World) : Calls Try.prog 17 #[] w fun e w' => e = .returned (.bool true) ∧ Below w.heap.size w w' := by
  have hco := fun w vs vl hs hl => conflicts_any (w := w) (vs := vs) (vl := vl) (S := yS) (l := yL) hs hl
  have hsu := fun w vs vl hs hl => suspects_any (w := w) (vs := vs) (vl := vl) (S := yS) (l := yL) hs hl
  rw [yC, yE] at hco
  rw [ySus, yE] at hsu
  have BA := Blk.new w 23 #[.int .i64 1, .int .i64 1000, .int .i64 0, .int .i64 0, .int .i64 0, .int .i64 0]
  have BB := Blk.new (w.alloc (.cells #[.int .i64 1, .int .i64 1000, .int .i64 0, .int .i64 0, .int .i64 0, .int .i64 0] 23)) 23 #[.int .i64 1, .int .i64 1000, .int .i64 0, .int .i64 0, .int .i64 0, .int .i64 0, .int .i64 1, .int .i64 1000, .int .i64 0, .int .i64 0, .int .i64 0, .int .i64 0]
  simp only [World.size_alloc] at BB
  have BC := Blk.new ((w.alloc (.cells #[.int .i64 1, .int .i64 1000, .int .i64 0, .int .i64 0, .int .i64 0, .int .i64 0] 23)).alloc (.cells #[.int .i64 1, .int .i64 1000, .int .i64 0, .int .i64 0, .int .i64 0, .int .i64 0, .int .i64 1, .int .i64 1000, .int .i64 0, .int .i64 0, .int .i64 0, .int .i64 0] 23)) 61 #[.int .i64 0, .int .i64 1, .int .i64 5, .int .i64 6, .int .i64 0]
  simp only [World.size_alloc] at BC
  have hb : Below w.heap.size w (((w.alloc (.cells #[.int .i64 1, .int .i64 1000, .int .i64 0, .int .i64 0, .int .i64 0, .int .i64 0] 23)).alloc (.cells #[.int .i64 1, .int .i64 1000, .int .i64 0, .int .i64 0, .int .i64 0, .int .i64 0, .int .i64 1, .int .i64 1000, .int .i64 0, .int .i64 0, .int .i64 0, .int .i64 0] 23)).alloc (.cells #[.int .i64 0, .int .i64 1, .int .i64 5, .int .i64 6, .int .i64 0] 61)) := by repeat (first | (with_reducible exact Below.refl _ _) | (with_reducible assumption) | (with_reducible refine Below.drew ?_) | ((with_reducible refine Below.alloc ?_ ?_ _); rotate_left; (first | (with_reducible exact Nat.zero_le _) | (with_reducible exact Nat.le_refl _) | omega | (dsimp only; omega) | (simp only [World.size_alloc, World.size_setCell, World.size_drew]; omega))) | ((with_reducible refine Below.setCell ?_ ?_ _); rotate_left; (first | (with_reducible exact Nat.zero_le _) | (with_reducible exact Nat.le_refl _) | omega | (dsimp only; omega) | (simp only [World.size_alloc, World.size_setCell, World.size_drew]; omega))))
  replace BB := BB.alloc (.cells #[.int .i64 0, .int .i64 1, .int .i64 5, .int .i64 6, .int .i64 0] 61)
  replace BA := (BA.alloc (.cells #[.int .i64 1, .int .i64 1000, .int .i64 0, .int .i64 0, .int .i64 0, .int .i64 0, .int .i64 1, .int .i64 1000, .int .i64 0, .int .i64 0, .int .i64 0, .int .i64 0] 23)).alloc (.cells #[.int .i64 0, .int .i64 1, .int .i64 5, .int .i64 6, .int .i64 0] 61)
  have RS : RowIn _ (.slice (some ⟨w.heap.size + 1, 0, none⟩) 2 2) 6 encS yS := RowIn.of_blkM (l := yS) encS_lenM BB rfl (by simp [maxLen, yS])
  have RL : RowIn _ (.slice (some ⟨w.heap.size + 1 + 1, 0, none⟩) 1 1) 5 encQ yL := RowIn.of_blkM (l := yL) encQ_lenM BC rfl (by simp [maxLen, yL])
  clear BB BC
  go_enter Try.func17, Try.ntmps17
  go_wp2_with fail
  refine (hco _ _ _ RS RL).mono ?_
  rintro e w1 ⟨v1, rfl, R1, hb1⟩
  replace BA := BA.step hb1
  replace hb := hb.trans (hb1.mono hb.size)
  clear hb1 hco RS RL
  obtain ⟨oa, ca, rfl, _, _, _, _⟩ := R1.at_
  have x0 := BA.cell
  have la := BA.lt
  have a0 : w1.cell? ⟨w.heap.size, 0, none⟩ = some (.int .i64 1) := x0 0
  have a1 : w1.cell? ⟨w.heap.size, 1, none⟩ = some (.int .i64 1000) := x0 1
  have a2 : w1.cell? ⟨w.heap.size, 2, none⟩ = some (.int .i64 0) := x0 2
  have a3 : w1.cell? ⟨w.heap.size, 3, none⟩ = some (.int .i64 0) := x0 3
  have a4 : w1.cell? ⟨w.heap.size, 4, none⟩ = some (.int .i64 0) := x0 4
  have a5 : w1.cell? ⟨w.heap.size, 5, none⟩ = some (.int .i64 0) := x0 5
  clear x0
  have BB := Blk.new w1 23 #[.int .i64 1, .int .i64 1000, .int .i64 0, .int .i64 0, .int .i64 0, .int .i64 0, .int .i64 1, .int .i64 1000, .int .i64 0, .int .i64 0, .int .i64 0, .int .i64 0]
  have BC := Blk.new (w1.alloc (.cells #[.int .i64 1, .int .i64 1000, .int .i64 0, .int .i64 0, .int .i64 0, .int .i64 0, .int .i64 1, .int .i64 1000, .int .i64 0, .int .i64 0, .int .i64 0, .int .i64 0] 23)) 61 #[.int .i64 0, .int .i64 1, .int .i64 5, .int .i64 6, .int .i64 0]
  simp only [World.size_alloc] at BC
  have hbq : Below w1.heap.size w1 ((w1.alloc (.cells #[.int .i64 1, .int .i64 1000, .int .i64 0, .int .i64 0, .int .i64 0, .int .i64 0, .int .i64 1, .int .i64 1000, .int .i64 0, .int .i64 0, .int .i64 0, .int .i64 0] 23)).alloc (.cells #[.int .i64 0, .int .i64 1, .int .i64 5, .int .i64 6, .int .i64 0] 61)) := by repeat (first | (with_reducible exact Below.refl _ _) | (with_reducible assumption) | (with_reducible refine Below.drew ?_) | ((with_reducible refine Below.alloc ?_ ?_ _); rotate_left; (first | (with_reducible exact Nat.zero_le _) | (with_reducible exact Nat.le_refl _) | omega | (dsimp only; omega) | (simp only [World.size_alloc, World.size_setCell, World.size_drew]; omega))) | ((with_reducible refine Below.setCell ?_ ?_ _); rotate_left; (first | (with_reducible exact Nat.zero_le _) | (with_reducible exact Nat.le_refl _) | omega | (dsimp only; omega) | (simp only [World.size_alloc, World.size_setCell, World.size_drew]; omega))))
  replace BB := BB.alloc (.cells #[.int .i64 0, .int .i64 1, .int .i64 5, .int .i64 6, .int .i64 0] 61)
  have RS : RowIn _ (.slice (some ⟨w1.heap.size, 0, none⟩) 2 2) 6 encS yS := RowIn.of_blkM (l := yS) encS_lenM BB rfl (by simp [maxLen, yS])
  have RL : RowIn _ (.slice (some ⟨w1.heap.size + 1, 0, none⟩) 1 1) 5 encQ yL := RowIn.of_blkM (l := yL) encQ_lenM BC rfl (by simp [maxLen, yL])
  replace hb := hb.trans (hbq.mono hb.size)
  clear BB BC hbq
  go_wp2_with fail
  refine (hsu _ _ _ RS RL).mono ?_
  rintro e w2 ⟨v2, rfl, R2, hb2⟩
  replace hb := hb.trans (hb2.mono hb.size)
  clear hb2 hsu RS RL a0 a1 a2 a3 a4 a5 la BA
  obtain ⟨ob, cb, rfl, _, _, _, r5⟩ := R2.at_
  obtain ⟨g, go, rfl, hgz, hc⟩ := r5 (by simp)
  have c0 : w2.cell? ⟨g, go, none⟩ = some (.int .i64 0) := by simpa [encN] using hc 0 0 rfl 0 (by omega)
  clear hc r5
  go_wp2_with fail
  go_ret
  exact ⟨rfl, hb⟩

end Go.Proofs.Ytapfihlfnaebhaa
