/- Contract: the common part of intervals. -/
import Derived.Test.YtpjdoopcjdbefaaCalA
import Derived.BigQuiet
import Derived.BigRegion
namespace Go.Proofs.Ytpjdoopcjdbefaa
set_option linter.unusedVariables false
set_option linter.unusedSimpArgs false
open Go.RowKit

def spM : Sp := ⟨-70368744177664, 70368744177664⟩
def comS (l : List Sp) : Sp := endsV maxi mini spM l
theorem comS_take {l : List Sp} {k : Nat} {x : Sp} (h : l[k]? = some x) : comS (l.take (k + 1)) = ⟨maxi (comS (l.take k)).lo x.lo, mini (comS (l.take k)).hi x.hi⟩ := endsV_take _ _ _ h
def CmRel (w : World) (g1 g2 : Nat) (l : List Sp) (i : Value) (wr : World) : Prop := ∃ k : Nat, k ≤ l.length ∧ i = .int .i64 k ∧ Below w.heap.size w wr ∧ Blk wr g1 35 #[.int .i64 0, .int .i64 0] ∧ Blk wr g2 35 #[.int .i64 (comS (l.take k)).lo, .int .i64 (comS (l.take k)).hi]
set_option maxRecDepth 100000 in
set_option maxHeartbeats 8000000 in
theorem common_any {w : World} {v : Value} {l : List Sp} (hl : RowIn w v 2 encP l) : Calls Try.prog 36 #[v] w fun e w' => e = .returned (.tuple #[.agg #[.int .i64 (comS l).lo, .int .i64 (comS l).hi], .bool (decide ((comS l).lo ≤ (comS l).hi))]) ∧ Below w.heap.size w w' := by
  obtain ⟨oa, cap, rfl, l1, l2, _, hl5⟩ := hl.at_
  unfold maxLen at l2
  have HL := Lib.hid hl5
  clear hl5 hl
  have hb0 : Below w.heap.size w ((w.alloc (.cells #[.int .i64 0, .int .i64 0] 35)).alloc (.cells #[.int .i64 (-70368744177664), .int .i64 70368744177664] 35)) := by repeat (first | (with_reducible exact Below.refl _ _) | (with_reducible assumption) | (with_reducible refine Below.drew ?_) | ((with_reducible refine Below.alloc ?_ ?_ _); rotate_left; (first | (with_reducible exact Nat.zero_le _) | (with_reducible exact Nat.le_refl _) | omega | (dsimp only; omega) | (simp only [World.size_alloc, World.size_setCell, World.size_drew]; omega))) | ((with_reducible refine Below.setCell ?_ ?_ _); rotate_left; (first | (with_reducible exact Nat.zero_le _) | (with_reducible exact Nat.le_refl _) | omega | (dsimp only; omega) | (simp only [World.size_alloc, World.size_setCell, World.size_drew]; omega))))
  have B1 : Blk ((w.alloc (.cells #[.int .i64 0, .int .i64 0] 35)).alloc (.cells #[.int .i64 (-70368744177664), .int .i64 70368744177664] 35)) w.heap.size 35 #[.int .i64 0, .int .i64 0] := (Blk.new w 35 #[.int .i64 0, .int .i64 0]).alloc _
  have B2 : Blk ((w.alloc (.cells #[.int .i64 0, .int .i64 0] 35)).alloc (.cells #[.int .i64 (-70368744177664), .int .i64 70368744177664] 35)) (w.heap.size + 1) 35 #[.int .i64 (-70368744177664), .int .i64 70368744177664] := by
    have := Blk.new (w.alloc (.cells #[.int .i64 0, .int .i64 0] 35)) 35 #[.int .i64 (-70368744177664), .int .i64 70368744177664]
    simpa using this
  go_enter Try.func36, Try.ntmps36
  go_wp2_with fail
  go_loopw [10] (fun i wr => CmRel w w.heap.size (w.heap.size + 1) l i wr) (fun i _ => (l.length - intOf i).toNat)
  case atStart => exact ⟨0, Nat.zero_le _, rfl, hb0, B1, B2⟩
  case round =>
    clear hb0 B1 B2
    obtain ⟨k, hk, rfl, hb, B1, B2⟩ := hrel
    have hwz := hb.size
    by_cases hlt : k < l.length
    · have hx := getD_of (d := sp0) hlt
      obtain ⟨ob, oo, rfl, hoz, hoc⟩ := HL.out (by rintro rfl; simp at hlt)
      have ec := hoc k _ hx
      have HT := Lib.hid (comS_take hx)
      clear hx hoc
      generalize l.getD k sp0 = x at *
      have e0 : World.cell? wr ⟨ob, oo + k * 2, none⟩ = some (.int .i64 x.lo) := (hb.cell (p := ⟨ob, oo + k * 2, none⟩) hoz).trans (ec 0 (by omega))
      have e1 : World.cell? wr ⟨ob, oo + k * 2 + 1, none⟩ = some (.int .i64 x.hi) := (hb.cell (p := ⟨ob, oo + k * 2 + 1, none⟩) hoz).trans (ec 1 (by omega))
      have i0 : (0 : Int) ≤ k := by omega
      have i1 : (k : Int) < l.length := by omega
      clear ec
      have B3 := Blk.new wr 35 #[.int .i64 x.lo, .int .i64 x.hi]
      have h32 := B2.lt
      have h31 := B1.lt
      replace B1 := B1.alloc (.cells #[.int .i64 x.lo, .int .i64 x.hi] 35)
      replace B2 := B2.alloc (.cells #[.int .i64 x.lo, .int .i64 x.hi] 35)
      replace hb := hb.alloc hwz (.cells #[.int .i64 x.lo, .int .i64 x.hi] 35)
      generalize comS (l.take k) = A at *
      go_wp2_with fail
      clear e0 e1
      generalize wr.alloc (.cells #[.int .i64 x.lo, .int .i64 x.hi] 35) = wb at *
      generalize wr.heap.size = g3 at *
      have hn1 : g3 ≠ w.heap.size + 1 := by omega
      have hn2 : w.heap.size + 1 ≠ g3 := by omega
      have hn3 : w.heap.size ≠ w.heap.size + 1 := by omega
      have c20 : World.cell? wb ⟨w.heap.size + 1, 0, none⟩ = some (.int .i64 A.lo) := B2.cell 0
      have c21 : World.cell? wb ⟨w.heap.size + 1, 1, none⟩ = some (.int .i64 A.hi) := B2.cell 1
      have c30 : World.cell? wb ⟨g3, 0, none⟩ = some (.int .i64 x.lo) := B3.cell 0
      have c31 : World.cell? wb ⟨g3, 1, none⟩ = some (.int .i64 x.hi) := B3.cell 1
      have f2 := B2.free
      have l2 := B2.lt
      have l3 := B3.lt
      rcases (show A.lo < x.lo ∨ ¬ A.lo < x.lo by omega) with t1 | t1 <;> rcases (show x.hi < A.hi ∨ ¬ x.hi < A.hi by omega) with t2 | t2
      all_goals (
        go_region
        all_goals (
          go_wp2_with fail
          go_roundw
          case measure => simp [intOf]; omega
          case rel =>
            refine ⟨k + 1, hlt, by simp, ?_, ?_, ?_⟩
            · exact (((hb.setCell (p := ⟨w.heap.size + 1, 0, none⟩) (by simp) _).setCell (p := ⟨w.heap.size + 1, 1, none⟩) (by simp) _).drew)
            · exact ((B1.far (p := ⟨w.heap.size + 1, 0, none⟩) (by simp) _).far (p := ⟨w.heap.size + 1, 1, none⟩) (by simp) _).drew
            · rw [HT.out]
              have := ((B2.put 0 (.int .i64 (maxi A.lo x.lo))).put 1 (.int .i64 (mini A.hi x.hi))).drew
              first
                | exact this
                | (rw [show maxi A.lo x.lo = x.lo by unfold maxi; split <;> omega, show mini A.hi x.hi = x.hi by unfold mini; split <;> omega] at this ⊢; exact this)
                | (rw [show maxi A.lo x.lo = x.lo by unfold maxi; split <;> omega, show mini A.hi x.hi = A.hi by unfold mini; split <;> omega] at this ⊢; exact this)
                | (rw [show maxi A.lo x.lo = A.lo by unfold maxi; split <;> omega, show mini A.hi x.hi = x.hi by unfold mini; split <;> omega] at this ⊢; exact this)
                | (rw [show maxi A.lo x.lo = A.lo by unfold maxi; split <;> omega, show mini A.hi x.hi = A.hi by unfold mini; split <;> omega] at this ⊢; exact this)))
    · obtain rfl : k = l.length := by omega
      rw [List.take_length] at B2
      clear hlt hk
      obtain ⟨A, hA⟩ : ∃ A, A = comS l := ⟨_, rfl⟩
      rw [← hA] at B2
      have HA := Lib.hid hA
      clear hA
      have c20 : World.cell? wr ⟨w.heap.size + 1, 0, none⟩ = some (.int .i64 A.lo) := B2.cell 0
      have c21 : World.cell? wr ⟨w.heap.size + 1, 1, none⟩ = some (.int .i64 A.hi) := B2.cell 1
      have c10 : World.cell? wr ⟨w.heap.size, 0, none⟩ = some (.int .i64 0) := B1.cell 0
      have c11 : World.cell? wr ⟨w.heap.size, 1, none⟩ = some (.int .i64 0) := B1.cell 1
      have f1 := B1.free
      have l2 := B2.lt
      have l1' := B1.lt
      rcases (show A.lo ≤ A.hi ∨ ¬ A.lo ≤ A.hi by omega) with t1 | t1
      all_goals (
        go_wp2_with fail
        go_region
        all_goals (
          go_wp2_with fail
          refine bodyPost_ret (v := .tuple #[.agg #[.int .i64 (A).lo, .int .i64 (A).hi], .bool (decide (A.lo ≤ A.hi))]) (by simp only [results, Try.results36]; go_simp; first | done | rfl | (simp [t1]; done)) rfl ⟨by rw [← HA.out], ?_⟩
          first
            | exact ((hb.setCell (p := ⟨w.heap.size, 0, none⟩) (by simp) _).setCell (p := ⟨w.heap.size, 1, none⟩) (by simp) _).drew
            | exact ((hb.drew).setCell (p := ⟨w.heap.size, 0, none⟩) (by simp) _).setCell (p := ⟨w.heap.size, 1, none⟩) (by simp) _
            | repeat (first | (with_reducible exact Below.refl _ _) | (with_reducible assumption) | (with_reducible refine Below.drew ?_) | ((with_reducible refine Below.alloc ?_ ?_ _); rotate_left; (first | (with_reducible exact Nat.zero_le _) | (with_reducible exact Nat.le_refl _) | omega | (dsimp only; omega) | (simp only [World.size_alloc, World.size_setCell, World.size_drew]; omega))) | ((with_reducible refine Below.setCell ?_ ?_ _); rotate_left; (first | (with_reducible exact Nat.zero_le _) | (with_reducible exact Nat.le_refl _) | omega | (dsimp only; omega) | (simp only [World.size_alloc, World.size_setCell, World.size_drew]; omega))))))

end Go.Proofs.Ytpjdoopcjdbefaa
