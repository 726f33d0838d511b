/- Contract: whether there are many lots or parts. -/
import Derived.Test.YtpafcdigcpbbeaaLotQ
namespace Go.Proofs.Ytpafcdigcpbbeaa
set_option linter.unusedVariables false
set_option linter.unusedSimpArgs false
open Go.RowKit

def manyP (L : List Lv) : Bool := L.any fun x => decide (x.parts.length > 20)
def largeB (L : List Lv) : Bool := if L.length > 60 then true else manyP L
def LgRel (w : World) (L : List Lv) (i : Value) (wr : World) : Prop := ∃ k : Nat, k ≤ L.length ∧ i = .int .i64 k ∧ manyP (L.take k) = false ∧ Below w.heap.size w wr
theorem manyP_take {L : List Lv} {k : Nat} {x : Lv} (h : L[k]? = some x) : manyP (L.take (k + 1)) = (manyP (L.take k) || decide (x.parts.length > 20)) := by
  unfold manyP; rw [List.take_add_one, h, List.any_append]; simp
set_option maxRecDepth 100000 in
set_option maxHeartbeats 8000000 in
theorem large_any {w : World} {v : Value} {L : List Lv} (h : LotsIn w v L) : Calls Try.prog 10 #[v] w fun e w' => e = .returned (.bool (largeB L)) ∧ Below w.heap.size w w' := by
  have hL : largeB L = if L.length > 60 then true else manyP L := rfl
  obtain ⟨oa, cap, hv, p1, p2, _, hp5⟩ := h.row.at_
  unfold maxLen at p2
  subst hv
  have HP := Lib.hid hp5
  have HI := Lib.hid h
  clear hp5 h
  generalize largeB L = LB at *
  by_cases g : L.length > 60
  · rw [if_pos g] at hL
    subst hL
    have g' : (L.length : Int) > 60 := by omega
    clear g
    go_enter Try.func10, Try.ntmps10
    go_wp2_with fail
    go_ret
    exact ⟨rfl, Below.refl _ _⟩
  rw [if_neg g] at hL
  have g' : ¬ (L.length : Int) > 60 := by omega
  have HL := Lib.hid hL
  clear hL g
  go_enter Try.func10, Try.ntmps10
  go_wp2_with fail
  go_loopw [10] (fun i wr => LgRel w L i wr) (fun i _ => (L.length - intOf i).toNat)
  case atStart => exact ⟨0, Nat.zero_le _, rfl, rfl, Below.refl _ _⟩
  case round =>
    obtain ⟨k, hk, rfl, hok, hbr⟩ := hrel
    have hwr := hbr.size
    by_cases hkl : k < L.length
    · have hki : (k : Int) < L.length := by omega
      have hk0 : (0 : Int) ≤ k := by omega
      have hx := getD_of (d := lv0) hkl
      have hxm := List.mem_of_getElem? hx
      obtain ⟨ob, oo, rfl, hoz, hoc⟩ := HP.out (by rintro rfl; simp at hkl)
      have ec := hoc k _ hx
      have q : ∀ j, wr.cell? ⟨ob, j, none⟩ = w.cell? ⟨ob, j, none⟩ := fun j => hbr.cell (p := ⟨ob, j, none⟩) hoz
      have hpr := HI.out.part _ hxm
      have hT := manyP_take hx
      rw [hok, Bool.false_or] at hT
      have hM : (L.getD k lv0).parts.length > 20 → manyP L = true := fun h => List.any_eq_true.2 ⟨_, hxm, decide_eq_true h⟩
      have HT := Lib.hid hT
      have HM := Lib.hid hM
      clear hx hxm hoc hok hT hM
      generalize L.getD k lv0 = x at *
      have e0 : World.cell? wr ⟨ob, oo + k * 5, none⟩ = some (.int .i64 x.id) := (q _).trans (ec 0 (by omega))
      have e1 : World.cell? wr ⟨ob, oo + k * 5 + 1, none⟩ = some (.int .i64 x.mat) := (q _).trans (ec 1 (by omega))
      have e2 : World.cell? wr ⟨ob, oo + k * 5 + 2, none⟩ = some (.int .i64 x.lo) := (q _).trans (ec 2 (by omega))
      have e3 : World.cell? wr ⟨ob, oo + k * 5 + 3, none⟩ = some (.int .i64 x.hi) := (q _).trans (ec 3 (by omega))
      have e4 : World.cell? wr ⟨ob, oo + k * 5 + 4, none⟩ = some (x.pv) := (q _).trans (ec 4 (by omega))
      clear ec q
      obtain ⟨xi, xm, xl, xh, xv, ps⟩ := x
      dsimp only at *
      obtain ⟨pa, pc, hpv, r1, r2, _, _⟩ := hpr.at_
      subst hpv
      unfold maxLen at r2
      clear hpr
      have hbx : Below wr.heap.size wr (wr.alloc (.cells #[.int .i64 xi, .int .i64 xm, .int .i64 xl, .int .i64 xh, .slice pa ps.length pc] 33)) := by repeat (first | (with_reducible exact Below.refl _ _) | (with_reducible assumption) | (with_reducible refine Below.drew ?_) | ((with_reducible refine Below.alloc ?_ ?_ _); rotate_left; (first | (with_reducible exact Nat.zero_le _) | (with_reducible exact Nat.le_refl _) | omega | (dsimp only; omega) | (simp only [World.size_alloc, World.size_setCell, World.size_drew]; omega))) | ((with_reducible refine Below.setCell ?_ ?_ _); rotate_left; (first | (with_reducible exact Nat.zero_le _) | (with_reducible exact Nat.le_refl _) | omega | (dsimp only; omega) | (simp only [World.size_alloc, World.size_setCell, World.size_drew]; omega))))
      have hbz := hbr.trans (hbx.mono hwr)
      by_cases ho : ps.length > 20
      · have ho' : (ps.length : Int) > 20 := by omega
        have HF := Lib.hid (HL.out.trans (HM.out ho))
        clear HM HT ho
        go_wp2_with fail
        go_ret
        exact ⟨by rw [HF.out]; rfl, hbz⟩
      · have ho' : ¬ (ps.length : Int) > 20 := by omega
        have HF := Lib.hid (HT.out.trans (decide_eq_false ho))
        clear HM HT ho
        go_wp2_with fail
        go_roundw
        case rel => exact ⟨k + 1, hkl, by simp, HF.out, hbz⟩
        case measure => simp [intOf]; omega
    · obtain rfl : k = L.length := by omega
      rw [List.take_length] at hok
      have HF := Lib.hid (HL.out.trans hok)
      clear hok
      go_wp2_with fail
      go_ret
      exact ⟨by rw [HF.out]; rfl, hbr⟩

end Go.Proofs.Ytpafcdigcpbbeaa
