/- Contracts: known and taken of the reference; the first lots of a slice. -/
import Derived.Test.YtapfihlfnaebhaaLotG
namespace Go.Proofs.Ytapfihlfnaebhaa
set_option linter.unusedVariables false
set_option linter.unusedSimpArgs false
open Go.RowKit

theorem kn_take {L : List Lv} {i : Nat} (hi : i ≤ L.length) : ∀ k, k ≤ i → kn (L.take i) k = kn L k
  | 0, _ => rfl
  | k + 1, hk => by
    have ih := kn_take hi k (by omega)
    have hg : (L.take i).getD k lv0 = L.getD k lv0 := by
      rw [List.getD_eq_getElem?_getD, List.getElem?_take_of_lt (by omega), ← List.getD_eq_getElem?_getD]
    unfold kn
    rw [ih, hg]
theorem LotsIn.take {w : World} {oa : Option Addr} {cap : Nat} {L : List Lv} (h : LotsIn w (.slice oa L.length cap) L) {i : Nat} (hi : i ≤ L.length) : LotsIn w (.slice oa i cap) (L.take i) := by
  have hlen : (L.take i).length = i := by simp; omega
  have hsub : ∀ x ∈ L.take i, x ∈ L := fun x hx => List.mem_of_mem_take hx
  obtain ⟨ob, cb, hv, h1, h2, h3, h4⟩ := h.row.at_
  injection hv with e1 e2 e3
  subst e1 e3
  refine ⟨⟨oa, cap, by rw [hlen], by omega, h2, h3, fun hne => ?_⟩, fun x hx => h.part x (hsub x hx), fun x hx => h.id x (hsub x hx), fun x hx => h.lot x (hsub x hx)⟩
  obtain ⟨b, o, e, hlt, hc⟩ := h4 (by rintro rfl; simp at hne)
  refine ⟨b, o, e, hlt, fun k x hx j hj => ?_⟩
  have hk : k < i := by
    have := (List.getElem?_eq_some_iff.1 hx).1
    omega
  rw [List.getElem?_take_of_lt hk] at hx
  exact hc k x hx j hj
def RkRel (w : World) (L : List Lv) (id : Int) (i : Value) (wr : World) : Prop := ∃ k : Nat, k ≤ L.length ∧ i = .int .i64 k ∧ (kn L k id).isSome = false ∧ Below w.heap.size w wr
set_option maxRecDepth 100000 in
set_option maxHeartbeats 8000000 in
theorem rknown_any {w : World} {v : Value} {L : List Lv} (h : LotsIn w v L) (id : Int) : Calls Try.prog 40 #[v, .int .i64 id] w fun e w' => e = .returned (.bool (kn L L.length id).isSome) ∧ Below w.heap.size w w' := by
  obtain ⟨oa, cap, hv, p1, p2, _, hp5⟩ := h.row.at_
  unfold maxLen at p2
  subst hv
  have HP := Lib.hid hp5
  have HI := Lib.hid h
  clear hp5 h
  go_enter Try.func40, Try.ntmps40
  go_wp2_with fail
  go_loopw [9] (fun i wr => RkRel w L id i wr) (fun i _ => (L.length - intOf i).toNat)
  case atStart => exact ⟨0, Nat.zero_le _, rfl, rfl, Below.refl _ _⟩
  case round =>
    obtain ⟨k, hk, rfl, hok, hbr⟩ := hrel
    have hwr := hbr.size
    by_cases hkl : k < L.length
    · have hki : (k : Int) < L.length := by omega
      have hk0 : (0 : Int) ≤ k := by omega
      have hx := getD_of (d := lv0) hkl
      have hxm := List.mem_of_getElem? hx
      obtain ⟨ob, oo, rfl, hoz, hoc⟩ := HP.out (by rintro rfl; simp at hkl)
      have ec := hoc k _ hx
      have q : ∀ j, wr.cell? ⟨ob, j, none⟩ = w.cell? ⟨ob, j, none⟩ := fun j => hbr.cell (p := ⟨ob, j, none⟩) hoz
      have hpr := HI.out.part _ hxm
      have hy : (L.getD k lv0).id = id → (kn L L.length id).isSome = true := fun h => kn_some.2 ⟨k, hkl, h⟩
      have hn : ¬ (L.getD k lv0).id = id → (kn L (k + 1) id).isSome = false := fun h => by
        unfold kn
        rw [if_neg (fun e => h e.symm)]; exact hok
      have HY := Lib.hid hy
      have HN := Lib.hid hn
      clear hx hxm hoc hok hy hn
      generalize L.getD k lv0 = x at *
      have e0 : World.cell? wr ⟨ob, oo + k * 5, none⟩ = some (.int .i64 x.id) := (q _).trans (ec 0 (by omega))
      have e1 : World.cell? wr ⟨ob, oo + k * 5 + 1, none⟩ = some (.int .i64 x.mat) := (q _).trans (ec 1 (by omega))
      have e2 : World.cell? wr ⟨ob, oo + k * 5 + 2, none⟩ = some (.int .i64 x.lo) := (q _).trans (ec 2 (by omega))
      have e3 : World.cell? wr ⟨ob, oo + k * 5 + 3, none⟩ = some (.int .i64 x.hi) := (q _).trans (ec 3 (by omega))
      have e4 : World.cell? wr ⟨ob, oo + k * 5 + 4, none⟩ = some (x.pv) := (q _).trans (ec 4 (by omega))
      clear ec q
      obtain ⟨xi, xm, xl, xh, xv, ps⟩ := x
      dsimp only at *
      obtain ⟨pa, pc, hpv, r1, r2, _, _⟩ := hpr.at_
      subst hpv
      unfold maxLen at r2
      clear hpr
      have hbx : Below wr.heap.size wr (wr.alloc (.cells #[.int .i64 xi, .int .i64 xm, .int .i64 xl, .int .i64 xh, .slice pa ps.length pc] 49)) := by repeat (first | (with_reducible exact Below.refl _ _) | (with_reducible assumption) | (with_reducible refine Below.drew ?_) | ((with_reducible refine Below.alloc ?_ ?_ _); rotate_left; (first | (with_reducible exact Nat.zero_le _) | (with_reducible exact Nat.le_refl _) | omega | (dsimp only; omega) | (simp only [World.size_alloc, World.size_setCell, World.size_drew]; omega))) | ((with_reducible refine Below.setCell ?_ ?_ _); rotate_left; (first | (with_reducible exact Nat.zero_le _) | (with_reducible exact Nat.le_refl _) | omega | (dsimp only; omega) | (simp only [World.size_alloc, World.size_setCell, World.size_drew]; omega))))
      have hbz := hbr.trans (hbx.mono hwr)
      by_cases hid : xi = id
      · have HF := Lib.hid (HY.out hid)
        have hid' : (xi == id) = true := by simpa using hid
        clear hid HY HN
        go_wp2_with fail
        go_ret
        exact ⟨by rw [HF.out]; rfl, hbz⟩
      · have HF := Lib.hid (HN.out hid)
        have hid' : (xi == id) = false := by simpa using hid
        clear hid HY HN
        go_wp2_with fail
        go_roundw
        case rel => exact ⟨k + 1, hkl, by simp, HF.out, hbz⟩
        case measure => simp [intOf]; omega
    · obtain rfl : k = L.length := by omega
      have HF := Lib.hid hok
      clear hok
      go_wp2_with fail
      go_ret
      exact ⟨by rw [HF.out]; rfl, hbr⟩

end Go.Proofs.Ytapfihlfnaebhaa
