/- Contract: Left of the reference. -/
import Derived.Test.YtpafcdigcpbbeaaLotL
namespace Go.Proofs.Ytpafcdigcpbbeaa
set_option linter.unusedVariables false
set_option linter.unusedSimpArgs false
open Go.RowKit

def RlRel (w1 : World) (L : List Lv) (id : Int) (i : Value) (wr : World) : Prop := ∃ k : Nat, k ≤ L.length ∧ i = .int .i64 k ∧ (kn L k id).isSome = false ∧ Below w1.heap.size w1 wr
set_option maxRecDepth 100000 in
set_option maxHeartbeats 8000000 in
theorem rleftF_any {w : World} {v : Value} {L : List Lv} (h : LotsIn w v L) (id : Int) : Calls Try.prog 16 #[v, .int .i64 id] w fun e w' => e = .returned (.tuple #[.agg #[.int .i64 (lefS L id).lo, .int .i64 (lefS L id).hi], .int .i64 (lefE L id)]) ∧ Below w.heap.size w w' := by
  have hS : lefS L id = if lefE L id = 0 then restS (L.getD ((kn L L.length id).getD 0).toNat lv0) (tk L id) else sp0 := rfl
  have hE : lefE L id = if chkL L ≠ 0 then chkL L else if kn L L.length id = none then 7 else 0 := rfl
  have hb : Below w.heap.size w (w.alloc (.cells #[.int .i64 0, .int .i64 0] 29)) := by repeat (first | (with_reducible exact Below.refl _ _) | (with_reducible assumption) | (with_reducible refine Below.drew ?_) | ((with_reducible refine Below.alloc ?_ ?_ _); rotate_left; (first | (with_reducible exact Nat.zero_le _) | (with_reducible exact Nat.le_refl _) | omega | (dsimp only; omega) | (simp only [World.size_alloc, World.size_setCell, World.size_drew]; omega))) | ((with_reducible refine Below.setCell ?_ ?_ _); rotate_left; (first | (with_reducible exact Nat.zero_le _) | (with_reducible exact Nat.le_refl _) | omega | (dsimp only; omega) | (simp only [World.size_alloc, World.size_setCell, World.size_drew]; omega))))
  have BR := Blk.new w 29 #[.int .i64 0, .int .i64 0]
  have h1 := h.step (w' := w.alloc (.cells #[.int .i64 0, .int .i64 0] 29)) (by repeat (first | (with_reducible exact Below.refl _ _) | (with_reducible assumption) | (with_reducible refine Below.drew ?_) | ((with_reducible refine Below.alloc ?_ ?_ _); rotate_left; (first | (with_reducible exact Nat.zero_le _) | (with_reducible exact Nat.le_refl _) | omega | (dsimp only; omega) | (simp only [World.size_alloc, World.size_setCell, World.size_drew]; omega))) | ((with_reducible refine Below.setCell ?_ ?_ _); rotate_left; (first | (with_reducible exact Nat.zero_le _) | (with_reducible exact Nat.le_refl _) | omega | (dsimp only; omega) | (simp only [World.size_alloc, World.size_setCell, World.size_drew]; omega)))))
  have hck := rlcheck_any h1
  generalize lefE L id = OE at *
  generalize lefS L id = OS at *
  by_cases h0 : chkL L = 0
  case neg =>
    have h0' : (chkL L != 0) = true := by simpa using h0
    rw [if_pos h0] at hE
    rw [hE, if_neg h0] at hS
    rw [hE, hS]
    clear hE hS h0
    generalize chkL L = E at *
    go_enter Try.func16, Try.ntmps16
    go_wp2_with fail
    refine hck.mono ?_
    rintro e w1 ⟨rfl, hb1⟩
    replace BR := BR.step hb1
    have cr := BR.cell
    have fr := BR.free
    have lr := BR.lt
    replace hb := hb.trans (hb1.mono hb.size)
    go_wp2_with fail
    refine bodyPost_ret (v := .tuple #[.agg #[.int .i64 0, .int .i64 0], .int .i64 E]) (by simp only [results, Try.results16]; go_simp; first | done | rfl) rfl ?_
    refine ⟨rfl, ?_⟩
    repeat (first | (with_reducible exact Below.refl _ _) | (with_reducible assumption) | (with_reducible refine Below.drew ?_) | ((with_reducible refine Below.alloc ?_ ?_ _); rotate_left; (first | (with_reducible exact Nat.zero_le _) | (with_reducible exact Nat.le_refl _) | omega | (dsimp only; omega) | (simp only [World.size_alloc, World.size_setCell, World.size_drew]; omega))) | ((with_reducible refine Below.setCell ?_ ?_ _); rotate_left; (first | (with_reducible exact Nat.zero_le _) | (with_reducible exact Nat.le_refl _) | omega | (dsimp only; omega) | (simp only [World.size_alloc, World.size_setCell, World.size_drew]; omega))))
  rw [if_neg (by simpa using h0)] at hE
  rw [h0] at hck
  obtain ⟨ok1, ok2, ok3, ok4⟩ := chkL_ok h0
  have HPO := Lib.hid (partsOk ok2 ok1)
  have HOK := Lib.hid ok2
  have HND := Lib.hid ok3
  have hfew : L.length ≤ 512 := by omega
  have HE := Lib.hid hE
  have HS := Lib.hid hS
  have HI := Lib.hid h
  obtain ⟨oa, cap, hv, p1, p2, _, hp5⟩ := h.row.at_
  unfold maxLen at p2
  subst hv
  have HP := Lib.hid hp5
  clear hE hS h0 ok1 ok2 ok3 ok4 hp5 h
  go_enter Try.func16, Try.ntmps16
  go_wp2_with fail
  refine hck.mono ?_
  rintro e w1 ⟨rfl, hb1⟩
  replace BR := BR.step hb1
  replace hb := hb.trans (hb1.mono hb.size)
  clear hck hb1 h1
  have hz1 := hb.size
  go_wp2_with fail
  go_loopw [17] (fun i wr => RlRel w1 L id i wr) (fun i _ => (L.length - intOf i).toNat)
  case atStart => exact ⟨0, Nat.zero_le _, rfl, rfl, Below.refl _ _⟩
  case round =>
    obtain ⟨k, hk, rfl, hok, hbr⟩ := hrel
    have hwr := hbr.size
    have hball := hb.trans (hbr.mono hz1)
    by_cases hkl : k < L.length
    · have hki : (k : Int) < L.length := by omega
      have hk0 : (0 : Int) ≤ k := by omega
      have hx := getD_of (d := lv0) hkl
      have hxm := List.mem_of_getElem? hx
      obtain ⟨ob, oo, rfl, hoz, hoc⟩ := HP.out (by rintro rfl; simp at hkl)
      have ec := hoc k _ hx
      have q : ∀ j, wr.cell? ⟨ob, j, none⟩ = w.cell? ⟨ob, j, none⟩ := fun j => hball.cell (p := ⟨ob, j, none⟩) hoz
      have hpr := HI.out.part _ hxm
      have hlo := lot_ok HOK.out hkl
      have hun := kn_uniq HND.out hkl
      have hn : ¬ (L.getD k lv0).id = id → (kn L (k + 1) id).isSome = false := fun h => by
        unfold kn
        rw [if_neg (fun e => h e.symm)]; exact hok
      have hfin : (L.getD k lv0).id = id → OE = 0 ∧ OS = restS (L.getD k lv0) (tk L (L.getD k lv0).id) := fun h => by
        rw [h] at hun
        have e1 : OE = 0 := by rw [HE.out, if_neg (by rw [hun]; simp)]
        refine ⟨e1, ?_⟩
        rw [HS.out, if_pos e1, hun, h]
        rfl
      have hre := fun w pa pc hL hpv h1 => rleft_any (w := w) (v := .slice (some ⟨ob, oo, none⟩) L.length cap) (L := L) hL HPO.out (L.getD k lv0) (pa := pa) (pc := pc) hpv h1
      have HN := Lib.hid hn
      have HFI := Lib.hid hfin
      clear hx hxm hoc hok hn hfin hun
      generalize restS (L.getD k lv0) (tk L (L.getD k lv0).id) = R at *
      generalize L.getD k lv0 = x at *
      have e0 : World.cell? wr ⟨ob, oo + k * 5, none⟩ = some (.int .i64 (x).id) := (q _).trans (ec 0 (by omega))
      have e1 : World.cell? wr ⟨ob, oo + k * 5 + 1, none⟩ = some (.int .i64 (x).mat) := (q _).trans (ec 1 (by omega))
      have e2 : World.cell? wr ⟨ob, oo + k * 5 + 2, none⟩ = some (.int .i64 (x).lo) := (q _).trans (ec 2 (by omega))
      have e3 : World.cell? wr ⟨ob, oo + k * 5 + 3, none⟩ = some (.int .i64 (x).hi) := (q _).trans (ec 3 (by omega))
      have e4 : World.cell? wr ⟨ob, oo + k * 5 + 4, none⟩ = some ((x).pv) := (q _).trans (ec 4 (by omega))
      clear ec q
      obtain ⟨xi, xm, xl, xh, xv, ps⟩ := x
      dsimp only at *
      obtain ⟨pa, pc, hpv, r1, r2, _, _⟩ := hpr.at_
      subst hpv
      unfold maxLen at r2
      have hbx : Below wr.heap.size wr (wr.alloc (.cells #[.int .i64 xi, .int .i64 xm, .int .i64 xl, .int .i64 xh, .slice pa ps.length pc] 33)) := by repeat (first | (with_reducible exact Below.refl _ _) | (with_reducible assumption) | (with_reducible refine Below.drew ?_) | ((with_reducible refine Below.alloc ?_ ?_ _); rotate_left; (first | (with_reducible exact Nat.zero_le _) | (with_reducible exact Nat.le_refl _) | omega | (dsimp only; omega) | (simp only [World.size_alloc, World.size_setCell, World.size_drew]; omega))) | ((with_reducible refine Below.setCell ?_ ?_ _); rotate_left; (first | (with_reducible exact Nat.zero_le _) | (with_reducible exact Nat.le_refl _) | omega | (dsimp only; omega) | (simp only [World.size_alloc, World.size_setCell, World.size_drew]; omega))))
      have hbz := hbr.trans (hbx.mono hwr)
      have hbq := hball.trans (hbx.mono hball.size)
      by_cases hid : xi = id
      · obtain ⟨hE0, hS0⟩ := HFI.out hid
        have HE0 := Lib.hid (And.intro hE0 hS0)
        have hid' : (xi == id) = true := by simpa using hid
        have hre1 := hre _ pa pc (HI.out.step hbq) rfl (by omega)
        clear hid HN HFI hE0 hS0 hre
        go_wp2_with fail
        refine hre1.mono ?_
        rintro e w4 ⟨rfl, hb4⟩
        have BR4 := ((BR.step hbr).step hbx).step hb4
        have cr := BR4.cell
        have fr := BR4.free
        have lr := BR4.lt
        have hfn := hbq.trans (hb4.mono hbq.size)
        have hzf := hfn.size
        clear hre1
        go_wp2_with fail
        refine bodyPost_ret (v := .tuple #[.agg #[.int .i64 (R).lo, .int .i64 (R).hi], .int .i64 0]) (by simp only [results, Try.results16]; go_simp; first | done | rfl) rfl ?_
        refine ⟨by rw [HE0.out.1, HE0.out.2], ?_⟩
        repeat (first | (with_reducible exact Below.refl _ _) | (with_reducible assumption) | (with_reducible refine Below.drew ?_) | ((with_reducible refine Below.alloc ?_ ?_ _); rotate_left; (first | (with_reducible exact Nat.zero_le _) | (with_reducible exact Nat.le_refl _) | omega | (dsimp only; omega) | (simp only [World.size_alloc, World.size_setCell, World.size_drew]; omega))) | ((with_reducible refine Below.setCell ?_ ?_ _); rotate_left; (first | (with_reducible exact Nat.zero_le _) | (with_reducible exact Nat.le_refl _) | omega | (dsimp only; omega) | (simp only [World.size_alloc, World.size_setCell, World.size_drew]; omega))))
      · have HF := Lib.hid (HN.out hid)
        have hid' : (xi == id) = false := by simpa using hid
        clear hid HN HFI hre
        go_wp2_with fail
        go_roundw
        case rel => exact ⟨k + 1, hkl, by simp, HF.out, hbz⟩
        case measure => simp [intOf]; omega
    · obtain rfl : k = L.length := by omega
      have hnone : kn L L.length id = none := by
        cases h : kn L L.length id with
        | none => rfl
        | some i => rw [h] at hok; cases hok
      have hE7 : OE = 7 := by rw [HE.out, if_pos hnone]
      have hS7 : OS = sp0 := by rw [HS.out, if_neg (by rw [hE7]; decide)]
      have HF := Lib.hid (And.intro hE7 hS7)
      have BR4 := BR.step hbr
      have cr := BR4.cell
      have fr := BR4.free
      have lr := BR4.lt
      have hzf := hball.size
      clear hok hnone hE7 hS7
      go_wp2_with fail
      refine bodyPost_ret (v := .tuple #[.agg #[.int .i64 0, .int .i64 0], .int .i64 7]) (by simp only [results, Try.results16]; go_simp; first | done | rfl) rfl ?_
      refine ⟨by rw [HF.out.1, HF.out.2]; rfl, ?_⟩
      repeat (first | (with_reducible exact Below.refl _ _) | (with_reducible assumption) | (with_reducible refine Below.drew ?_) | ((with_reducible refine Below.alloc ?_ ?_ _); rotate_left; (first | (with_reducible exact Nat.zero_le _) | (with_reducible exact Nat.le_refl _) | omega | (dsimp only; omega) | (simp only [World.size_alloc, World.size_setCell, World.size_drew]; omega))) | ((with_reducible refine Below.setCell ?_ ?_ _); rotate_left; (first | (with_reducible exact Nat.zero_le _) | (with_reducible exact Nat.le_refl _) | omega | (dsimp only; omega) | (simp only [World.size_alloc, World.size_setCell, World.size_drew]; omega))))

end Go.Proofs.Ytpafcdigcpbbeaa
