/- Contract: Origin of the reference. -/
import Derived.Test.YtpafcdigcpbbeaaLotW
namespace Go.Proofs.Ytpafcdigcpbbeaa
set_option linter.unusedVariables false
set_option linter.unusedSimpArgs false
open Go.RowKit

def RoRel (w3 : World) (L : List Lv) (F : Nat → Bool) (o m : Value) (wr : World) : Prop :=
  ∃ k : Nat, k ≤ L.length ∧ m = .int .i64 k ∧ Below w3.heap.size w3 wr ∧ wr.ownsRow w3.heap.size 3 1 o (selK F L k).length (rowOf encI1 (selK F L k))
theorem kn_id {L : List Lv} {id : Int} {j : Nat} (h : kn L L.length id = some (j : Int)) : (L.getD j lv0).id = id ∧ j < L.length := by
  obtain ⟨i, h1, h2, h3⟩ := kn_at h
  have : i = j := by omega
  subst this
  exact ⟨h3, h1⟩
set_option maxRecDepth 100000 in
set_option maxHeartbeats 8000000 in
theorem rorigin_any {w : World} {v : Value} {L : List Lv} (h : LotsIn w v L) (id : Int) : Calls Try.prog 20 #[v, .int .i64 id] w (origOut w (lefE L id) (orgV L id)) := by
  have hS : orgV L id = if lefE L id = 0 then orgL L (ixL L id) else [] := rfl
  have hE : lefE L id = if chkL L ≠ 0 then chkL L else if kn L L.length id = none then 7 else 0 := rfl
  have hck := rlcheck_any h
  have hkw := fun w h => rknown_any (w := w) (v := v) (L := L) h id
  generalize lefE L id = OE at *
  generalize orgV L id = OS at *
  by_cases h0 : chkL L = 0
  case neg =>
    have h0' : (chkL L != 0) = true := by simpa using h0
    rw [if_pos h0] at hE
    rw [hE, if_neg h0] at hS
    rw [hE, hS]
    clear hE hS hkw h0
    generalize chkL L = E at *
    go_enter Try.func20, Try.ntmps20
    go_wp2_with fail
    refine hck.mono ?_
    rintro e w1 ⟨rfl, hb1⟩
    go_wp2_with fail
    refine bodyPost_ret (v := .tuple #[.slice none 0 0, .int .i64 E]) (by simp only [results, Try.results20]; go_simp; first | done | rfl) rfl ?_
    exact ⟨_, rfl, .nil _ _ _, hb1⟩
  rw [if_neg (by simpa using h0)] at hE
  have hus := fun w h c hc hid => rused_any (w := w) (v := v) (L := L) h h0 (c := c) hc (id := id) hid
  rw [h0] at hck
  have HFA := Lib.hid h
  cases hk : kn L L.length id with
  | none =>
    rw [if_pos hk] at hE
    rw [hE, if_neg (by decide)] at hS
    rw [hE, hS]
    rw [hk] at hkw
    clear hE hS hk hus h0 h
    go_enter Try.func20, Try.ntmps20
    go_wp2_with fail
    refine hck.mono ?_
    rintro e w1 ⟨rfl, hb1⟩
    go_wp2_with fail
    refine (hkw _ (HFA.out.step hb1)).mono ?_
    rintro e w2 ⟨rfl, hb2⟩
    go_wp2_with fail
    refine bodyPost_ret (v := .tuple #[.slice none 0 0, .int .i64 7]) (by simp only [results, Try.results20]; go_simp; first | done | rfl) rfl ?_
    exact ⟨_, rfl, .nil _ _ _, hb1.trans (hb2.mono hb1.size)⟩
  | some i =>
    obtain ⟨j, hj, rfl, hjid⟩ := kn_at hk
    have hjx : ixL L id = j := by unfold ixL; rw [hk]; simp
    rw [if_neg (by rw [hk]; simp)] at hE
    rw [hE, if_pos rfl, hjx] at hS
    rw [hE]
    rw [hk] at hkw
    obtain ⟨ok1, _, _, _⟩ := chkL_ok h0
    have HS := Lib.hid hS
    have HUS := Lib.hid hus
    have HJ := Lib.hid hjid
    obtain ⟨oa, cap, hv, p1, p2, _, hp5⟩ := h.row.at_
    subst hv
    unfold maxLen at p2
    have HP := Lib.hid hp5
    clear hp5 hk hjid hE hS hjx hus h0 h
    have HF := Lib.hid (fun k (hk : k < L.length) => (show orgF L j k = (rB L j k && decide ((L.getD k lv0).parts.length = 0)) from rfl))
    obtain ⟨tj, ji, jz, jsi, jby⟩ := info_of (P := Try.prog) (t := 3) (z := .int .i64 0) (size := 1) (bytes := 8) (by kernel_rfl)
    go_enter Try.func20, Try.ntmps20
    go_wp2_with fail
    refine hck.mono ?_
    rintro e w1 ⟨rfl, hb1⟩
    go_wp2_with fail
    refine (hkw _ (HFA.out.step hb1)).mono ?_
    rintro e w2 ⟨rfl, hb2⟩
    have hb12 := hb1.trans (hb2.mono hb1.size)
    clear hkw hck hb1 hb2
    go_wp2_with fail
    refine (HUS.out _ (HFA.out.step hb12) j hj HJ.out.symm).mono ?_
    rintro e w3 ⟨g, rfl, BG3, hb3, _⟩
    have hb13 := hb12.trans (hb3.mono hb12.size)
    have HG := Lib.hid BG3
    have hz3 := hb13.size
    clear hb12 hb3 BG3
    go_wp2_with fail
    go_loopw [7, 23] (fun o m wr => RoRel w3 L (orgF L j) o m wr) (fun _ m _ => (L.length - intOf m).toNat)
    case atStart => exact ⟨0, Nat.zero_le _, rfl, Below.refl _ _, ⟨by simp [rowOf, selK], .inl ⟨rfl, rfl⟩⟩⟩
    case round =>
      obtain ⟨k, hk, rfl, hbr, own⟩ := hrel
      have hsz := hbr.size
      have hball := hb13.trans (hbr.mono hz3)
      by_cases hkl : k < L.length
      · have hki : (k : Int) < L.length := by omega
        have hk0 : (0 : Int) ≤ k := by omega
        have hx := getD_of (d := lv0) hkl
        have hxm := List.mem_of_getElem? hx
        obtain ⟨ob, oo, rfl, hoz, hoc⟩ := HP.out (by rintro rfl; simp at hkl)
        have ec := hoc k _ hx
        have q : ∀ j, wr.cell? ⟨ob, j, none⟩ = w.cell? ⟨ob, j, none⟩ := fun j => hball.cell (p := ⟨ob, j, none⟩) hoz
        have hpr := HFA.out.part _ hxm
        have hfk := HF.out k hkl
        have hsk := selK_succ (orgF L j) L k
        have hsl := selK_len (orgF L j) L k
        rw [hfk] at hsk
        have g1 : wr.cell? ⟨g, k, none⟩ = some (.bool (rB L j k)) := (HG.out.step hbr).getb (rowB_get _ hkl)
        have l1 := (HG.out.step hbr).lt
        clear hx hxm hoc hfk
        generalize L.getD k lv0 = x at *
        generalize rB L j k = RB at *
        have e0 : World.cell? wr ⟨ob, oo + k * 5, none⟩ = some (.int .i64 x.id) := (q _).trans (ec 0 (by omega))
        have e4 : World.cell? wr ⟨ob, oo + k * 5 + 4, none⟩ = some (x.pv) := (q _).trans (ec 4 (by omega))
        clear ec q
        obtain ⟨xi, xm, xl, xh, xv, ps⟩ := x
        dsimp only at *
        obtain ⟨pa, pc, hpv, r1, r2, _, _⟩ := hpr.at_
        subst hpv
        unfold maxLen at r2
        clear hpr
        cases RB with
        | false =>
          rw [Bool.false_and, if_neg (by simp), List.append_nil] at hsk
          have HSK := Lib.hid hsk
          clear hsk
          go_wp2_with fail
          go_roundw
          case rel => exact ⟨k + 1, hkl, by simp, hbr, by rw [HSK.out]; exact own⟩
          case measure => simp [intOf]; omega
        | true =>
          by_cases hps : ps.length = 0
          · rw [if_pos (by simp [hps])] at hsk
            have HSK := Lib.hid hsk
            have hps' : ((ps.length : Int) == 0) = true := by simp [hps]
            have hb2 : Below wr.heap.size wr (wr.alloc (.cells #[.int .i64 xi] 3)) := by repeat (first | (with_reducible exact Below.refl _ _) | (with_reducible assumption) | (with_reducible refine Below.drew ?_) | ((with_reducible refine Below.alloc ?_ ?_ _); rotate_left; (first | (with_reducible exact Nat.zero_le _) | (with_reducible exact Nat.le_refl _) | omega | (dsimp only; omega) | (simp only [World.size_alloc, World.size_setCell, World.size_drew]; omega))) | ((with_reducible refine Below.setCell ?_ ?_ _); rotate_left; (first | (with_reducible exact Nat.zero_le _) | (with_reducible exact Nat.le_refl _) | omega | (dsimp only; omega) | (simp only [World.size_alloc, World.size_setCell, World.size_drew]; omega))))
            have BK := Blk.new wr 3 #[.int .i64 xi]
            have own2 := ownsRow_step own hb2
            have hbz2 := hbr.trans (hb2.mono hsz)
            clear hsk hps
            go_wp2_with (at_builtin; go_loud (refine wpList_append_any _ rfl _ _ _ rfl w3.heap.size 3 tj _ 1 8 Try.underlying40 ji jz jsi jby rfl (by omega) _ (selK (orgF L j) L k).length _ rfl own2 _ 1 (encI1 xi) rfl (Src.of_blk BK 1) rfl (fun u hu => oneI1 [xi] u (by simpa [rowOf] using hu)) (by simp only [maxLen]; omega) (by omega) hbz2.size ?_); intro v6 w6 own6 hg6 hat6)
            have hb7 := Below.grown hbz2 hg6 hbz2.size (own_ge' own2)
            have own6' : w6.ownsRow w3.heap.size 3 1 v6 (selK (orgF L j) L k ++ [xi]).length (rowOf encI1 (selK (orgF L j) L k ++ [xi])) := by
              rw [rowOf_append, List.length_append]
              simpa [rowOf] using own6
            clear own6 own2 hg6 hat6
            go_roundw
            case rel => exact ⟨k + 1, hkl, by simp, hb7, by rw [HSK.out]; exact own6'⟩
            case measure => simp [intOf]; omega
          · rw [if_neg (by simp [hps]), List.append_nil] at hsk
            have HSK := Lib.hid hsk
            have hps' : ((ps.length : Int) == 0) = false := by simpa using hps
            clear hsk hps
            go_wp2_with fail
            go_roundw
            case rel => exact ⟨k + 1, hkl, by simp, hbr, by rw [HSK.out]; exact own⟩
            case measure => simp [intOf]; omega
      · obtain rfl : k = L.length := by omega
        go_wp2_with fail
        refine bodyPost_ret (v := .tuple #[u7, .int .i64 0]) (by simp only [results, Try.results20]; go_simp; first | done | rfl) rfl ?_
        refine ⟨_, rfl, ?_, hball⟩
        rw [HS.out]
        exact RowIn.of_own encI1_len own

end Go.Proofs.Ytpafcdigcpbbeaa
