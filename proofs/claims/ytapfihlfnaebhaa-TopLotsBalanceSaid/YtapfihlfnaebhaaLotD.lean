/- Contract: Check of the program. -/
import Derived.Test.YtapfihlfnaebhaaLotC
namespace Go.Proofs.Ytapfihlfnaebhaa
set_option linter.unusedVariables false
set_option linter.unusedSimpArgs false
open Go.RowKit

theorem lotsE_at {l : List Lv} : ∀ {n : Nat}, lotsE l n = 0 → ∀ k, k < n → lotsE l k = 0 ∧ oneE (fun y => (kn l k y).isSome) (l.getD k lv0) = 0
  | 0, _, k, hk => absurd hk (Nat.not_lt_zero _)
  | n + 1, h, k, hk => by
    unfold lotsE at h
    by_cases h0 : lotsE l n = 0
    · rw [if_neg (by simpa using h0)] at h
      by_cases e : k = n
      · subst e; exact ⟨h0, h⟩
      · exact lotsE_at h0 k (by omega)
    · rw [if_pos h0] at h; exact absurd h h0
theorem oneE_ok {K : Int → Bool} {x : Lv} (h : oneE K x = 0) : headE x = 0 ∧ (∀ p ∈ x.parts, K p.lot = true ∧ mOk p.lo p.hi = true) ∧ dupP x.parts x.parts.length = false ∧ balE x = 0 := by
  unfold oneE at h
  split at h
  · rename_i h1; exact absurd h h1
  split at h
  · rename_i h1; exact absurd h h1
  split at h
  · omega
  rename_i h1 h2 h3
  exact ⟨by simpa using h1, fun p hp => ptE_ok.1 (firstE_mem (by simpa using h2) p hp), by simpa using h3, h⟩
theorem headE_ok {x : Lv} (h : headE x = 0) : 1 ≤ x.id ∧ x.id ≤ 1000000 ∧ 0 ≤ x.mat ∧ x.mat < 16 ∧ (0 ≤ x.lo ∧ x.lo ≤ x.hi ∧ x.hi ≤ 70368744177664) ∧ x.parts.length ≤ 8 := by
  rcases headE_cases x with ⟨h1, _⟩ | ⟨h1, h2, ⟨h3, _⟩ | ⟨h3, h4, ⟨h5, _⟩ | ⟨h5, ⟨h6, _⟩ | ⟨h6, h7⟩⟩⟩⟩
  · omega
  · omega
  · omega
  · omega
  · exact ⟨by omega, by omega, by omega, by omega, mOk_iff.1 h5, by omega⟩
theorem partsOk {l : List Lv} (h : lotsE l l.length = 0) (hf : ¬ l.length > 512) : PartsOk l := by
  have key : ∀ x ∈ l, ∃ K, oneE K x = 0 := fun x hx => by
    obtain ⟨k, hk, rfl⟩ := List.getElem_of_mem hx
    have := (lotsE_at h k hk).2
    rw [show l.getD k lv0 = l[k] by rw [List.getD_eq_getElem?_getD, List.getElem?_eq_getElem hk]; rfl] at this
    exact ⟨_, this⟩
  refine ⟨by omega, fun x hx => ?_, fun x hx p hp => ?_⟩
  · obtain ⟨K, hK⟩ := key x hx
    exact (headE_ok (oneE_ok hK).1).2.2.2.2.2
  · obtain ⟨K, hK⟩ := key x hx
    exact ((oneE_ok hK).2.1 p hp).2
theorem overE_stop {l : List Lv} {k : Nat} (h0 : overE l k = 0) (h : (tk l (l.getD k lv0).id).lo > (l.getD k lv0).hi) : ∀ n, k < n → overE l n = 16
  | 0, hn => absurd hn (Nat.not_lt_zero _)
  | n + 1, hn => by
    unfold overE
    by_cases e : n = k
    · subst e; rw [if_neg (by simpa using h0), if_pos h]
    · have := overE_stop h0 h n (by omega)
      rw [if_pos (by rw [this]; decide), this]
theorem overE_next {l : List Lv} {k : Nat} (h0 : overE l k = 0) (h : ¬ (tk l (l.getD k lv0).id).lo > (l.getD k lv0).hi) : overE l (k + 1) = 0 := by
  unfold overE; rw [if_neg (by simpa using h0), if_neg h]
theorem fieldS (a b : Int) (w : World) : (Instr.field 32 (.agg #[.int .i64 a, .int .i64 b]) 0).run Try.prog w = .ok (.int .i64 a) w := by kernel_rfl
theorem fieldS1 (a b : Int) (w : World) : (Instr.field 32 (.agg #[.int .i64 a, .int .i64 b]) 1).run Try.prog w = .ok (.int .i64 b) w := by kernel_rfl
def C1Rel (w : World) (L : List Lv) (i : Value) (wr : World) : Prop := ∃ k : Nat, k ≤ L.length ∧ i = .int .i64 k ∧ lotsE L k = 0 ∧ Below w.heap.size w wr ∧ MapIs wr Try.prog 3 eInt w.heap.size k (kn L k) (ks L k)
def C2Rel (w : World) (L : List Lv) (i : Value) (wr : World) : Prop := ∃ k : Nat, k ≤ L.length ∧ i = .int .i64 k ∧ overE L k = 0 ∧ Below w.heap.size w wr
set_option maxRecDepth 100000 in
set_option maxHeartbeats 8000000 in
theorem lcheck_any {w : World} {v : Value} {L : List Lv} (h : LotsIn w v L) : Calls Try.prog 42 #[v] w fun e w' => e = .returned (.int .i64 (chkL L)) ∧ Below w.heap.size w w' := by
  have htk := fun w h hok => taken_any (w := w) (v := v) (L := L) h hok
  obtain ⟨oa, cap, hv, p1, p2, _, hp5⟩ := h.row.at_
  unfold maxLen at p2
  subst hv
  have HP := Lib.hid hp5
  have HI := Lib.hid h
  have hC : chkL L = if L.length > 512 then 8 else if lotsE L L.length ≠ 0 then lotsE L L.length else if nodup L L.length = false then 6 else overE L L.length := rfl
  generalize chkL L = CL at *
  clear hp5 h
  by_cases g : L.length > 512
  · rw [if_pos g] at hC
    subst hC
    have g' : (L.length : Int) > 512 := by omega
    clear g htk
    go_enter Try.func42, Try.ntmps42
    go_wp2_with fail
    go_ret
    exact ⟨rfl, Below.refl _ _⟩
  rw [if_neg g] at hC
  have g' : ¬ (L.length : Int) > 512 := by omega
  have HC := Lib.hid hC
  have HG := Lib.hid g
  have HTK := Lib.hid htk
  clear hC g htk
  have hmm := @run_makeMap Try.prog
  go_enter Try.func42, Try.ntmps42
  go_wp2_with fail
  clear hmm
  go_loopw [16] (fun i wr => C1Rel w L i wr) (fun i _ => (L.length - intOf i).toNat)
  case atStart => exact ⟨0, Nat.zero_le _, rfl, rfl, (Below.refl _ _).alloc (Nat.le_refl _) _, MapIs.made _ _ _ _⟩
  case round =>
    obtain ⟨k, hk, rfl, hok, hbr, hmp⟩ := hrel
    have hwr := hbr.size
    by_cases hkl : k < L.length
    · have hki : (k : Int) < L.length := by omega
      have hk0 : (0 : Int) ≤ k := by omega
      have hx := getD_of (d := lv0) hkl
      have hxm := List.mem_of_getElem? hx
      obtain ⟨ob, oo, rfl, hoz, hoc⟩ := HP.out (by rintro rfl; simp at hkl)
      have ec := hoc k _ hx
      have q : ∀ j, wr.cell? ⟨ob, j, none⟩ = w.cell? ⟨ob, j, none⟩ := fun j => hbr.cell (p := ⟨ob, j, none⟩) hoz
      have hpr := HI.out.part _ hxm
      have hwf := HI.out.lot _ hxm
      have hwi := HI.out.id _ hxm
      have HST := Lib.hid (fun h => lotsE_stop hok h L.length hkl)
      have hL1 : lotsE L (k + 1) = if lotsE L k ≠ 0 then lotsE L k else oneE (fun y => (kn L k y).isSome) (L.getD k lv0) := rfl
      rw [if_neg (by simpa using hok)] at hL1
      have hKN : kn L (k + 1) = fun y => if y = (L.getD k lv0).id then some (k : Int) else kn L k y := rfl
      have hKS : ks L (k + 1) = if (kn L k (L.getD k lv0).id).isSome = true then ks L k else ks L k + 1 := rfl
      have HKN := Lib.hid hKN
      have HKS := Lib.hid hKS
      clear hx hxm hoc hok hKN hKS
      generalize L.getD k lv0 = x at *
      have e0 : World.cell? wr ⟨ob, oo + k * 5, none⟩ = some (.int .i64 (x).id) := (q _).trans (ec 0 (by omega))
      have e1 : World.cell? wr ⟨ob, oo + k * 5 + 1, none⟩ = some (.int .i64 (x).mat) := (q _).trans (ec 1 (by omega))
      have e2 : World.cell? wr ⟨ob, oo + k * 5 + 2, none⟩ = some (.int .i64 (x).lo) := (q _).trans (ec 2 (by omega))
      have e3 : World.cell? wr ⟨ob, oo + k * 5 + 3, none⟩ = some (.int .i64 (x).hi) := (q _).trans (ec 3 (by omega))
      have e4 : World.cell? wr ⟨ob, oo + k * 5 + 4, none⟩ = some ((x).pv) := (q _).trans (ec 4 (by omega))
      clear ec q
      obtain ⟨xi, xm, xl, xh, xv, ps⟩ := x
      dsimp only at *
      obtain ⟨pa, pc, hpv, r1, r2, _, _⟩ := hpr.at_
      subst hpv
      unfold maxLen at r2
      have hbx : Below wr.heap.size wr (wr.alloc (.cells #[.int .i64 xi, .int .i64 xm, .int .i64 xl, .int .i64 xh, .slice pa ps.length pc] 49)) := by repeat (first | (with_reducible exact Below.refl _ _) | (with_reducible assumption) | (with_reducible refine Below.drew ?_) | ((with_reducible refine Below.alloc ?_ ?_ _); rotate_left; (first | (with_reducible exact Nat.zero_le _) | (with_reducible exact Nat.le_refl _) | omega | (dsimp only; omega) | (simp only [World.size_alloc, World.size_setCell, World.size_drew]; omega))) | ((with_reducible refine Below.setCell ?_ ?_ _); rotate_left; (first | (with_reducible exact Nat.zero_le _) | (with_reducible exact Nat.le_refl _) | omega | (dsimp only; omega) | (simp only [World.size_alloc, World.size_setCell, World.size_drew]; omega))))
      have BX := Blk.new wr 49 #[.int .i64 xi, .int .i64 xm, .int .i64 xl, .int .i64 xh, .slice pa ps.length pc]
      have hmz := hmp.step hbx
      have hbz := hbr.trans (hbx.mono hwr)
      have hone := one_any ⟨xi, xm, xl, xh, .slice pa ps.length pc, ps⟩ hmz (hpr.step hbz) hwf
      have hkm : k < maxLen := by unfold maxLen; omega
      clear hwf hpr
      generalize oneE (fun y => (kn L k y).isSome) ⟨xi, xm, xl, xh, .slice pa ps.length pc, ps⟩ = OE at *
      by_cases h0 : OE = 0
      case neg =>
        have h0' : (OE != 0) = true := by simpa using h0
        have hfin := HST.out h0
        have HF := Lib.hid (HC.out.trans (by rw [if_pos (by rw [hfin]; exact h0), hfin]))
        clear h0 hL1 hfin
        go_wp2_with fail
        refine hone.mono ?_
        rintro e w3 ⟨rfl, hb3⟩
        go_wp2_with fail
        go_ret
        exact ⟨by rw [HF.out]; rfl, hbz.trans (hb3.mono hbz.size)⟩
      subst h0
      have HL1 := Lib.hid hL1
      clear hL1 HST
      go_wp2_with fail
      refine hone.mono ?_
      rintro e w3 ⟨rfl, hb3⟩
      replace BX := BX.step hb3
      have cx := BX.cell
      have lx := BX.lt
      replace hbz := hbz.trans (hb3.mono hbz.size)
      replace hmz := hmz.step hb3
      clear e0 e1 e2 e3 e4 hone
      go_wp2_with (at_mapUpdate; refine wpList_update_map rfl _ _ _ 101 rfl 3 Try.underlying3 Try.underlying101 rfl hmz hkm _ (k : Int) rfl rfl hwi ?_; intro w6 hm6 hg6)
      have hb6 := Below.grown hbz hg6 hbz.size (fun j hj => by cases hj; exact Nat.le_refl _)
      clear hg6
      go_roundw
      case rel => exact ⟨k + 1, hkl, by simp, HL1.out, hb6, by rw [HKN.out, HKS.out]; exact hm6⟩
      case measure => simp [intOf]; omega
    · obtain rfl : k = L.length := by omega
      obtain ⟨z1, z2⟩ := ks_le L L.length
      have HPO := Lib.hid (partsOk hok HG.out)
      have hC1 := HC.out.trans (if_neg (by simpa using hok))
      have HOK := Lib.hid hok
      clear hok
      generalize ks L L.length = KS at *
      cases hnd : nodup L L.length with
      | false =>
        rw [hnd, if_pos rfl] at hC1
        have hlt : (KS : Int) < L.length := by
          have : KS ≠ L.length := fun h => by rw [z2.1 h] at hnd; cases hnd
          omega
        have HF := Lib.hid hC1
        clear z2 hnd hC1
        go_wp2_with (at_len; refine wpList_len_map rfl _ 101 rfl 3 Try.underlying101 rfl hmp ?_)
        go_ret
        exact ⟨by rw [HF.out]; rfl, hbr⟩
      | true =>
        rw [hnd, if_neg (by simp)] at hC1
        have hlt : ¬ (KS : Int) < L.length := by have := z2.2 hnd; omega
        have HF := Lib.hid hC1
        clear z2 hnd hC1
        have htk := HTK.out _ (HI.out.step hbr) HPO.out
        go_wp2_with (at_len; refine wpList_len_map rfl _ 101 rfl 3 Try.underlying101 rfl hmp ?_)
        refine htk.mono ?_
        rintro e w3 ⟨bt, nt, ft, st, rfl, hmt, hft, hb3⟩
        have hbz := hbr.trans (hb3.mono hwr)
        have hz3 := hbz.size
        clear htk hmp
        go_wp2_with fail
        go_loopw [41] (fun i wz => C2Rel w3 L i wz) (fun i _ => (L.length - intOf i).toNat)
        case atStart => exact ⟨0, Nat.zero_le _, rfl, rfl, Below.refl _ _⟩
        case round =>
          clear hbr hwr
          obtain ⟨k, hk, rfl, hok, hbr⟩ := hrel
          have hwr := hbr.size
          have hball := hbz.trans (hbr.mono hz3)
          by_cases hkl : k < L.length
          · have hki : (k : Int) < L.length := by omega
            have hk0 : (0 : Int) ≤ k := by omega
            have hx := getD_of (d := lv0) hkl
            have hxm := List.mem_of_getElem? hx
            obtain ⟨ob, oo, rfl, hoz, hoc⟩ := HP.out (by rintro rfl; simp at hkl)
            have ec := hoc k _ hx
            have q : ∀ j, wr.cell? ⟨ob, j, none⟩ = w.cell? ⟨ob, j, none⟩ := fun j => hball.cell (p := ⟨ob, j, none⟩) hoz
            have hwi := HI.out.id _ hxm
            have hpr := HI.out.part _ hxm
            have HST := Lib.hid (fun h => overE_stop hok h L.length hkl)
            have HNX := Lib.hid (fun h => overE_next hok h)
            have hfy := hft (L.getD k lv0).id
            clear hx hxm hoc hok
            generalize L.getD k lv0 = x at *
            have e0 : World.cell? wr ⟨ob, oo + k * 5, none⟩ = some (.int .i64 (x).id) := (q _).trans (ec 0 (by omega))
            have e1 : World.cell? wr ⟨ob, oo + k * 5 + 1, none⟩ = some (.int .i64 (x).mat) := (q _).trans (ec 1 (by omega))
            have e2 : World.cell? wr ⟨ob, oo + k * 5 + 2, none⟩ = some (.int .i64 (x).lo) := (q _).trans (ec 2 (by omega))
            have e3 : World.cell? wr ⟨ob, oo + k * 5 + 3, none⟩ = some (.int .i64 (x).hi) := (q _).trans (ec 3 (by omega))
            have e4 : World.cell? wr ⟨ob, oo + k * 5 + 4, none⟩ = some ((x).pv) := (q _).trans (ec 4 (by omega))
            clear ec q
            obtain ⟨xi, xm, xl, xh, xv, ps⟩ := x
            dsimp only at *
            obtain ⟨pa, pc, hpv, r1, r2, _, _⟩ := hpr.at_
            subst hpv
            unfold maxLen at r2
            clear hpr
            have hbx : Below wr.heap.size wr (wr.alloc (.cells #[.int .i64 xi, .int .i64 xm, .int .i64 xl, .int .i64 xh, .slice pa ps.length pc] 49)) := by repeat (first | (with_reducible exact Below.refl _ _) | (with_reducible assumption) | (with_reducible refine Below.drew ?_) | ((with_reducible refine Below.alloc ?_ ?_ _); rotate_left; (first | (with_reducible exact Nat.zero_le _) | (with_reducible exact Nat.le_refl _) | omega | (dsimp only; omega) | (simp only [World.size_alloc, World.size_setCell, World.size_drew]; omega))) | ((with_reducible refine Below.setCell ?_ ?_ _); rotate_left; (first | (with_reducible exact Nat.zero_le _) | (with_reducible exact Nat.le_refl _) | omega | (dsimp only; omega) | (simp only [World.size_alloc, World.size_setCell, World.size_drew]; omega))))
            have hmz := (hmt.step hbr).step hbx
            generalize tk L xi = T at *
            have HFY := Lib.hid hfy
            clear hfy
            have hfd := fun w => fieldS T.lo T.hi w
            by_cases ho : T.lo > xh
            · have HF2 := Lib.hid (HF.out.trans (HST.out ho))
              clear HST HNX
              go_wp2_with (at_lookup; refine wpList_lookup_map rfl _ _ 84 rfl 32 Try.underlying3 Try.underlying84 sp0 (zeroS _) rfl hmz _ rfl hwi ?_; rw [HFY.out]; show wpList _ _ _ _ (Act.put _ _ (.agg #[.int .i64 T.lo, .int .i64 T.hi])) _)
              go_ret
              exact ⟨by rw [HF2.out]; rfl, hball.trans (hbx.mono hball.size)⟩
            · have HN2 := Lib.hid (HNX.out ho)
              clear HST HNX
              go_wp2_with (at_lookup; refine wpList_lookup_map rfl _ _ 84 rfl 32 Try.underlying3 Try.underlying84 sp0 (zeroS _) rfl hmz _ rfl hwi ?_; rw [HFY.out]; show wpList _ _ _ _ (Act.put _ _ (.agg #[.int .i64 T.lo, .int .i64 T.hi])) _)
              go_roundw
              case rel => exact ⟨k + 1, hkl, by simp, HN2.out, hbr.trans (hbx.mono hwr)⟩
              case measure => simp [intOf]; omega
          · obtain rfl : k = L.length := by omega
            have HF2 := Lib.hid (HF.out.trans hok)
            clear hok
            go_wp2_with fail
            go_ret
            exact ⟨by rw [HF2.out]; rfl, hball⟩

end Go.Proofs.Ytapfihlfnaebhaa
