/- Contract: Left of the program. -/
import Derived.Test.YtpafcdigcpbbeaaLotE
import Derived.Deep.RegionHeld3
namespace Go.Proofs.Ytpafcdigcpbbeaa
set_option linter.unusedVariables false
set_option linter.unusedSimpArgs false
open Go.RowKit

theorem MapIs.run_look {α : Type} {E : Elem α} {w : World} {P : Program} {k t e : TypeId} {b n s : Nat} {f : Int → Option α} (h : MapIs w P k E b n f s) (hk : P.underlying k = some (.int .i64)) (ht : P.underlying t = some (.map k e))
    (z : α) (hz : (zeroValue e).run P w = .ok (E.val z) w) (key : Int) (hw : (Lit.int .i64 key).wf = true) : (Instr.lookup t (.map (some b)) (.int .i64 key) false).run P w = .ok (E.val ((f key).getD z)) w := by
  obtain ⟨D, h1, h2, h3, h4⟩ := h
  obtain ⟨v, ps, hrun, hv⟩ := h1.lookup (Maps.int_keyed hk) ht hz (E.R_val z) (Maps.keyOf_int_mk hk hw)
  obtain ⟨c, rfl, hc⟩ := E.R_inv hv
  have hat := (h4 key).2 (E.dat z)
  have hcz : c = (f key).getD z := by
    refine E.dinj _ _ ?_
    have : D.atKey (.int .i64 key) (E.dat z) = E.dat c := congrArg Prod.fst hc
    rw [← this, hat]
    cases f key <;> rfl
  subst hcz
  exact hrun
def lefE (L : List Lv) (id : Int) : Int := if chkL L ≠ 0 then chkL L else if kn L L.length id = none then 7 else 0
def lefS (L : List Lv) (id : Int) : Sp := if lefE L id = 0 then restS (L.getD ((kn L L.length id).getD 0).toNat lv0) (tk L id) else sp0
/-- What a list without errors meets. -/
theorem chkL_ok {L : List Lv} (h : chkL L = 0) : ¬ L.length > 512 ∧ lotsE L L.length = 0 ∧ nodup L L.length = true ∧ overE L L.length = 0 := by
  unfold chkL at h
  split at h
  · omega
  split at h
  · rename_i h1; exact absurd h h1
  split at h
  · omega
  rename_i h1 h2 h3
  exact ⟨h1, by simpa using h2, by simpa using h3, h⟩
theorem lot_ok {L : List Lv} (h : lotsE L L.length = 0) {k : Nat} (hk : k < L.length) : 1 ≤ (L.getD k lv0).id ∧ (L.getD k lv0).id ≤ 1000000 ∧ 0 ≤ (L.getD k lv0).mat ∧ (L.getD k lv0).mat < 16 ∧ (0 ≤ (L.getD k lv0).lo ∧ (L.getD k lv0).lo ≤ (L.getD k lv0).hi ∧ (L.getD k lv0).hi ≤ 70368744177664) ∧ (L.getD k lv0).parts.length ≤ 8 :=
  headE_ok (oneE_ok (lotsE_at h k hk).2).1
theorem look_T {w : World} {b n s : Nat} {f : Int → Option Sp} {L : List Lv} {T : Sp} {id : Int} (hm : MapIs w Try.prog 3 eSp b n f s) (hf : ∀ y, (f y).getD sp0 = tk L y) (hT : T = tk L id) (hid : (Lit.int .i64 id).wf = true) :
    (Instr.lookup 56 (.map (some b)) (.int .i64 id) false).run Try.prog w = .ok (.agg #[.int .i64 T.lo, .int .i64 T.hi]) w := by
  rw [hm.run_look (e := 29) Try.underlying3 Try.underlying56 sp0 (zeroS _) id hid, hf id, hT]
  rfl
set_option maxRecDepth 100000 in
set_option maxHeartbeats 8000000 in
theorem left_any {w : World} {v : Value} {L : List Lv} (h : LotsIn w v L) (id : Int) (hid : (Lit.int .i64 id).wf = true) : Calls Try.prog 15 #[v, .int .i64 id] w fun e w' => e = .returned (.tuple #[.agg #[.int .i64 (lefS L id).lo, .int .i64 (lefS L id).hi], .int .i64 (lefE L id)]) ∧ Below w.heap.size w w' := by
  have hS : lefS L id = if lefE L id = 0 then restS (L.getD ((kn L L.length id).getD 0).toNat lv0) (tk L id) else sp0 := rfl
  have hE : lefE L id = if chkL L ≠ 0 then chkL L else if kn L L.length id = none then 7 else 0 := rfl
  have hb : Below w.heap.size w (w.alloc (.cells #[.int .i64 0, .int .i64 0] 29)) := by repeat (first | (with_reducible exact Below.refl _ _) | (with_reducible assumption) | (with_reducible refine Below.drew ?_) | ((with_reducible refine Below.alloc ?_ ?_ _); rotate_left; (first | (with_reducible exact Nat.zero_le _) | (with_reducible exact Nat.le_refl _) | omega | (dsimp only; omega) | (simp only [World.size_alloc, World.size_setCell, World.size_drew]; omega))) | ((with_reducible refine Below.setCell ?_ ?_ _); rotate_left; (first | (with_reducible exact Nat.zero_le _) | (with_reducible exact Nat.le_refl _) | omega | (dsimp only; omega) | (simp only [World.size_alloc, World.size_setCell, World.size_drew]; omega))))
  have BR := Blk.new w 29 #[.int .i64 0, .int .i64 0]
  have h1 := h.step (w' := w.alloc (.cells #[.int .i64 0, .int .i64 0] 29)) (by repeat (first | (with_reducible exact Below.refl _ _) | (with_reducible assumption) | (with_reducible refine Below.drew ?_) | ((with_reducible refine Below.alloc ?_ ?_ _); rotate_left; (first | (with_reducible exact Nat.zero_le _) | (with_reducible exact Nat.le_refl _) | omega | (dsimp only; omega) | (simp only [World.size_alloc, World.size_setCell, World.size_drew]; omega))) | ((with_reducible refine Below.setCell ?_ ?_ _); rotate_left; (first | (with_reducible exact Nat.zero_le _) | (with_reducible exact Nat.le_refl _) | omega | (dsimp only; omega) | (simp only [World.size_alloc, World.size_setCell, World.size_drew]; omega)))))
  have hfb := fun w h h0 => find_bad (w := w) (v := v) (L := L) h id h0
  have hfa := fun w h h0 => find_any (w := w) (v := v) (L := L) h id hid h0
  have htk := fun w h hok => taken_any (w := w) (v := v) (L := L) h hok
  generalize lefE L id = OE at *
  generalize lefS L id = OS at *
  by_cases h0 : chkL L = 0
  case neg =>
    have h0' : (chkL L != 0) = true := by simpa using h0
    have hf := hfb _ h1 h0
    rw [if_pos h0] at hE
    rw [hE, if_neg h0] at hS
    rw [hE, hS]
    clear hE hS hfb hfa htk h0
    generalize chkL L = E at *
    go_enter Try.func15, Try.ntmps15
    go_wp2_with fail
    refine hf.mono ?_
    rintro e w1 ⟨rfl, hb1⟩
    replace BR := BR.step hb1
    have cr := BR.cell
    have fr := BR.free
    have lr := BR.lt
    replace hb := hb.trans (hb1.mono hb.size)
    go_wp2_with fail
    refine bodyPost_ret (v := .tuple #[.agg #[.int .i64 0, .int .i64 0], .int .i64 E]) (by simp only [results, Try.results15]; go_simp; first | done | rfl) rfl ?_
    refine ⟨rfl, ?_⟩
    repeat (first | (with_reducible exact Below.refl _ _) | (with_reducible assumption) | (with_reducible refine Below.drew ?_) | ((with_reducible refine Below.alloc ?_ ?_ _); rotate_left; (first | (with_reducible exact Nat.zero_le _) | (with_reducible exact Nat.le_refl _) | omega | (dsimp only; omega) | (simp only [World.size_alloc, World.size_setCell, World.size_drew]; omega))) | ((with_reducible refine Below.setCell ?_ ?_ _); rotate_left; (first | (with_reducible exact Nat.zero_le _) | (with_reducible exact Nat.le_refl _) | omega | (dsimp only; omega) | (simp only [World.size_alloc, World.size_setCell, World.size_drew]; omega))))
  have hf := hfa _ h1 h0
  rw [if_neg (by simpa using h0)] at hE
  obtain ⟨ok1, ok2, ok3, ok4⟩ := chkL_ok h0
  have HPO := Lib.hid (partsOk ok2 ok1)
  have HOK := Lib.hid ok2
  clear hfb hfa h0 ok2 ok3 ok4
  cases hk : kn L L.length id with
  | none =>
    rw [if_pos hk] at hE
    rw [hE, if_neg (by decide)] at hS
    rw [hE, hS]
    unfold findOut findE at hf
    rw [hk] at hf
    clear hE hS htk hk
    go_enter Try.func15, Try.ntmps15
    go_wp2_with fail
    refine hf.mono ?_
    rintro e w1 ⟨b, n, s, rfl, hm, hb1⟩
    replace BR := BR.step hb1
    have cr := BR.cell
    have fr := BR.free
    have lr := BR.lt
    replace hb := hb.trans (hb1.mono hb.size)
    go_wp2_with fail
    refine bodyPost_ret (v := .tuple #[.agg #[.int .i64 0, .int .i64 0], .int .i64 7]) (by simp only [results, Try.results15]; go_simp; first | done | rfl) rfl ?_
    refine ⟨rfl, ?_⟩
    repeat (first | (with_reducible exact Below.refl _ _) | (with_reducible assumption) | (with_reducible refine Below.drew ?_) | ((with_reducible refine Below.alloc ?_ ?_ _); rotate_left; (first | (with_reducible exact Nat.zero_le _) | (with_reducible exact Nat.le_refl _) | omega | (dsimp only; omega) | (simp only [World.size_alloc, World.size_setCell, World.size_drew]; omega))) | ((with_reducible refine Below.setCell ?_ ?_ _); rotate_left; (first | (with_reducible exact Nat.zero_le _) | (with_reducible exact Nat.le_refl _) | omega | (dsimp only; omega) | (simp only [World.size_alloc, World.size_setCell, World.size_drew]; omega))))
  | some i =>
    obtain ⟨j, hj, rfl, hjid⟩ := kn_at hk
    rw [if_neg (by rw [hk]; simp)] at hE
    rw [hE, if_pos rfl, hk] at hS
    simp only [Option.getD_some, Int.toNat_natCast] at hS
    rw [hE]
    unfold findOut findE at hf
    rw [hk] at hf
    dsimp only at hf
    have hlo := lot_ok HOK.out hj
    have hx := getD_of (d := lv0) hj
    have hxm := List.mem_of_getElem? hx
    have htb := tk_bd HPO.out id L.length (Nat.le_refl _)
    rw [List.take_length] at htb
    have hpr := h.part _ hxm
    obtain ⟨oa, cap, hv, p1, p2, _, hp5⟩ := h.row.at_
    unfold maxLen at p2
    subst hv
    obtain ⟨ob, oo, rfl, hoz, hoc⟩ := hp5 (by rintro rfl; simp at hj)
    have ec := hoc j _ hx
    clear hx hxm hoc hp5 hk hjid hE
    generalize L.getD j lv0 = x at *
    obtain ⟨xi, xm, xl, xh, xv, ps⟩ := x
    dsimp only at *
    obtain ⟨pa, pc, hpv, r1, r2, _, _⟩ := hpr.at_
    subst hpv
    unfold maxLen at r2
    have hre := fun w => rest_any ⟨xi, xm, xl, xh, .slice pa ps.length pc, ps⟩ (tk L id) w rfl (by dsimp only; omega) (by omega)
    rw [← hS] at hre
    clear hpr hS
    obtain ⟨T, hT⟩ : ∃ T, T = tk L id := ⟨_, rfl⟩
    rw [← hT] at htb hre
    have HT := Lib.hid hT
    clear hT
    have hji : (j : Int) < L.length := by omega
    have hj0 : (0 : Int) ≤ j := by omega
    go_enter Try.func15, Try.ntmps15
    go_wp2_with fail
    refine hf.mono ?_
    rintro e w1 ⟨b, n, s, rfl, hm, hb1⟩
    replace BR := BR.step hb1
    replace h1 := h1.step hb1
    replace hb := hb.trans (hb1.mono hb.size)
    clear hf hm hb1 h
    go_wp2_with fail
    have lsb : ob < w1.heap.size := by have := BR.lt; omega
    have nb1 : ob ≠ w.heap.size := by omega
    have nb2 : w.heap.size ≠ ob := by omega
    have q : ∀ j, World.cell? w1 ⟨ob, j, none⟩ = w.cell? ⟨ob, j, none⟩ := fun j => hb.cell (p := ⟨ob, j, none⟩) hoz
    have d0 : World.cell? w1 ⟨ob, oo + j * 5, none⟩ = some (.int .i64 xi) := (q _).trans (ec 0 (by omega))
    have d1 : World.cell? w1 ⟨ob, oo + j * 5 + 1, none⟩ = some (.int .i64 xm) := (q _).trans (ec 1 (by omega))
    have d2 : World.cell? w1 ⟨ob, oo + j * 5 + 2, none⟩ = some (.int .i64 xl) := (q _).trans (ec 2 (by omega))
    have d3 : World.cell? w1 ⟨ob, oo + j * 5 + 3, none⟩ = some (.int .i64 xh) := (q _).trans (ec 3 (by omega))
    have d4 : World.cell? w1 ⟨ob, oo + j * 5 + 4, none⟩ = some (.slice pa ps.length pc) := (q _).trans (ec 4 (by omega))
    clear q ec
    have h1d := h1.step (w' := w1.drew) ((Below.refl _ _).drew)
    have hbd : Below w1.heap.size w1 w1.drew := (Below.refl _ _).drew
    go_region_held3 (fun w' => w'.cell? ⟨ob, oo + j * 5, none⟩ = some (.int .i64 xi) ∧ w'.cell? ⟨ob, oo + j * 5 + 1, none⟩ = some (.int .i64 xm) ∧ w'.cell? ⟨ob, oo + j * 5 + 2, none⟩ = some (.int .i64 xl) ∧ w'.cell? ⟨ob, oo + j * 5 + 3, none⟩ = some (.int .i64 xh) ∧ w'.cell? ⟨ob, oo + j * 5 + 4, none⟩ = some (.slice pa ps.length pc)) (go_keep) ((first
      | (go_at_call 27; refine (htk _ h1d HPO.out).mono ?_; rintro e w5 ⟨bt, nt, ft, st, rfl, hmt, hft, hb5⟩; have hbw := hbd.trans (hb5.mono (Nat.le_refl _)); have q := fun j => hbw.cell (p := ⟨ob, j, none⟩) lsb; have k0 := (q _).trans d0; have k1 := (q _).trans d1; have k2 := (q _).trans d2; have k3 := (q _).trans d3; have k4 := (q _).trans d4; clear q; have hlk : (Instr.lookup 56 (.map (some bt)) (.int .i64 id) false).run Try.prog w5 = .ok (.agg #[.int .i64 T.lo, .int .i64 T.hi]) w5 := look_T hmt hft HT.out hid)
      | (go_at_call 33; refine (hre _).mono ?_; rintro e w6 ⟨rfl, hb6⟩; have hbv := hbw.trans (hb6.mono hbw.size); have q := fun j => hbv.cell (p := ⟨ob, j, none⟩) lsb; have f0 := (q _).trans d0; have f1 := (q _).trans d1; have f2 := (q _).trans d2; have f3 := (q _).trans d3; have f4 := (q _).trans d4; clear q; have BR6 := BR.step hbv; have cr := BR6.cell; have fr := BR6.free; have lr := BR6.lt)))
    all_goals (
      have hz6 := hbv.size
      have hfin := hb.trans (hbv.mono hb.size)
      go_wp2_with fail
      refine bodyPost_ret (v := .tuple #[.agg #[.int .i64 (OS).lo, .int .i64 (OS).hi], .int .i64 0]) (by simp only [results, Try.results15]; go_simp; first | done | rfl) rfl ?_
      refine ⟨rfl, ?_⟩
      repeat (first | (with_reducible exact Below.refl _ _) | (with_reducible assumption) | (with_reducible refine Below.drew ?_) | ((with_reducible refine Below.alloc ?_ ?_ _); rotate_left; (first | (with_reducible exact Nat.zero_le _) | (with_reducible exact Nat.le_refl _) | omega | (dsimp only; omega) | (simp only [World.size_alloc, World.size_setCell, World.size_drew]; omega))) | ((with_reducible refine Below.setCell ?_ ?_ _); rotate_left; (first | (with_reducible exact Nat.zero_le _) | (with_reducible exact Nat.le_refl _) | omega | (dsimp only; omega) | (simp only [World.size_alloc, World.size_setCell, World.size_drew]; omega)))))

end Go.Proofs.Ytpafcdigcpbbeaa
