/- Contract: Stock of the program. -/
import Derived.Test.YtapfihlfnaebhaaLotF
namespace Go.Proofs.Ytapfihlfnaebhaa
set_option linter.unusedVariables false
set_option linter.unusedSimpArgs false
open Go.RowKit

/-- What is left of the first k lots of a material. -/
def stS (L : List Lv) (m : Int) : Nat → Sp
  | 0 => sp0
  | k + 1 => if (L.getD k lv0).mat = m then ⟨(stS L m k).lo + (restS (L.getD k lv0) (tk L (L.getD k lv0).id)).lo, (stS L m k).hi + (restS (L.getD k lv0) (tk L (L.getD k lv0).id)).hi⟩ else stS L m k
def lstE (L : List Lv) (m : Int) : Int := if chkL L ≠ 0 then chkL L else if m < 0 ∨ m ≥ 16 then 21 else if (stS L m L.length).hi > 70368744177664 then 2 else 0
def lstS (L : List Lv) (m : Int) : Sp := if lstE L m = 0 then stS L m L.length else sp0
theorem overE_at {l : List Lv} : ∀ {n : Nat}, overE l n = 0 → ∀ k, k < n → ¬ (tk l (l.getD k lv0).id).lo > (l.getD k lv0).hi
  | 0, _, k, hk => absurd hk (Nat.not_lt_zero _)
  | n + 1, h, k, hk => by
    unfold overE at h
    by_cases h0 : overE l n = 0
    · rw [if_neg (by simpa using h0)] at h
      by_cases e : k = n
      · subst e; intro hh; rw [if_pos hh] at h; cases h
      · exact overE_at h0 k (by omega)
    · rw [if_pos h0] at h; exact absurd h h0
theorem rest_bd {L : List Lv} (h : chkL L = 0) {k : Nat} (hk : k < L.length) : 0 ≤ (restS (L.getD k lv0) (tk L (L.getD k lv0).id)).lo ∧ (restS (L.getD k lv0) (tk L (L.getD k lv0).id)).lo ≤ 70368744177664 ∧ 0 ≤ (restS (L.getD k lv0) (tk L (L.getD k lv0).id)).hi ∧ (restS (L.getD k lv0) (tk L (L.getD k lv0).id)).hi ≤ 70368744177664 := by
  obtain ⟨ok1, ok2, ok3, ok4⟩ := chkL_ok h
  have h1 := lot_ok ok2 hk
  have h2 := overE_at ok4 k hk
  have h3 := tk_bd (partsOk ok2 ok1) (L.getD k lv0).id L.length (Nat.le_refl _)
  rw [List.take_length] at h3
  unfold restS
  generalize tk L (L.getD k lv0).id = T at *
  dsimp only
  split <;> omega
theorem stS_bd {L : List Lv} (h : chkL L = 0) (m : Int) : ∀ k, k ≤ L.length → 0 ≤ (stS L m k).lo ∧ (stS L m k).lo ≤ 70368744177664 * k ∧ 0 ≤ (stS L m k).hi ∧ (stS L m k).hi ≤ 70368744177664 * k
  | 0, _ => by simp [stS, sp0]
  | k + 1, hk => by
    have ih := stS_bd h m k (by omega)
    have hr := rest_bd h (show k < L.length by omega)
    unfold stS
    split <;> (try dsimp only) <;> omega
def SkRel (w2 : World) (L : List Lv) (m : Int) (i : Value) (wr : World) : Prop := ∃ k : Nat, k ≤ L.length ∧ i = .int .i64 k ∧ Below w2.heap.size w2 wr ∧ Blk wr w2.heap.size 32 #[.int .i64 (stS L m k).lo, .int .i64 (stS L m k).hi]
set_option maxRecDepth 100000 in
set_option maxHeartbeats 8000000 in
theorem lstock_any {w : World} {v : Value} {L : List Lv} (h : LotsIn w v L) (m : Int) : Calls Try.prog 16 #[v, .int .i64 m] w fun e w' => e = .returned (.tuple #[.agg #[.int .i64 (lstS L m).lo, .int .i64 (lstS L m).hi], .int .i64 (lstE L m)]) ∧ Below w.heap.size w w' := by
  have hS : lstS L m = if lstE L m = 0 then stS L m L.length else sp0 := rfl
  have hE : lstE L m = if chkL L ≠ 0 then chkL L else if m < 0 ∨ m ≥ 16 then 21 else if (stS L m L.length).hi > 70368744177664 then 2 else 0 := rfl
  have hb : Below w.heap.size w (w.alloc (.cells #[.int .i64 0, .int .i64 0] 32)) := by repeat (first | (with_reducible exact Below.refl _ _) | (with_reducible assumption) | (with_reducible refine Below.drew ?_) | ((with_reducible refine Below.alloc ?_ ?_ _); rotate_left; (first | (with_reducible exact Nat.zero_le _) | (with_reducible exact Nat.le_refl _) | omega | (dsimp only; omega) | (simp only [World.size_alloc, World.size_setCell, World.size_drew]; omega))) | ((with_reducible refine Below.setCell ?_ ?_ _); rotate_left; (first | (with_reducible exact Nat.zero_le _) | (with_reducible exact Nat.le_refl _) | omega | (dsimp only; omega) | (simp only [World.size_alloc, World.size_setCell, World.size_drew]; omega))))
  have BR := Blk.new w 32 #[.int .i64 0, .int .i64 0]
  have h1 := h.step (w' := w.alloc (.cells #[.int .i64 0, .int .i64 0] 32)) (by repeat (first | (with_reducible exact Below.refl _ _) | (with_reducible assumption) | (with_reducible refine Below.drew ?_) | ((with_reducible refine Below.alloc ?_ ?_ _); rotate_left; (first | (with_reducible exact Nat.zero_le _) | (with_reducible exact Nat.le_refl _) | omega | (dsimp only; omega) | (simp only [World.size_alloc, World.size_setCell, World.size_drew]; omega))) | ((with_reducible refine Below.setCell ?_ ?_ _); rotate_left; (first | (with_reducible exact Nat.zero_le _) | (with_reducible exact Nat.le_refl _) | omega | (dsimp only; omega) | (simp only [World.size_alloc, World.size_setCell, World.size_drew]; omega)))))
  have hck := lcheck_any h1
  have htk := fun w h hok => taken_any (w := w) (v := v) (L := L) h hok
  generalize lstE L m = OE at *
  generalize lstS L m = OS at *
  by_cases h0 : chkL L = 0
  case neg =>
    have h0' : (chkL L != 0) = true := by simpa using h0
    rw [if_pos h0] at hE
    rw [hE, if_neg h0] at hS
    rw [hE, hS]
    clear hE hS htk h0
    generalize chkL L = E at *
    go_enter Try.func16, Try.ntmps16
    go_wp2_with fail
    refine hck.mono ?_
    rintro e w1 ⟨rfl, hb1⟩
    replace BR := BR.step hb1
    have cr := BR.cell
    have fr := BR.free
    have lr := BR.lt
    replace hb := hb.trans (hb1.mono hb.size)
    go_wp2_with fail
    refine bodyPost_ret (v := .tuple #[.agg #[.int .i64 0, .int .i64 0], .int .i64 E]) (by simp only [results, Try.results16]; go_simp; first | done | rfl) rfl ?_
    refine ⟨rfl, ?_⟩
    repeat (first | (with_reducible exact Below.refl _ _) | (with_reducible assumption) | (with_reducible refine Below.drew ?_) | ((with_reducible refine Below.alloc ?_ ?_ _); rotate_left; (first | (with_reducible exact Nat.zero_le _) | (with_reducible exact Nat.le_refl _) | omega | (dsimp only; omega) | (simp only [World.size_alloc, World.size_setCell, World.size_drew]; omega))) | ((with_reducible refine Below.setCell ?_ ?_ _); rotate_left; (first | (with_reducible exact Nat.zero_le _) | (with_reducible exact Nat.le_refl _) | omega | (dsimp only; omega) | (simp only [World.size_alloc, World.size_setCell, World.size_drew]; omega))))
  rw [if_neg (by simpa using h0)] at hE
  rw [h0] at hck
  by_cases g : m < 0 ∨ m ≥ 16
  · rw [if_pos g] at hE
    rw [hE, if_neg (by decide)] at hS
    rw [hE, hS]
    clear hE hS htk h0
    rcases (show m < 0 ∨ (¬ m < 0 ∧ m ≥ 16) by omega) with d1 | ⟨d1, d2⟩
    all_goals (
      go_enter Try.func16, Try.ntmps16
      go_wp2_with fail
      refine hck.mono ?_
      rintro e w1 ⟨rfl, hb1⟩
      replace BR := BR.step hb1
      have cr := BR.cell
      have fr := BR.free
      have lr := BR.lt
      replace hb := hb.trans (hb1.mono hb.size)
      go_wp2_with fail
      refine bodyPost_ret (v := .tuple #[.agg #[.int .i64 0, .int .i64 0], .int .i64 21]) (by simp only [results, Try.results16]; go_simp; first | done | rfl) rfl ?_
      refine ⟨rfl, ?_⟩
      repeat (first | (with_reducible exact Below.refl _ _) | (with_reducible assumption) | (with_reducible refine Below.drew ?_) | ((with_reducible refine Below.alloc ?_ ?_ _); rotate_left; (first | (with_reducible exact Nat.zero_le _) | (with_reducible exact Nat.le_refl _) | omega | (dsimp only; omega) | (simp only [World.size_alloc, World.size_setCell, World.size_drew]; omega))) | ((with_reducible refine Below.setCell ?_ ?_ _); rotate_left; (first | (with_reducible exact Nat.zero_le _) | (with_reducible exact Nat.le_refl _) | omega | (dsimp only; omega) | (simp only [World.size_alloc, World.size_setCell, World.size_drew]; omega)))))
  rw [if_neg g] at hE
  have g1 : ¬ m < 0 := by omega
  have g2 : ¬ m ≥ 16 := by omega
  obtain ⟨ok1, ok2, ok3, ok4⟩ := chkL_ok h0
  have HPO := Lib.hid (partsOk ok2 ok1)
  have HOK := Lib.hid ok2
  have HRB := Lib.hid (fun k hk => rest_bd h0 (k := k) hk)
  have HSB := Lib.hid (fun k hk => stS_bd h0 m k hk)
  have hfew : L.length ≤ 512 := by omega
  have HE := Lib.hid hE
  have HS := Lib.hid hS
  have HI := Lib.hid h
  obtain ⟨oa, cap, hv, p1, p2, _, hp5⟩ := h.row.at_
  unfold maxLen at p2
  subst hv
  have HP := Lib.hid hp5
  clear hE hS g h0 ok1 ok2 ok3 ok4 hp5 h
  go_enter Try.func16, Try.ntmps16
  go_wp2_with fail
  refine hck.mono ?_
  rintro e w1 ⟨rfl, hb1⟩
  replace BR := BR.step hb1
  replace h1 := h1.step hb1
  replace hb := hb.trans (hb1.mono hb.size)
  clear hck hb1
  go_wp2_with fail
  refine (htk _ h1 HPO.out).mono ?_
  rintro e w2 ⟨bt, nt, ft, st, rfl, hmt, hft, hb2⟩
  replace BR := BR.step hb2
  replace hb := hb.trans (hb2.mono hb.size)
  clear htk h1 hb2
  have hz2 := hb.size
  have hlr := BR.lt
  go_wp2_with fail
  go_loopw [29] (fun i wr => SkRel w2 L m i wr) (fun i _ => (L.length - intOf i).toNat)
  case atStart => exact ⟨0, Nat.zero_le _, rfl, by repeat (first | (with_reducible exact Below.refl _ _) | (with_reducible assumption) | (with_reducible refine Below.drew ?_) | ((with_reducible refine Below.alloc ?_ ?_ _); rotate_left; (first | (with_reducible exact Nat.zero_le _) | (with_reducible exact Nat.le_refl _) | omega | (dsimp only; omega) | (simp only [World.size_alloc, World.size_setCell, World.size_drew]; omega))) | ((with_reducible refine Below.setCell ?_ ?_ _); rotate_left; (first | (with_reducible exact Nat.zero_le _) | (with_reducible exact Nat.le_refl _) | omega | (dsimp only; omega) | (simp only [World.size_alloc, World.size_setCell, World.size_drew]; omega)))), Blk.new w2 32 #[.int .i64 0, .int .i64 0]⟩
  case round =>
    obtain ⟨k, hk, rfl, hbr, BO⟩ := hrel
    have hwr := hbr.size
    have hball := hb.trans (hbr.mono hz2)
    by_cases hkl : k < L.length
    · have hki : (k : Int) < L.length := by omega
      have hk0 : (0 : Int) ≤ k := by omega
      have hx := getD_of (d := lv0) hkl
      have hxm := List.mem_of_getElem? hx
      obtain ⟨ob, oo, rfl, hoz, hoc⟩ := HP.out (by rintro rfl; simp at hkl)
      have ec := hoc k _ hx
      have q : ∀ j, wr.cell? ⟨ob, j, none⟩ = w.cell? ⟨ob, j, none⟩ := fun j => hball.cell (p := ⟨ob, j, none⟩) hoz
      have hpr := HI.out.part _ hxm
      have hwi := HI.out.id _ hxm
      have hlo := lot_ok HOK.out hkl
      have htb := tk_bd HPO.out (L.getD k lv0).id L.length (Nat.le_refl _)
      rw [List.take_length] at htb
      have hrb := HRB.out k hkl
      have hsb := HSB.out k (by omega)
      have hST : stS L m (k + 1) = if (L.getD k lv0).mat = m then ⟨(stS L m k).lo + (restS (L.getD k lv0) (tk L (L.getD k lv0).id)).lo, (stS L m k).hi + (restS (L.getD k lv0) (tk L (L.getD k lv0).id)).hi⟩ else stS L m k := rfl
      have hfy := hft (L.getD k lv0).id
      have hre := fun w pa pc hpv h1 h2 => rest_any (L.getD k lv0) (tk L (L.getD k lv0).id) w (pa := pa) (pc := pc) hpv h1 h2
      clear hx hxm hoc
      generalize restS (L.getD k lv0) (tk L (L.getD k lv0).id) = R at *
      generalize L.getD k lv0 = x at *
      have e0 : World.cell? wr ⟨ob, oo + k * 5, none⟩ = some (.int .i64 x.id) := (q _).trans (ec 0 (by omega))
      have e1 : World.cell? wr ⟨ob, oo + k * 5 + 1, none⟩ = some (.int .i64 x.mat) := (q _).trans (ec 1 (by omega))
      have e2 : World.cell? wr ⟨ob, oo + k * 5 + 2, none⟩ = some (.int .i64 x.lo) := (q _).trans (ec 2 (by omega))
      have e3 : World.cell? wr ⟨ob, oo + k * 5 + 3, none⟩ = some (.int .i64 x.hi) := (q _).trans (ec 3 (by omega))
      have e4 : World.cell? wr ⟨ob, oo + k * 5 + 4, none⟩ = some (x.pv) := (q _).trans (ec 4 (by omega))
      clear ec q
      obtain ⟨xi, xm, xl, xh, xv, ps⟩ := x
      dsimp only at *
      obtain ⟨pa, pc, hpv, r1, r2, _, _⟩ := hpr.at_
      subst hpv
      unfold maxLen at r2
      have hre1 := fun w => hre w pa pc rfl (by omega) (by omega)
      clear hpr hre
      generalize tk L xi = T at *
      generalize stS L m k = SS at *
      have HFY := Lib.hid hfy
      have hbx : Below wr.heap.size wr (wr.alloc (.cells #[.int .i64 xi, .int .i64 xm, .int .i64 xl, .int .i64 xh, .slice pa ps.length pc] 49)) := by repeat (first | (with_reducible exact Below.refl _ _) | (with_reducible assumption) | (with_reducible refine Below.drew ?_) | ((with_reducible refine Below.alloc ?_ ?_ _); rotate_left; (first | (with_reducible exact Nat.zero_le _) | (with_reducible exact Nat.le_refl _) | omega | (dsimp only; omega) | (simp only [World.size_alloc, World.size_setCell, World.size_drew]; omega))) | ((with_reducible refine Below.setCell ?_ ?_ _); rotate_left; (first | (with_reducible exact Nat.zero_le _) | (with_reducible exact Nat.le_refl _) | omega | (dsimp only; omega) | (simp only [World.size_alloc, World.size_setCell, World.size_drew]; omega))))
      have hno := BO.lt
      have hne : w2.heap.size ≠ wr.heap.size := by omega
      have hne2 : wr.heap.size ≠ w2.heap.size := by omega
      replace BO := BO.step hbx
      have hmz := (hmt.step hbr).step hbx
      have hbz := hbr.trans (hbx.mono hwr)
      by_cases hm : xm = m
      · rw [if_pos hm] at hST
        have HST := Lib.hid hST
        have hm' : (xm == m) = true := by simpa using hm
        clear hST hfy hm
        go_wp2_with (at_lookup; refine wpList_lookup_map rfl _ _ 84 rfl 32 Try.underlying3 Try.underlying84 sp0 (zeroS _) rfl hmz _ rfl hwi ?_; rw [HFY.out]; show wpList _ _ _ _ (Act.put _ _ (.agg #[.int .i64 T.lo, .int .i64 T.hi])) _)
        refine (hre1 _).mono ?_
        rintro e w4 ⟨rfl, hb4⟩
        replace hbz := hbz.trans (hb4.mono hbz.size)
        replace BO := BO.step hb4
        have co := BO.cell
        have fo := BO.free
        have lo := BO.lt
        have hn3 : w4.heap.size ≠ w2.heap.size := by omega
        have hn4 : w2.heap.size ≠ w4.heap.size := by omega
        obtain ⟨s1, s2, s3, s4⟩ := hsb
        obtain ⟨t1, t2, t3, t4⟩ := hrb
        have BOs := ((BO.put 0 (.int .i64 (SS.lo + R.lo))).put 1 (.int .i64 (SS.hi + R.hi))).alloc (.cells #[.int .i64 R.lo, .int .i64 R.hi] 32)
        have hbs0 := (hbz.setCell (p := ⟨w2.heap.size, 0, none⟩) (Nat.le_refl _) (.int .i64 (SS.lo + R.lo))).setCell (p := ⟨w2.heap.size, 1, none⟩) (Nat.le_refl _) (.int .i64 (SS.hi + R.hi))
        have hbs := hbs0.alloc hbs0.size (.cells #[.int .i64 R.lo, .int .i64 R.hi] 32)
        clear e0 e1 e2 e3 e4 hb4 BO
        go_wp2_with fail
        go_roundw
        case rel => exact ⟨k + 1, hkl, by simp, hbs, by rw [HST.out]; exact BOs⟩
        case measure => simp [intOf]; omega
      · rw [if_neg hm] at hST
        have HST := Lib.hid hST
        have hm' : (xm == m) = false := by simpa using hm
        clear hST hfy hm
        go_wp2_with fail
        go_roundw
        case rel => exact ⟨k + 1, hkl, by simp, hbz, by rw [HST.out]; exact BO⟩
        case measure => simp [intOf]; omega
    · obtain rfl : k = L.length := by omega
      have hEo := HE.out
      have hSo := HS.out
      have BRr := (BR.step hbr)
      generalize stS L m L.length = SS at *
      have co := BO.cell
      have lo := BO.lt
      have cr := BRr.cell
      have fr := BRr.free
      have lr := BRr.lt
      have hzr := hball.size
      by_cases ho : SS.hi > 70368744177664
      · rw [if_pos ho] at hEo
        rw [hEo, if_neg (by decide)] at hSo
        have HEo := Lib.hid hEo
        have HSo := Lib.hid hSo
        clear hEo hSo
        go_wp2_with fail
        refine bodyPost_ret (v := .tuple #[.agg #[.int .i64 0, .int .i64 0], .int .i64 2]) (by simp only [results, Try.results16]; go_simp; first | done | rfl) rfl ?_
        refine ⟨by rw [HEo.out, HSo.out]; rfl, ?_⟩
        repeat (first | (with_reducible exact Below.refl _ _) | (with_reducible assumption) | (with_reducible refine Below.drew ?_) | ((with_reducible refine Below.alloc ?_ ?_ _); rotate_left; (first | (with_reducible exact Nat.zero_le _) | (with_reducible exact Nat.le_refl _) | omega | (dsimp only; omega) | (simp only [World.size_alloc, World.size_setCell, World.size_drew]; omega))) | ((with_reducible refine Below.setCell ?_ ?_ _); rotate_left; (first | (with_reducible exact Nat.zero_le _) | (with_reducible exact Nat.le_refl _) | omega | (dsimp only; omega) | (simp only [World.size_alloc, World.size_setCell, World.size_drew]; omega))))
      · rw [if_neg ho] at hEo
        rw [hEo, if_pos rfl] at hSo
        have HEo := Lib.hid hEo
        have HSo := Lib.hid hSo
        clear hEo hSo
        go_wp2_with fail
        refine bodyPost_ret (v := .tuple #[.agg #[.int .i64 (SS).lo, .int .i64 (SS).hi], .int .i64 0]) (by simp only [results, Try.results16]; go_simp; first | done | rfl) rfl ?_
        refine ⟨by rw [HEo.out, HSo.out], ?_⟩
        repeat (first | (with_reducible exact Below.refl _ _) | (with_reducible assumption) | (with_reducible refine Below.drew ?_) | ((with_reducible refine Below.alloc ?_ ?_ _); rotate_left; (first | (with_reducible exact Nat.zero_le _) | (with_reducible exact Nat.le_refl _) | omega | (dsimp only; omega) | (simp only [World.size_alloc, World.size_setCell, World.size_drew]; omega))) | ((with_reducible refine Below.setCell ?_ ?_ _); rotate_left; (first | (with_reducible exact Nat.zero_le _) | (with_reducible exact Nat.le_refl _) | omega | (dsimp only; omega) | (simp only [World.size_alloc, World.size_setCell, World.size_drew]; omega))))

end Go.Proofs.Ytapfihlfnaebhaa
