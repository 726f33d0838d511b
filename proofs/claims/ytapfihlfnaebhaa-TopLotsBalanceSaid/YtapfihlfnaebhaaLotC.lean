/- Contract: what is taken from each lot. -/
import Derived.Test.YtapfihlfnaebhaaLotB
namespace Go.Proofs.Ytapfihlfnaebhaa
set_option linter.unusedVariables false
set_option linter.unusedSimpArgs false
open Go.RowKit

theorem zeroS (w : World) : (zeroValue 32).run Try.prog w = .ok (.agg #[.int .i64 0, .int .i64 0]) w := by kernel_rfl
/-- The parts of lots that are valid. -/
structure PartsOk (L : List Lv) : Prop where
  few : L.length ≤ 512
  eight : ∀ x ∈ L, x.parts.length ≤ 8
  mass : ∀ x ∈ L, ∀ p ∈ x.parts, mOk p.lo p.hi = true
theorem tkP_bd {y : Int} {ps : List Pt} (h : ∀ p ∈ ps, mOk p.lo p.hi = true) {s : Sp} {B : Int} (h0 : 0 ≤ s.lo ∧ s.lo ≤ s.hi ∧ s.hi ≤ B) : ∀ k, k ≤ ps.length → 0 ≤ (tkP y s (ps.take k)).lo ∧ (tkP y s (ps.take k)).lo ≤ (tkP y s (ps.take k)).hi ∧ (tkP y s (ps.take k)).hi ≤ B + 70368744177664 * k
  | 0, _ => by simp [tkP]; exact h0
  | k + 1, hk => by
    have ih := tkP_bd (y := y) h h0 k (by omega)
    have hp : ps[k]? = some (ps[k]'(by omega)) := List.getElem?_eq_getElem (by omega)
    have := mOk_iff.1 (h _ (List.getElem_mem (show k < ps.length by omega)))
    rw [tkP_take y s hp]
    unfold addP
    generalize tkP y s (ps.take k) = S at *
    split <;> (try dsimp only) <;> omega
theorem tk_bd {L : List Lv} (h : PartsOk L) (y : Int) : ∀ k, k ≤ L.length → 0 ≤ (tk (L.take k) y).lo ∧ (tk (L.take k) y).lo ≤ (tk (L.take k) y).hi ∧ (tk (L.take k) y).hi ≤ 562949953421312 * k
  | 0, _ => by simp [tk, sp0]
  | k + 1, hk => by
    have ih := tk_bd h y k (by omega)
    have hx : L[k]? = some (L[k]'(by omega)) := List.getElem?_eq_getElem (by omega)
    have hm := List.getElem_mem (show k < L.length by omega)
    have h8 := h.eight _ hm
    have := tkP_bd (y := y) (h.mass _ hm) ih (L[k]'(by omega)).parts.length (Nat.le_refl _)
    rw [List.take_length] at this
    rw [tk_take y hx]
    omega
def TkRel (w : World) (L : List Lv) (i : Value) (wr : World) : Prop := ∃ k : Nat, k ≤ L.length ∧ i = .int .i64 k ∧ Below w.heap.size w wr ∧ ∃ n f s, n ≤ 8 * k ∧ MapIs wr Try.prog 3 eSp w.heap.size n f s ∧ ∀ y, (f y).getD sp0 = tk (L.take k) y
def TpRel (w : World) (L : List Lv) (k : Nat) (ps : List Pt) (i : Value) (wr : World) : Prop := ∃ j : Nat, j ≤ ps.length ∧ i = .int .i64 j ∧ Below w.heap.size w wr ∧ ∃ n f s, n ≤ 8 * k + j ∧ MapIs wr Try.prog 3 eSp w.heap.size n f s ∧ ∀ y, (f y).getD sp0 = tkP y (tk (L.take k) y) (ps.take j)
def mapOut (w : World) (L : List Lv) (e : Ending) (w' : World) : Prop := ∃ b n f s, e = .returned (.map (some b)) ∧ MapIs w' Try.prog 3 eSp b n f s ∧ (∀ y, (f y).getD sp0 = tk L y) ∧ Below w.heap.size w w'
set_option maxRecDepth 100000 in
set_option maxHeartbeats 8000000 in
theorem taken_any {w : World} {v : Value} {L : List Lv} (h : LotsIn w v L) (hok : PartsOk L) : Calls Try.prog 43 #[v] w (mapOut w L) := by
  obtain ⟨oa, cap, hv, p1, p2, _, hp5⟩ := h.row.at_
  unfold maxLen at p2
  subst hv
  have HP := Lib.hid hp5
  have HI := Lib.hid h
  have hfew := hok.few
  have HOK := Lib.hid hok
  have HTB := Lib.hid (fun y => tk_bd hok y)
  clear hp5 h hok
  have hmm := @run_makeMap Try.prog
  go_enter Try.func43, Try.ntmps43
  go_wp2_with fail
  clear hmm
  go_loopw [12] (fun i wr => TkRel w L i wr) (fun i _ => (L.length - intOf i).toNat)
  case atStart => exact ⟨0, Nat.zero_le _, rfl, (Below.refl _ _).alloc (Nat.le_refl _) _, 0, _, _, Nat.le_refl _, MapIs.made _ _ _ _, fun y => rfl⟩
  case round =>
    obtain ⟨k, hk, rfl, hbr, n, f, s, hn, hmp, hf⟩ := hrel
    have hwr := hbr.size
    by_cases hkl : k < L.length
    · have hki : (k : Int) < L.length := by omega
      have hk0 : (0 : Int) ≤ k := by omega
      have hx := getD_of (d := lv0) hkl
      have hxm := List.mem_of_getElem? hx
      obtain ⟨ob, oo, rfl, hoz, hoc⟩ := HP.out (by rintro rfl; simp at hkl)
      have ec := hoc k _ hx
      have q : ∀ j, wr.cell? ⟨ob, j, none⟩ = w.cell? ⟨ob, j, none⟩ := fun j => hbr.cell (p := ⟨ob, j, none⟩) hoz
      have hpr := HI.out.part _ hxm
      have hwf := HI.out.lot _ hxm
      have h8 := HOK.out.eight _ hxm
      have hms := HOK.out.mass _ hxm
      have HTK := Lib.hid (fun y => tk_take y hx)
      have hbd := fun y => HTB.out y k (by omega)
      clear hx hxm hoc
      generalize L.getD k lv0 = x at *
      obtain ⟨xi, xm, xl, xh, xv, ps⟩ := x
      dsimp only at *
      have e0 : World.cell? wr ⟨ob, oo + k * 5, none⟩ = some (.int .i64 xi) := (q _).trans (ec 0 (by omega))
      have e1 : World.cell? wr ⟨ob, oo + k * 5 + 1, none⟩ = some (.int .i64 xm) := (q _).trans (ec 1 (by omega))
      have e2 : World.cell? wr ⟨ob, oo + k * 5 + 2, none⟩ = some (.int .i64 xl) := (q _).trans (ec 2 (by omega))
      have e3 : World.cell? wr ⟨ob, oo + k * 5 + 3, none⟩ = some (.int .i64 xh) := (q _).trans (ec 3 (by omega))
      have e4 : World.cell? wr ⟨ob, oo + k * 5 + 4, none⟩ = some xv := (q _).trans (ec 4 (by omega))
      clear ec q
      obtain ⟨pa, pc, rfl, r1, r2, _, hr5⟩ := hpr.at_
      unfold maxLen at r2
      have HR := Lib.hid hr5
      have HBD := Lib.hid hbd
      have HMS := Lib.hid hms
      have HWF := Lib.hid hwf
      clear hr5 hpr hbd hms hwf
      have hbx : Below wr.heap.size wr (wr.alloc (.cells #[.int .i64 xi, .int .i64 xm, .int .i64 xl, .int .i64 xh, .slice pa ps.length pc] 49)) := by repeat (first | (with_reducible exact Below.refl _ _) | (with_reducible assumption) | (with_reducible refine Below.drew ?_) | ((with_reducible refine Below.alloc ?_ ?_ _); rotate_left; (first | (with_reducible exact Nat.zero_le _) | (with_reducible exact Nat.le_refl _) | omega | (dsimp only; omega) | (simp only [World.size_alloc, World.size_setCell, World.size_drew]; omega))) | ((with_reducible refine Below.setCell ?_ ?_ _); rotate_left; (first | (with_reducible exact Nat.zero_le _) | (with_reducible exact Nat.le_refl _) | omega | (dsimp only; omega) | (simp only [World.size_alloc, World.size_setCell, World.size_drew]; omega))))
      have hmz := hmp.step hbx
      have hbz := hbr.trans (hbx.mono hwr)
      go_wp2_with fail
      clear e0 e1 e2 e3 e4
      go_loopw [19] (fun i wz => TpRel w L k ps i wz) (fun i _ => (ps.length - intOf i).toNat)
      case atStart => exact ⟨0, Nat.zero_le _, rfl, hbz, n, f, s, by omega, hmz, fun y => hf y⟩
      case round =>
        clear hmp hf hmz hbz hbx hbr hwr hn
        obtain ⟨j, hj, rfl, hbr, n, f, s, hn, hmp, hf⟩ := hrel
        have hwr := hbr.size
        by_cases hjl : j < ps.length
        · have hji : (j : Int) < ps.length := by omega
          have hj0 : (0 : Int) ≤ j := by omega
          have hx := getD_of (d := pt0) hjl
          have hxm := List.mem_of_getElem? hx
          obtain ⟨pb, po, rfl, hpz, hpc⟩ := HR.out (by rintro rfl; simp at hjl)
          have ec := hpc j _ hx
          have q : ∀ j, wr.cell? ⟨pb, j, none⟩ = w.cell? ⟨pb, j, none⟩ := fun j => hbr.cell (p := ⟨pb, j, none⟩) hpz
          have hmo := mOk_iff.1 (HMS.out _ hxm)
          have hwf := HWF.out _ hxm
          have hbd := tkP_bd (y := (ps.getD j pt0).lot) (ps := ps) HMS.out (HBD.out (ps.getD j pt0).lot) j (by omega)
          have HT := Lib.hid (fun y => tkP_take y (tk (L.take k) y) hx)
          have hfy := hf (ps.getD j pt0).lot
          clear hx hxm hpc
          generalize ps.getD j pt0 = p at *
          obtain ⟨yl, y1, y2⟩ := p
          dsimp only at *
          have e0 : World.cell? wr ⟨pb, po + j * 3, none⟩ = some (.int .i64 yl) := (q _).trans (ec 0 (by omega))
          have e1 : World.cell? wr ⟨pb, po + j * 3 + 1, none⟩ = some (.int .i64 y1) := (q _).trans (ec 1 (by omega))
          have e2 : World.cell? wr ⟨pb, po + j * 3 + 2, none⟩ = some (.int .i64 y2) := (q _).trans (ec 2 (by omega))
          clear ec q
          have hFN := Lib.hid (fun y => (show (if y = yl then some (⟨(tkP yl (tk (L.take k) yl) (ps.take j)).lo + y1, (tkP yl (tk (L.take k) yl) (ps.take j)).hi + y2⟩ : Sp) else f y).getD sp0 = tkP y (tk (L.take k) y) (ps.take (j + 1)) by
            rw [HT.out y]
            unfold addP
            dsimp only
            by_cases hy : y = yl
            · subst hy; rw [if_pos rfl, if_pos rfl]; rfl
            · rw [if_neg hy, if_neg (fun h => hy h.symm)]; exact hf y))
          generalize tkP yl (tk (L.take k) yl) (ps.take j) = S at *
          have HFY := Lib.hid hfy
          have hnm : n < maxLen := by unfold maxLen; omega
          have hb1 : Below wr.heap.size wr (wr.alloc (.cells #[.int .i64 yl, .int .i64 y1, .int .i64 y2] 51)) := by repeat (first | (with_reducible exact Below.refl _ _) | (with_reducible assumption) | (with_reducible refine Below.drew ?_) | ((with_reducible refine Below.alloc ?_ ?_ _); rotate_left; (first | (with_reducible exact Nat.zero_le _) | (with_reducible exact Nat.le_refl _) | omega | (dsimp only; omega) | (simp only [World.size_alloc, World.size_setCell, World.size_drew]; omega))) | ((with_reducible refine Below.setCell ?_ ?_ _); rotate_left; (first | (with_reducible exact Nat.zero_le _) | (with_reducible exact Nat.le_refl _) | omega | (dsimp only; omega) | (simp only [World.size_alloc, World.size_setCell, World.size_drew]; omega))))
          have hm1 := hmp.step hb1
          have hb2 : Below (wr.alloc (.cells #[.int .i64 yl, .int .i64 y1, .int .i64 y2] 51)).heap.size (wr.alloc (.cells #[.int .i64 yl, .int .i64 y1, .int .i64 y2] 51)) ((wr.alloc (.cells #[.int .i64 yl, .int .i64 y1, .int .i64 y2] 51)).alloc (.cells #[.int .i64 S.lo, .int .i64 S.hi] 32)) := Below.alloc (Below.refl _ _) (Nat.le_refl _) _
          have hm2 := hm1.step hb2
          have hbz := hbr.trans ((hb1.trans (hb2.mono hb1.size)).mono hwr)
          obtain ⟨t1, t2, t3⟩ := hbd
          obtain ⟨u1, u2, u3⟩ := hmo
          clear hf hfy hmp
          go_wp2_with (first | (at_lookup; refine wpList_lookup_map rfl _ _ 84 rfl 32 Try.underlying3 Try.underlying84 sp0 (zeroS _) rfl hm1 _ rfl hwf ?_; rw [HFY.out]; show wpList _ _ _ _ (Act.put _ _ (.agg #[.int .i64 S.lo, .int .i64 S.hi])) _) | (at_mapUpdate; refine wpList_update_map rfl _ _ _ 84 rfl 32 Try.underlying3 Try.underlying84 rfl hm2 hnm _ (⟨S.lo + y1, S.hi + y2⟩ : Sp) rfl rfl hwf ?_; intro w6 hm6 hg6))
          have hb6 := Below.grown hbz hg6 hbz.size (fun j hj => by cases hj; exact Nat.le_refl _)
          clear e0 e1 e2 hg6
          go_roundw
          case rel => exact ⟨j + 1, hjl, by simp, hb6, _, _, _, by omega, hm6, fun y => hFN.out y⟩
          case measure => simp [intOf]; omega
        · obtain rfl : j = ps.length := by omega
          rw [List.take_length] at hf
          go_wp2_with fail
          go_roundw
          case rel => exact ⟨k + 1, hkl, by simp, hbr, n, f, s, by omega, hmp, fun y => (hf y).trans (HTK.out y).symm⟩
          case measure => simp [intOf]; omega
    · obtain rfl : k = L.length := by omega
      rw [List.take_length] at hf
      go_wp2_with fail
      go_ret
      exact ⟨_, _, _, _, rfl, hmp, hf, hbr⟩

end Go.Proofs.Ytapfihlfnaebhaa
