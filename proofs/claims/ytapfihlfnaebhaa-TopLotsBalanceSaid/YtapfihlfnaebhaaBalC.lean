/- Contract: stocks of the program. -/
import Derived.Test.YtapfihlfnaebhaaBalB
namespace Go.Proofs.Ytapfihlfnaebhaa
set_option linter.unusedVariables false
set_option linter.unusedSimpArgs false
open Go.RowKit

def StkRel (w w1 : World) (g : Nat) (o : List Sp) (l : List Tr) (i : Value) (wr : World) : Prop :=
  ∃ (k : Nat) (cur : Array Value), k ≤ l.length ∧ i = .int .i64 k ∧ Below w.heap.size w wr ∧ w1.heap.size ≤ wr.heap.size ∧ Blk wr g 32 cur ∧ P2 cur (stkL o (l.take k))
def StvRel (w w1 : World) (L : List Sp) (i : Value) (wr : World) : Prop := ∃ k : Nat, k ≤ L.length ∧ i = .int .i64 k ∧ allV (L.take k) = true ∧ Below w.heap.size w wr ∧ Below w1.heap.size w1 wr
theorem stkE_chk {n : Int} {o : List Sp} {l : List Tr} (h : bchk n o l ≠ 0) : stkE n o l = bchk n o l ∧ stkV n o l = [] := by
  have : stkE n o l = bchk n o l := by unfold stkE; rw [if_pos h]
  exact ⟨this, by unfold stkV; rw [this, if_neg h]⟩
theorem stkE_bad {n : Int} {o : List Sp} {l : List Tr} (h : bchk n o l = 0) (hv : allV (stkL o l) = false) : stkE n o l = 2 ∧ stkV n o l = [] := by
  have : stkE n o l = 2 := by unfold stkE; rw [if_neg (by simp [h]), hv]; rfl
  exact ⟨this, by unfold stkV; rw [this]; rfl⟩
theorem stkE_ok {n : Int} {o : List Sp} {l : List Tr} (h : bchk n o l = 0) (hv : allV (stkL o l) = true) : stkE n o l = 0 ∧ stkV n o l = stkL o l := by
  have : stkE n o l = 0 := by unfold stkE; rw [if_neg (by simp [h]), if_pos hv]
  exact ⟨this, by unfold stkV; rw [if_pos this]⟩
theorem getD_sp {l : List Sp} {i : Nat} (h : i < l.length) : l[i]? = some (l.getD i sp0) := by
  rw [List.getD_eq_getElem?_getD, List.getElem?_eq_getElem h]; rfl
theorem opOk_getD {o : List Sp} (h : ∀ s ∈ o, opOk s = true) {i : Nat} (hi : i < o.length) : opOk (o.getD i sp0) = true := h _ (List.mem_of_getElem? (getD_sp hi))

set_option maxRecDepth 100000 in
set_option maxHeartbeats 8000000 in
theorem stock_any {w : World} {vo vl : Value} (n : Int) {o : List Sp} {l : List Tr} (ho : RowIn w vo 2 encP o) (hl : RowIn w vl 4 encR l) : Calls Try.prog 11 #[.int .i64 n, vo, vl] w (spOut w (stkV n o l) (stkE n o l)) := by
  have hck := fun w ho hl => bcheck_any (w := w) (vo := vo) (vl := vl) n (o := o) (l := l) ho hl
  by_cases h0 : bchk n o l = 0
  · have hB := bchk_ok h0
    rw [h0] at hck
    obtain ⟨ti, hi, hz, hsi, hby⟩ := info_of (P := Try.prog) (t := 32) (z := .agg #[.int .i64 0, .int .i64 0]) (size := 2) (bytes := 16) (by kernel_rfl)
    obtain ⟨la, cb, rfl, l1, l2, _, hl5⟩ := hl.at_
    unfold maxLen at l2
    have HL := Lib.hid hl5
    clear hl5
    have hn1 := hB.n1
    have hn8 := hB.n8
    have hlen := hB.len
    have hfew := hB.few
    have HB := Lib.hid hB
    have H0 := Lib.hid h0
    clear hB h0
    have ho1 : 0 < o.length := by omega
    have hon : (o.length : Int) ≤ 8 := by omega
    go_enter Try.func11, Try.ntmps11
    go_wp2_with fail
    refine (hck _ ho hl).mono ?_
    rintro e w1 ⟨rfl, hb1⟩
    replace ho := ho.step hb1
    have hs1 := hb1.size
    go_wp2_with (at_builtin; refine wpList_append_any _ rfl _ _ _ rfl w1.heap.size 32 ti _ 2 16 Try.underlying29 hi hz hsi hby rfl (by omega) _ 0 [] rfl (own0 (Blk.new w1 32 #[]) (Nat.le_refl _)) _ _ (rowOf encP o) rfl ((ho.step (Below.alloc (Below.refl _ _) (Nat.le_refl _) (.cells #[] 32))).src encP_len) (rowOf_length encP_len _) (oneP _) (by simp [maxLen]; omega) (by simp; omega) (by simp) ?_; intro v2 w2 own2 hg2 hat2)
    have hb2 : Below w.heap.size w w2 := Below.grown (hb1.alloc hs1 (.cells #[] 32)) hg2 (by simp; omega) (fun j hj => by cases hj; omega)
    have hs2 : w1.heap.size ≤ w2.heap.size := by have := hg2.size; simp at this; omega
    rcases ownsRow_open own2 with ⟨_, q, _⟩ | ⟨g, cap, cur, rfl, hgb, BC, hnc, hcm, hcs, hcur⟩
    · omega
    rw [Nat.zero_add] at hnc hcur
    simp only [List.nil_append] at hcur
    have hP : P2 cur o := P2.of_row hcur
    rw [← stkL_nil o] at hP
    clear own2 hg2 hat2 hcs hcur
    unfold maxLen at hcm
    simp only [Nat.zero_add]
    have hgw : w.heap.size ≤ g := by omega
    go_loopw [26] (fun i wr => StkRel w w2 g o l i wr) (fun i _ => (l.length - intOf i).toNat)
    case atStart => exact ⟨0, cur, Nat.zero_le _, rfl, hb2, Nat.le_refl _, BC, hP⟩
    case round =>
      obtain ⟨k, cur, hk, rfl, hb, hwz, BC, hP⟩ := hrel
      by_cases hlt : k < l.length
      · obtain ⟨x, hx⟩ : ∃ x, l[k]? = some x := ⟨_, List.getElem?_eq_getElem hlt⟩
        obtain ⟨lb, lo, hlo, hlz, hlc⟩ := HL.out (by rintro rfl; simp at hlt)
        rw [hlo]
        have hkl : (k : Int) < l.length := by omega
        have htr := HB.out.tr x (List.mem_of_getElem? hx)
        have hst := stkL_step hx htr hlen
        have htr2 := trE_iff.1 htr
        obtain ⟨xf, xt, m⟩ := x
        obtain ⟨t1, t2, t3, t4, t5, t6⟩ := htr2
        dsimp only at t1 t2 t3 t4 t5 t6 hst
        obtain ⟨q, rfl⟩ : ∃ q : Nat, xf = q := ⟨xf.toNat, by omega⟩
        obtain ⟨p, rfl⟩ : ∃ p : Nat, xt = p := ⟨xt.toNat, by omega⟩
        simp only [Int.toNat_natCast] at hst
        obtain ⟨m1, m2, m3⟩ := opOk_iff.1 t6
        have hq : q < o.length := by omega
        have hp : p < o.length := by omega
        have hpq : p ≠ q := by omega
        have gA := stkL_get o (l.take k) hp
        have gB := stkL_get o (l.take k) hq
        have bA := nodeS_bd HB.out.tr p _ (opOk_getD HB.out.op hp) k hk
        have bB := nodeS_bd HB.out.tr q _ (opOk_getD HB.out.op hq) k hk
        generalize nodeS (l.take k) p (o.getD p sp0) = A at *
        generalize nodeS (l.take k) q (o.getD q sp0) = B at *
        have hLl := stkL_len o (l.take k)
        generalize stkL o (l.take k) = L at *
        have HST := Lib.hid hst
        clear hst htr t1 t6
        obtain ⟨a1, a2, a3, a4⟩ := bA
        obtain ⟨b1, b2, b3, b4⟩ := bB
        have hk64 : (k : Int) ≤ 64 := by omega
        have e0 : World.cell? wr ⟨lb, lo + k * 4, none⟩ = some (.int .i64 q) := (hb.cell (p := ⟨lb, lo + k * 4, none⟩) hlz).trans (hlc k _ hx 0 (by omega))
        have e1 : World.cell? wr ⟨lb, lo + k * 4 + 1, none⟩ = some (.int .i64 p) := (hb.cell (p := ⟨lb, lo + k * 4 + 1, none⟩) hlz).trans (hlc k _ hx 1 (by omega))
        have e2 : World.cell? wr ⟨lb, lo + k * 4 + 2, none⟩ = some (.int .i64 m.lo) := (hb.cell (p := ⟨lb, lo + k * 4 + 2, none⟩) hlz).trans (hlc k _ hx 2 (by omega))
        have e3 : World.cell? wr ⟨lb, lo + k * 4 + 3, none⟩ = some (.int .i64 m.hi) := (hb.cell (p := ⟨lb, lo + k * 4 + 3, none⟩) hlz).trans (hlc k _ hx 3 (by omega))
        have hqi : (q : Int) < o.length := by omega
        have hpi : (p : Int) < o.length := by omega
        have hq0 : (0 : Int) ≤ q := by omega
        have hp0 : (0 : Int) ≤ p := by omega
        have BX := Blk.new wr 39 #[.int .i64 q, .int .i64 p, .int .i64 m.lo, .int .i64 m.hi]
        have hbg : wr.heap.size ≠ g := by have := BC.lt; omega
        replace BC := BC.alloc (.cells #[.int .i64 q, .int .i64 p, .int .i64 m.lo, .int .i64 m.hi] 39)
        replace hb := hb.alloc hb.size (.cells #[.int .i64 q, .int .i64 p, .int .i64 m.lo, .int .i64 m.hi] 39)
        replace hwz : w2.heap.size ≤ (wr.alloc (.cells #[.int .i64 q, .int .i64 p, .int .i64 m.lo, .int .i64 m.hi] 39)).heap.size := by rw [World.size_alloc]; omega
        clear hlc hx
        go_wp2_with fail
        clear e0 e1 e2 e3
        generalize wr.heap.size = bx at *
        generalize wr.alloc (.cells #[.int .i64 q, .int .i64 p, .int .i64 m.lo, .int .i64 m.hi] 39) = wa0 at *
        have c2 : ∀ y : BW wa0, ∀ j, y.w.cell? ⟨bx, j, none⟩ = #[.int .i64 q, .int .i64 p, .int .i64 m.lo, .int .i64 m.hi][j]? := fun y => (BX.bw y).cell
        have c3 : ∀ y : BW wa0, y.w.cell? ⟨g, p * 2, none⟩ = some (.int .i64 A.lo) := fun y => ((BC.bw y).cell _).trans (hP p _ gA).1
        refine wp_region_calm_tail 12 (by kernel_rfl) (by kernel_rfl) ?_
        simp only [List.take_succ_cons, List.take_zero, List.drop_succ_cons, List.drop_zero]
        repeat (go_big_quiet_step (fail))
        first | refine wpQuiet_nil ?_ | skip
        intro wb0 hbb
        clear c2 c3
        replace BX := BX.step hbb
        replace BC := BC.step hbb
        replace hb := hb.trans (hbb.mono hb.size)
        replace hwz := Nat.le_trans hwz hbb.size
        clear hbb
        have cg : World.cell? wb0 ⟨g, p * 2, none⟩ = some (.int .i64 A.lo) := (BC.cell _).trans (hP p _ gA).1
        have fg := BC.free (p * 2)
        have lg := BC.lt
        go_wp2_with fail
        clear cg fg lg
        replace BX := BX.far (p := ⟨g, p * 2, none⟩) hbg (.int .i64 (A.lo + m.lo))
        replace BC := BC.put (p * 2) (.int .i64 (A.lo + m.lo))
        replace hP := hP.setLo gA (A.lo + m.lo)
        replace hb := hb.setCell (p := ⟨g, p * 2, none⟩) hgw (.int .i64 (A.lo + m.lo))
        replace hwz : w2.heap.size ≤ (wb0.setCell ⟨g, p * 2, none⟩ (.int .i64 (A.lo + m.lo))).heap.size := by rw [World.size_setCell]; exact hwz
        generalize wb0.setCell ⟨g, p * 2, none⟩ (.int .i64 (A.lo + m.lo)) = wa1 at *
        replace gA : (L.set p ⟨A.lo + m.lo, A.hi⟩)[p]? = some ⟨A.lo + m.lo, A.hi⟩ := List.getElem?_set_self (by omega)
        have c2 : ∀ y : BW wa1, ∀ j, y.w.cell? ⟨bx, j, none⟩ = #[.int .i64 q, .int .i64 p, .int .i64 m.lo, .int .i64 m.hi][j]? := fun y => (BX.bw y).cell
        have c3 : ∀ y : BW wa1, y.w.cell? ⟨g, p * 2 + 1, none⟩ = some (.int .i64 A.hi) := fun y => ((BC.bw y).cell _).trans (hP p _ gA).2
        refine wp_region_calm_tail 12 (by kernel_rfl) (by kernel_rfl) ?_
        simp only [List.take_succ_cons, List.take_zero, List.drop_succ_cons, List.drop_zero]
        repeat (go_big_quiet_step (fail))
        first | refine wpQuiet_nil ?_ | skip
        intro wb1 hbb
        clear c2 c3
        replace BX := BX.step hbb
        replace BC := BC.step hbb
        replace hb := hb.trans (hbb.mono hb.size)
        replace hwz := Nat.le_trans hwz hbb.size
        clear hbb
        have cg : World.cell? wb1 ⟨g, p * 2 + 1, none⟩ = some (.int .i64 A.hi) := (BC.cell _).trans (hP p _ gA).2
        have fg := BC.free (p * 2 + 1)
        have lg := BC.lt
        go_wp2_with fail
        clear cg fg lg
        replace BX := BX.far (p := ⟨g, p * 2 + 1, none⟩) hbg (.int .i64 (A.hi + m.hi))
        replace BC := BC.put (p * 2 + 1) (.int .i64 (A.hi + m.hi))
        replace hP := hP.setHi gA (A.hi + m.hi)
        replace hb := hb.setCell (p := ⟨g, p * 2 + 1, none⟩) hgw (.int .i64 (A.hi + m.hi))
        replace hwz : w2.heap.size ≤ (wb1.setCell ⟨g, p * 2 + 1, none⟩ (.int .i64 (A.hi + m.hi))).heap.size := by rw [World.size_setCell]; exact hwz
        generalize wb1.setCell ⟨g, p * 2 + 1, none⟩ (.int .i64 (A.hi + m.hi)) = wa2 at *
        rw [List.set_set] at hP
        dsimp only at hP
        replace gB : (L.set p ⟨A.lo + m.lo, A.hi + m.hi⟩)[q]? = some B := by rw [List.getElem?_set_ne hpq]; exact gB
        have c2 : ∀ y : BW wa2, ∀ j, y.w.cell? ⟨bx, j, none⟩ = #[.int .i64 q, .int .i64 p, .int .i64 m.lo, .int .i64 m.hi][j]? := fun y => (BX.bw y).cell
        have c3 : ∀ y : BW wa2, y.w.cell? ⟨g, q * 2, none⟩ = some (.int .i64 B.lo) := fun y => ((BC.bw y).cell _).trans (hP q _ gB).1
        refine wp_region_calm_tail 12 (by kernel_rfl) (by kernel_rfl) ?_
        simp only [List.take_succ_cons, List.take_zero, List.drop_succ_cons, List.drop_zero]
        repeat (go_big_quiet_step (fail))
        first | refine wpQuiet_nil ?_ | skip
        intro wb2 hbb
        clear c2 c3
        replace BX := BX.step hbb
        replace BC := BC.step hbb
        replace hb := hb.trans (hbb.mono hb.size)
        replace hwz := Nat.le_trans hwz hbb.size
        clear hbb
        have cg : World.cell? wb2 ⟨g, q * 2, none⟩ = some (.int .i64 B.lo) := (BC.cell _).trans (hP q _ gB).1
        have fg := BC.free (q * 2)
        have lg := BC.lt
        go_wp2_with fail
        clear cg fg lg
        replace BX := BX.far (p := ⟨g, q * 2, none⟩) hbg (.int .i64 (B.lo - m.hi))
        replace BC := BC.put (q * 2) (.int .i64 (B.lo - m.hi))
        replace hP := hP.setLo gB (B.lo - m.hi)
        replace hb := hb.setCell (p := ⟨g, q * 2, none⟩) hgw (.int .i64 (B.lo - m.hi))
        replace hwz : w2.heap.size ≤ (wb2.setCell ⟨g, q * 2, none⟩ (.int .i64 (B.lo - m.hi))).heap.size := by rw [World.size_setCell]; exact hwz
        generalize wb2.setCell ⟨g, q * 2, none⟩ (.int .i64 (B.lo - m.hi)) = wa3 at *
        replace gB : ((L.set p ⟨A.lo + m.lo, A.hi + m.hi⟩).set q ⟨B.lo - m.hi, B.hi⟩)[q]? = some ⟨B.lo - m.hi, B.hi⟩ := List.getElem?_set_self (by simp; omega)
        have c2 : ∀ y : BW wa3, ∀ j, y.w.cell? ⟨bx, j, none⟩ = #[.int .i64 q, .int .i64 p, .int .i64 m.lo, .int .i64 m.hi][j]? := fun y => (BX.bw y).cell
        have c3 : ∀ y : BW wa3, y.w.cell? ⟨g, q * 2 + 1, none⟩ = some (.int .i64 B.hi) := fun y => ((BC.bw y).cell _).trans (hP q _ gB).2
        refine wp_region_calm_tail 12 (by kernel_rfl) (by kernel_rfl) ?_
        simp only [List.take_succ_cons, List.take_zero, List.drop_succ_cons, List.drop_zero]
        repeat (go_big_quiet_step (fail))
        first | refine wpQuiet_nil ?_ | skip
        intro wb3 hbb
        clear c2 c3
        replace BX := BX.step hbb
        replace BC := BC.step hbb
        replace hb := hb.trans (hbb.mono hb.size)
        replace hwz := Nat.le_trans hwz hbb.size
        clear hbb
        have cg : World.cell? wb3 ⟨g, q * 2 + 1, none⟩ = some (.int .i64 B.hi) := (BC.cell _).trans (hP q _ gB).2
        have fg := BC.free (q * 2 + 1)
        have lg := BC.lt
        go_wp2_with fail
        clear cg fg lg
        replace BX := BX.far (p := ⟨g, q * 2 + 1, none⟩) hbg (.int .i64 (B.hi - m.lo))
        replace BC := BC.put (q * 2 + 1) (.int .i64 (B.hi - m.lo))
        replace hP := hP.setHi gB (B.hi - m.lo)
        replace hb := hb.setCell (p := ⟨g, q * 2 + 1, none⟩) hgw (.int .i64 (B.hi - m.lo))
        replace hwz : w2.heap.size ≤ (wb3.setCell ⟨g, q * 2 + 1, none⟩ (.int .i64 (B.hi - m.lo))).heap.size := by rw [World.size_setCell]; exact hwz
        rw [List.set_set] at hP
        dsimp only at hP
        go_roundw
        case rel => exact ⟨k + 1, _, hlt, by simp, hb, hwz, BC, by rw [HST.out]; exact hP⟩
        case measure => simp [intOf]; omega
      · obtain rfl : k = l.length := by omega
        rw [List.take_length] at hP
        have R0 : RowIn wr (.slice (some ⟨g, 0, none⟩) (stkL o l).length cap) 2 encP (stkL o l) := row_of_P2 BC hP rfl (by rw [stkL_len]; omega) (by unfold maxLen; omega)
        have hLn := stkL_len o l
        have hE0 := fun h => stkE_ok (n := n) (o := o) (l := l) H0.out h
        have hE2 := fun h => stkE_bad (n := n) (o := o) (l := l) H0.out h
        have HE0 := Lib.hid hE0
        have HE2 := Lib.hid hE2
        clear hE0 hE2 hlt hP
        rw [← hLn]
        rw [← hLn] at hon hnc
        clear hLn
        generalize stkL o l = L at *
        have lgr := BC.lt
        obtain ⟨_, _, rq, _, r2, _, r5⟩ := R0.at_
        simp only [Value.slice.injEq] at rq
        obtain ⟨rfl, _, rfl⟩ := rq
        have HR := Lib.hid r5
        clear r5
        go_wp2_with fail
        go_loopw [81] (fun i wv => StvRel w wr L i wv) (fun i _ => (L.length - intOf i).toNat)
        case atStart => exact ⟨0, Nat.zero_le _, rfl, rfl, hb, Below.refl _ _⟩
        case round =>
          obtain ⟨k, hk, rfl, hok, hbv, hbx⟩ := hrel
          have hwv := hbv.size
          have hxv := hbx.size
          by_cases hlt : k < L.length
          · obtain ⟨x, hx⟩ : ∃ x, L[k]? = some x := ⟨_, List.getElem?_eq_getElem hlt⟩
            obtain ⟨g', o', ho', hgz, hc⟩ := HR.out (by rintro rfl; simp at hlt)
            simp only [Option.some.injEq, Addr.mk.injEq, and_true] at ho'
            obtain ⟨rfl, rfl⟩ := ho'
            have hkl : (k : Int) < L.length := by omega
            have hk0 : (0 : Int) ≤ k := by omega
            have e0 : World.cell? wr ⟨g, k * 2, none⟩ = some (.int .i64 x.lo) := (hbx.cell (p := ⟨g, k * 2, none⟩) hgz).trans (by simpa [encP] using hc k x hx 0 (by omega))
            have e1 : World.cell? wr ⟨g, k * 2 + 1, none⟩ = some (.int .i64 x.hi) := (hbx.cell (p := ⟨g, k * 2 + 1, none⟩) hgz).trans (by simpa [encP] using hc k x hx 1 (by omega))
            have hv := fun w => valid1_any x w
            have hs := allV_take hx
            rw [hok, Bool.true_and] at hs
            have hb1 := hbv.alloc hwv (.cells #[.int .i64 x.lo, .int .i64 x.hi] 32)
            have hx1 := hbx.alloc hxv (.cells #[.int .i64 x.lo, .int .i64 x.hi] 32)
            cases hsv : sval x with
            | false =>
              have hfin : allV L = false := Bool.eq_false_iff.2 fun h => by
                have := allV_le (k := k + 1) h
                rw [hs, hsv] at this; cases this
              rw [hsv] at hv
              have HF := Lib.hid (HE2.out hfin)
              clear hfin hs hsv
              go_wp2_with fail
              refine (hv _).mono ?_
              rintro e w5 ⟨rfl, hb5⟩
              go_wp2_with fail
              refine bodyPost_ret (v := .tuple #[.slice none 0 0, .int .i64 2]) (by simp only [results, Try.results11]; go_simp; first | done | rfl) rfl ?_
              exact ⟨_, by rw [HF.out.1], by rw [HF.out.2]; exact RowIn.nil _ _ _, hb1.trans (hb5.mono hb1.size)⟩
            | true =>
              rw [hsv] at hv
              have HS := Lib.hid (hs.trans hsv)
              clear hs hsv
              go_wp2_with fail
              refine (hv _).mono ?_
              rintro e w5 ⟨rfl, hb5⟩
              go_wp2_with fail
              go_roundw
              case rel => exact ⟨k + 1, hlt, by simp, HS.out, hb1.trans (hb5.mono hb1.size), hx1.trans (hb5.mono hx1.size)⟩
              case measure => simp [intOf]; omega
          · obtain rfl : k = L.length := by omega
            rw [List.take_length] at hok
            have HF := Lib.hid (HE0.out hok)
            clear hok
            go_wp2_with fail
            refine bodyPost_ret (v := .tuple #[.slice (some ⟨g, 0, none⟩) L.length cap, .int .i64 0]) (by simp only [results, Try.results11]; go_simp; first | done | rfl) rfl ?_
            exact ⟨_, by rw [HF.out.1], by rw [HF.out.2]; exact R0.step hbx, hbv⟩
  · obtain ⟨e1, e2⟩ := stkE_chk h0
    have h0' : (bchk n o l != 0) = true := by simpa using h0
    rw [e1, e2]
    clear e1 e2 h0
    generalize bchk n o l = E at *
    go_enter Try.func11, Try.ntmps11
    go_wp2_with fail
    refine (hck _ ho hl).mono ?_
    rintro e w1 ⟨rfl, hb1⟩
    go_wp2_with fail
    refine bodyPost_ret (v := .tuple #[.slice none 0 0, .int .i64 E]) (by simp only [results, Try.results11]; go_simp; first | done | rfl) rfl ?_
    exact ⟨_, rfl, RowIn.nil _ _ _, hb1⟩

end Go.Proofs.Ytapfihlfnaebhaa
