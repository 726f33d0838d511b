/- Contract: stocks of the reference. -/
import Derived.Test.YthaoclocachbaaaBalC
namespace Go.Proofs.Ythaoclocachbaaa
set_option linter.unusedVariables false
set_option linter.unusedSimpArgs false
open Go.RowKit

/-- The first k stocks. -/
def stkTo (o : List Sp) (l : List Tr) (k : Nat) : List Sp := (List.range k).map fun i => nodeS l i (o.getD i sp0)
theorem stkTo_succ (o : List Sp) (l : List Tr) (k : Nat) : stkTo o l (k + 1) = stkTo o l k ++ [nodeS l k (o.getD k sp0)] := by simp [stkTo, List.range_succ]
theorem stkTo_len (o : List Sp) (l : List Tr) (k : Nat) : (stkTo o l k).length = k := by simp [stkTo]
def OutRel (w wx : World) (o : List Sp) (l : List Tr) (v i : Value) (wr : World) : Prop :=
  ∃ k : Nat, k ≤ o.length ∧ i = .int .i64 k ∧ Below w.heap.size w wr ∧ wx.heap.size ≤ wr.heap.size ∧ wr.ownsRow wx.heap.size 41 2 v k (rowOf encP (stkTo o l k))
def InRel (w wy : World) (b : Nat) (k : Nat) (s0 : Sp) (l : List Tr) (i : Value) (wr : World) : Prop :=
  ∃ j : Nat, j ≤ l.length ∧ i = .int .i64 j ∧ Below w.heap.size w wr ∧ Below b wy wr ∧ Blk wr b 41 (#[.int .i64 (nodeS (l.take j) k s0).lo, .int .i64 (nodeS (l.take j) k s0).hi])
set_option maxRecDepth 100000 in
set_option maxHeartbeats 8000000 in
theorem rstock_any {w : World} {vo vl : Value} (n : Int) {o : List Sp} {l : List Tr} (ho : RowIn w vo 2 encP o) (hl : RowIn w vl 4 encR l) : Calls Try.prog 19 #[.int .i64 n, vo, vl] w (spOut w (stkV n o l) (stkE n o l)) := by
  have hck := fun w ho hl => rcheckB_any (w := w) (vo := vo) (vl := vl) n (o := o) (l := l) ho hl
  by_cases h0 : bchk n o l = 0
  · have hB := bchk_ok h0
    rw [h0] at hck
    obtain ⟨ti, hi, hz, hsi, hby⟩ := info_of (P := Try.prog) (t := 41) (z := .agg #[.int .i64 0, .int .i64 0]) (size := 2) (bytes := 16) (by kernel_rfl)
    obtain ⟨la, cb, rfl, l1, l2, _, hl5⟩ := hl.at_
    obtain ⟨oa, ca, rfl, o1, o2, _, ho5⟩ := ho.at_
    unfold maxLen at l2 o2
    have HL := Lib.hid hl5
    have HO := Lib.hid ho5
    clear hl5 ho5
    have hn1 := hB.n1
    have hn8 := hB.n8
    have hlen := hB.len
    have hfew := hB.few
    have HB := Lib.hid hB
    have H0 := Lib.hid h0
    clear hB h0
    obtain rfl : n = o.length := hlen.symm
    have ho1 : 0 < o.length := by omega
    clear hlen
    go_enter Try.func19, Try.ntmps19
    go_wp2_with fail
    refine (hck _ ho hl).mono ?_
    rintro e w1 ⟨rfl, hb1⟩
    have hs1 := hb1.size
    go_wp2_with fail
    have hb2 := hb1.alloc hs1 (.cells #[] 41)
    have own2 := own0 (Blk.new w1 41 #[]) (Nat.le_refl _)
    have hs2 : w1.heap.size ≤ (w1.alloc (.cells #[] 41)).heap.size := by simp
    go_loopw [9, 10] (fun v i wr => OutRel w w1 o l v i wr) (fun _ i _ => (o.length - intOf i).toNat)
    case atStart => exact ⟨0, Nat.zero_le _, rfl, hb2, hs2, own2⟩
    case round =>
      clear hb2 own2 hs2
      obtain ⟨k, hk, rfl, hb, hwz, own⟩ := hrel
      by_cases hlt : k < o.length
      · have hx : o[k]? = some (o.getD k sp0) := getD_of hlt
        have hop := opOk_getD HB.out.op hlt
        have hto := stkTo_succ o l k
        obtain ⟨ob, oo, hoo, hoz, hoc⟩ := HO.out (by rintro rfl; simp at hlt)
        subst hoo
        have hkl : (k : Int) < o.length := by omega
        have hk0 : (0 : Int) ≤ k := by omega
        have e0 : World.cell? wr ⟨ob, oo + k * 2, none⟩ = some (.int .i64 (o.getD k sp0).lo) := (hb.cell (p := ⟨ob, oo + k * 2, none⟩) hoz).trans (hoc k _ hx 0 (by omega))
        have e1 : World.cell? wr ⟨ob, oo + k * 2 + 1, none⟩ = some (.int .i64 (o.getD k sp0).hi) := (hb.cell (p := ⟨ob, oo + k * 2 + 1, none⟩) hoz).trans (hoc k _ hx 1 (by omega))
        have hsz := hb.size
        generalize o.getD k sp0 = s0 at *
        have HTO := Lib.hid hto
        clear hto hx
        go_wp2_with fail
        clear e0 e1
        have BX := Blk.new wr 41 (#[.int .i64 (nodeS (l.take 0) k s0).lo, .int .i64 (nodeS (l.take 0) k s0).hi])
        have hbx : Below w.heap.size w (wr.alloc (.cells (#[.int .i64 (nodeS (l.take 0) k s0).lo, .int .i64 (nodeS (l.take 0) k s0).hi]) 41)) := hb.alloc hsz _
        have hby1 : Below wr.heap.size wr (wr.alloc (.cells (#[.int .i64 (nodeS (l.take 0) k s0).lo, .int .i64 (nodeS (l.take 0) k s0).hi]) 41)) := Below.alloc (Below.refl _ _) (Nat.le_refl _) _
        generalize hwr0 : wr.heap.size = wr0 at *
        have hxw : w.heap.size ≤ wr0 := hsz
        go_loopw [12] (fun i wz => InRel w wr wr0 k s0 l i wz) (fun i _ => (l.length - intOf i).toNat)
        case atStart => exact ⟨0, Nat.zero_le _, rfl, hbx, hby1, BX⟩
        case round =>
          clear hbx hby1 BX
          obtain ⟨j, hj, rfl, hbx, hbz, BX⟩ := hrel
          have hxs := hbx.size
          have hzs := hbz.size
          by_cases hjt : j < l.length
          · obtain ⟨x, hx⟩ : ∃ x, l[j]? = some x := ⟨_, List.getElem?_eq_getElem hjt⟩
            obtain ⟨lb, lo, hlo, hlz, hlc⟩ := HL.out (by rintro rfl; simp at hjt)
            subst hlo
            have hjl : (j : Int) < l.length := by omega
            have hj0 : (0 : Int) ≤ j := by omega
            have htr := trE_iff.1 (HB.out.tr x (List.mem_of_getElem? hx))
            have hst := nodeS_take hx k s0
            have bA := nodeS_bd HB.out.tr k _ hop j hj
            obtain ⟨xf, xt, m⟩ := x
            obtain ⟨t1, t2, t3, t4, t5, t6⟩ := htr
            dsimp only at t1 t2 t3 t4 t5 t6
            obtain ⟨m1, m2, m3⟩ := opOk_iff.1 t6
            generalize nodeS (l.take j) k s0 = A at *
            obtain ⟨a1, a2, a3, a4⟩ := bA
            have hj64 : (j : Int) ≤ 64 := by omega
            have HST := Lib.hid hst
            have E : ∀ wq, Below w.heap.size w wq → World.cell? wq ⟨lb, lo + j * 4, none⟩ = some (.int .i64 xf) ∧ World.cell? wq ⟨lb, lo + j * 4 + 1, none⟩ = some (.int .i64 xt) ∧ World.cell? wq ⟨lb, lo + j * 4 + 2, none⟩ = some (.int .i64 m.lo) ∧ World.cell? wq ⟨lb, lo + j * 4 + 3, none⟩ = some (.int .i64 m.hi) := fun wq hq =>
              ⟨(hq.cell (p := ⟨lb, lo + j * 4, none⟩) hlz).trans (hlc j _ hx 0 (by omega)), (hq.cell (p := ⟨lb, lo + j * 4 + 1, none⟩) hlz).trans (hlc j _ hx 1 (by omega)), (hq.cell (p := ⟨lb, lo + j * 4 + 2, none⟩) hlz).trans (hlc j _ hx 2 (by omega)), (hq.cell (p := ⟨lb, lo + j * 4 + 3, none⟩) hlz).trans (hlc j _ hx 3 (by omega))⟩
            have HE := Lib.hid E
            clear E hlc hx hst t6
            obtain ⟨e0, e1, e2, e3⟩ := HE.out _ hbx
            by_cases c1 : xt = k
            · have d1 : (xt == (k : Int)) = true := by simpa using c1
              have c2' : ¬ xf = k := by omega
              have d2 : (xf == (k : Int)) = false := by simpa using c2'
              go_wp2_with fail
              obtain ⟨f0, f1, f2, f3⟩ := HE.out _ hbx
              have lz0 := hbx.size
              have c2 : ∀ y : BW wr, ∀ jj, y.w.cell? ⟨wr0, jj, none⟩ = #[.int .i64 A.lo, .int .i64 A.hi][jj]? := fun y => (BX.bw y).cell
              have c3 : ∀ y : BW wr, y.w.cell? ⟨lb, lo + j * 4 + 2, none⟩ = some (.int .i64 m.lo) := fun y => (y.cell (by omega)).trans f2
              refine wp_region_calm_tail 10 (by kernel_rfl) (by kernel_rfl) ?_
              simp only [List.take_succ_cons, List.take_zero, List.drop_succ_cons, List.drop_zero]
              repeat (go_big_quiet_step (fail))
              first | refine wpQuiet_nil ?_ | skip
              intro wy0 hyy
              clear c2 c3 f0 f1 f2 f3
              replace BX := BX.step hyy
              replace hbz := hbz.trans (hyy.mono (by have := hbz.size; omega))
              replace hbx := hbx.trans (hyy.mono hbx.size)
              clear hyy
              have cx := BX.cell
              have fx := BX.free
              have lx := BX.lt
              obtain ⟨f0, f1, f2, f3⟩ := HE.out _ hbx
              have EX := HE.out _ (hbx.setCell (p := ⟨wr0, 0, none⟩) hxw (.int .i64 (A.lo + m.lo)))
              obtain ⟨g0, g1, g2, g3⟩ := EX
              go_wp2_with fail
              clear cx fx lx f0 f1 f2 f3 g0 g1 g2 g3
              replace BX := BX.put 0 (.int .i64 (A.lo + m.lo))
              replace hbx := hbx.setCell (p := ⟨wr0, 0, none⟩) hxw (.int .i64 (A.lo + m.lo))
              replace hbz := hbz.setCell (p := ⟨wr0, 0, none⟩) (Nat.le_refl _) (.int .i64 (A.lo + m.lo))
              generalize World.setCell wy0 ⟨wr0, 0, none⟩ (.int .i64 (A.lo + m.lo)) = wz1 at *
              obtain ⟨f0, f1, f2, f3⟩ := HE.out _ hbx
              have lz1 := hbx.size
              have c2 : ∀ y : BW wz1, ∀ jj, y.w.cell? ⟨wr0, jj, none⟩ = #[.int .i64 (A.lo + m.lo), .int .i64 A.hi][jj]? := fun y => (BX.bw y).cell
              have c3 : ∀ y : BW wz1, y.w.cell? ⟨lb, lo + j * 4 + 3, none⟩ = some (.int .i64 m.hi) := fun y => (y.cell (by omega)).trans f3
              refine wp_region_calm_tail 10 (by kernel_rfl) (by kernel_rfl) ?_
              simp only [List.take_succ_cons, List.take_zero, List.drop_succ_cons, List.drop_zero]
              repeat (go_big_quiet_step (fail))
              first | refine wpQuiet_nil ?_ | skip
              intro wy1 hyy
              clear c2 c3 f0 f1 f2 f3
              replace BX := BX.step hyy
              replace hbz := hbz.trans (hyy.mono (by have := hbz.size; omega))
              replace hbx := hbx.trans (hyy.mono hbx.size)
              clear hyy
              have cx := BX.cell
              have fx := BX.free
              have lx := BX.lt
              obtain ⟨f0, f1, f2, f3⟩ := HE.out _ hbx
              have EX := HE.out _ (hbx.setCell (p := ⟨wr0, 1, none⟩) hxw (.int .i64 (A.hi + m.hi)))
              obtain ⟨g0, g1, g2, g3⟩ := EX
              go_wp2_with fail
              clear cx fx lx f0 f1 f2 f3 g0 g1 g2 g3
              replace BX := BX.put 1 (.int .i64 (A.hi + m.hi))
              replace hbx := hbx.setCell (p := ⟨wr0, 1, none⟩) hxw (.int .i64 (A.hi + m.hi))
              replace hbz := hbz.setCell (p := ⟨wr0, 1, none⟩) (Nat.le_refl _) (.int .i64 (A.hi + m.hi))
              go_roundw
              case rel => exact ⟨j + 1, hjt, by simp, hbx, hbz, by rw [HST.out]; unfold stepS; rw [if_pos c1, if_neg c2']; exact BX⟩
              case measure => simp [intOf]; omega
            · have d1 : (xt == (k : Int)) = false := by simpa using c1
              by_cases c2' : xf = k
              · have d2 : (xf == (k : Int)) = true := by simpa using c2'
                go_wp2_with fail
                obtain ⟨f0, f1, f2, f3⟩ := HE.out _ hbx
                have lz0 := hbx.size
                have c2 : ∀ y : BW wr, ∀ jj, y.w.cell? ⟨wr0, jj, none⟩ = #[.int .i64 A.lo, .int .i64 A.hi][jj]? := fun y => (BX.bw y).cell
                have c3 : ∀ y : BW wr, y.w.cell? ⟨lb, lo + j * 4 + 3, none⟩ = some (.int .i64 m.hi) := fun y => (y.cell (by omega)).trans f3
                refine wp_region_calm_tail 10 (by kernel_rfl) (by kernel_rfl) ?_
                simp only [List.take_succ_cons, List.take_zero, List.drop_succ_cons, List.drop_zero]
                repeat (go_big_quiet_step (fail))
                first | refine wpQuiet_nil ?_ | skip
                intro wy0 hyy
                clear c2 c3 f0 f1 f2 f3
                replace BX := BX.step hyy
                replace hbz := hbz.trans (hyy.mono (by have := hbz.size; omega))
                replace hbx := hbx.trans (hyy.mono hbx.size)
                clear hyy
                have cx := BX.cell
                have fx := BX.free
                have lx := BX.lt
                obtain ⟨f0, f1, f2, f3⟩ := HE.out _ hbx
                have EX := HE.out _ (hbx.setCell (p := ⟨wr0, 0, none⟩) hxw (.int .i64 (A.lo - m.hi)))
                obtain ⟨g0, g1, g2, g3⟩ := EX
                go_wp2_with fail
                clear cx fx lx f0 f1 f2 f3 g0 g1 g2 g3
                replace BX := BX.put 0 (.int .i64 (A.lo - m.hi))
                replace hbx := hbx.setCell (p := ⟨wr0, 0, none⟩) hxw (.int .i64 (A.lo - m.hi))
                replace hbz := hbz.setCell (p := ⟨wr0, 0, none⟩) (Nat.le_refl _) (.int .i64 (A.lo - m.hi))
                generalize World.setCell wy0 ⟨wr0, 0, none⟩ (.int .i64 (A.lo - m.hi)) = wz1 at *
                obtain ⟨f0, f1, f2, f3⟩ := HE.out _ hbx
                have lz1 := hbx.size
                have c2 : ∀ y : BW wz1, ∀ jj, y.w.cell? ⟨wr0, jj, none⟩ = #[.int .i64 (A.lo - m.hi), .int .i64 A.hi][jj]? := fun y => (BX.bw y).cell
                have c3 : ∀ y : BW wz1, y.w.cell? ⟨lb, lo + j * 4 + 2, none⟩ = some (.int .i64 m.lo) := fun y => (y.cell (by omega)).trans f2
                refine wp_region_calm_tail 10 (by kernel_rfl) (by kernel_rfl) ?_
                simp only [List.take_succ_cons, List.take_zero, List.drop_succ_cons, List.drop_zero]
                repeat (go_big_quiet_step (fail))
                first | refine wpQuiet_nil ?_ | skip
                intro wy1 hyy
                clear c2 c3 f0 f1 f2 f3
                replace BX := BX.step hyy
                replace hbz := hbz.trans (hyy.mono (by have := hbz.size; omega))
                replace hbx := hbx.trans (hyy.mono hbx.size)
                clear hyy
                have cx := BX.cell
                have fx := BX.free
                have lx := BX.lt
                obtain ⟨f0, f1, f2, f3⟩ := HE.out _ hbx
                have EX := HE.out _ (hbx.setCell (p := ⟨wr0, 1, none⟩) hxw (.int .i64 (A.hi - m.lo)))
                obtain ⟨g0, g1, g2, g3⟩ := EX
                go_wp2_with fail
                clear cx fx lx f0 f1 f2 f3 g0 g1 g2 g3
                replace BX := BX.put 1 (.int .i64 (A.hi - m.lo))
                replace hbx := hbx.setCell (p := ⟨wr0, 1, none⟩) hxw (.int .i64 (A.hi - m.lo))
                replace hbz := hbz.setCell (p := ⟨wr0, 1, none⟩) (Nat.le_refl _) (.int .i64 (A.hi - m.lo))
                go_roundw
                case rel => exact ⟨j + 1, hjt, by simp, hbx, hbz, by rw [HST.out]; unfold stepS; rw [if_neg c1, if_pos c2']; exact BX⟩
                case measure => simp [intOf]; omega
              · have d2 : (xf == (k : Int)) = false := by simpa using c2'
                go_wp2_with fail
                go_roundw
                case rel => exact ⟨j + 1, hjt, by simp, hbx, hbz, by rw [HST.out]; unfold stepS; rw [if_neg c1, if_neg c2']; exact BX⟩
                case measure => simp [intOf]; omega
          · obtain rfl : j = l.length := by omega
            rw [List.take_length] at BX
            generalize nodeS l k s0 = A at *
            have cx := BX.cell
            have lx := BX.lt
            have own3 := ownsRow_step own (by rw [hwr0]; exact hbz)
            go_wp2_with (at_builtin; refine wpList_append_any _ rfl _ _ _ rfl w1.heap.size 41 ti _ 2 16 Try.underlying22 hi hz hsi hby rfl (by omega) _ k _ rfl (ownsRow_step own3 (Below.alloc (Below.refl _ _) (Nat.le_refl _) (.cells (#[.int .i64 (A).lo, .int .i64 (A).hi]) 41))) _ 1 (encP A) rfl (Src.of_blk (Blk.new _ 41 (#[.int .i64 (A).lo, .int .i64 (A).hi])) 1) rfl (fun u hu => oneP [A] u (by simpa [rowOf] using hu)) (by simp [maxLen]; omega) (by omega) (by simp; omega) ?_; intro v5 w5 own5 hg5 hat5)
            have hb5 : Below w.heap.size w w5 := Below.grown (hbx.alloc hxs (.cells (#[.int .i64 (A).lo, .int .i64 (A).hi]) 41)) hg5 (by simp; omega) (fun j hj => by
              rcases ownsRow_open own with ⟨rfl, _⟩ | ⟨gg, cc, uu, rfl, hgg, _⟩
              · cases hj
              · have hj' := Option.some.inj hj; dsimp only at hj'; omega)
            have hs5 : w1.heap.size ≤ w5.heap.size := by have := hg5.size; simp at this; omega
            go_roundw
            case rel => exact ⟨k + 1, hlt, by simp, hb5, hs5, by rw [HTO.out, rowOf_append]; simpa [rowOf] using own5⟩
            case measure => simp [intOf]; omega
      · obtain rfl : k = o.length := by omega
        have hLn := stkL_len o l
        have own' : wr.ownsRow w1.heap.size 41 2 u9 (stkL o l).length ((stkL o l).flatMap encP) := by rw [hLn]; exact own
        have R0 := RowIn.of_own encP_len own'
        have hE0 := fun h => stkE_ok (n := (o.length : Int)) (o := o) (l := l) H0.out h
        have hE2 := fun h => stkE_bad (n := (o.length : Int)) (o := o) (l := l) H0.out h
        have HE0 := Lib.hid hE0
        have HE2 := Lib.hid hE2
        clear hE0 hE2 hlt own own'
        have ho2 : 0 < (stkL o l).length := by omega
        clear hLn
        generalize stkL o l = L at *
        obtain ⟨oc, cc, rfl, r1, r2, _, r5⟩ := R0.at_
        unfold maxLen at r2
        obtain ⟨g, gg, rfl, hgz, hc⟩ := r5 (by rintro rfl; simp at ho2)
        have HC := Lib.hid hc
        clear hc r5
        go_wp2_with fail
        go_loopw [13] (fun i wv => StvRel w wr L i wv) (fun i _ => (L.length - intOf i).toNat)
        case atStart => exact ⟨0, Nat.zero_le _, rfl, rfl, hb, Below.refl _ _⟩
        case round =>
          obtain ⟨k, hk, rfl, hok, hbv, hbx⟩ := hrel
          have hwv := hbv.size
          by_cases hlt : k < L.length
          · obtain ⟨x, hx⟩ : ∃ x, L[k]? = some x := ⟨_, List.getElem?_eq_getElem hlt⟩
            have hkl : (k : Int) < L.length := by omega
            have hk0 : (0 : Int) ≤ k := by omega
            have e0 : World.cell? wr ⟨g, gg + k * 2, none⟩ = some (.int .i64 x.lo) := (hbx.cell (p := ⟨g, gg + k * 2, none⟩) hgz).trans (by simpa [encP] using HC.out k x hx 0 (by omega))
            have e1 : World.cell? wr ⟨g, gg + k * 2 + 1, none⟩ = some (.int .i64 x.hi) := (hbx.cell (p := ⟨g, gg + k * 2 + 1, none⟩) hgz).trans (by simpa [encP] using HC.out k x hx 1 (by omega))
            have hv := fun w => rvalid_any x w
            have hs := allV_take hx
            rw [hok, Bool.true_and] at hs
            have hxv := hbx.size
            cases hsv : sval x with
            | false =>
              have hfin : allV L = false := Bool.eq_false_iff.2 fun h => by
                have := allV_le (k := k + 1) h
                rw [hs, hsv] at this; cases this
              rw [hsv] at hv
              have HF := Lib.hid (HE2.out hfin)
              clear hfin hs hsv
              go_wp2_with fail
              refine (hv _).mono ?_
              rintro e w5 ⟨rfl, hb5⟩
              go_wp2_with fail
              refine bodyPost_ret (v := .tuple #[.slice none 0 0, .int .i64 2]) (by simp only [results, Try.results19]; go_simp; first | done | rfl) rfl ?_
              exact ⟨_, by rw [HF.out.1], by rw [HF.out.2]; exact RowIn.nil _ _ _, hbv.trans (hb5.mono hwv)⟩
            | true =>
              rw [hsv] at hv
              have HS := Lib.hid (hs.trans hsv)
              clear hs hsv
              go_wp2_with fail
              refine (hv _).mono ?_
              rintro e w5 ⟨rfl, hb5⟩
              go_wp2_with fail
              go_roundw
              case rel => exact ⟨k + 1, hlt, by simp, HS.out, hbv.trans (hb5.mono hwv), hbx.trans (hb5.mono hxv)⟩
              case measure => simp [intOf]; omega
          · obtain rfl : k = L.length := by omega
            rw [List.take_length] at hok
            have HF := Lib.hid (HE0.out hok)
            clear hok
            go_wp2_with fail
            refine bodyPost_ret (v := .tuple #[.slice (some ⟨g, gg, none⟩) L.length cc, .int .i64 0]) (by simp only [results, Try.results19]; go_simp; first | done | rfl) rfl ?_
            exact ⟨_, by rw [HF.out.1], by rw [HF.out.2]; exact R0.step hbx, hbv⟩
  · obtain ⟨e1, e2⟩ := stkE_chk h0
    have h0' : (bchk n o l != 0) = true := by simpa using h0
    rw [e1, e2]
    clear e1 e2 h0
    generalize bchk n o l = E at *
    go_enter Try.func19, Try.ntmps19
    go_wp2_with fail
    refine (hck _ ho hl).mono ?_
    rintro e w1 ⟨rfl, hb1⟩
    go_wp2_with fail
    refine bodyPost_ret (v := .tuple #[.slice none 0 0, .int .i64 E]) (by simp only [results, Try.results19]; go_simp; first | done | rfl) rfl ?_
    exact ⟨_, rfl, RowIn.nil _ _ _, hb1⟩

end Go.Proofs.Ythaoclocachbaaa
