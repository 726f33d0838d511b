/- The walk of BalanceConserves. -/
import Derived.Test.YthaoclocachbaaaBalCo
import Derived.Test.YthaoclocachbaaaBalZ
import Derived.Deep.DeepBigQuietO
namespace Go.Proofs.Ythaoclocachbaaa
set_option linter.unusedVariables false
set_option linter.unusedSimpArgs false
open Go.RowKit

theorem dSum_succ (o v : List Sp) (k : Nat) : dSum o v (k + 1) = dSum o v k + ((v.getD k sp0).lo - (o.getD k sp0).lo) := by simp [dSum, sm]
theorem dSum_bd {o v : List Sp} : ∀ k : Nat, (∀ i, i < k → -70368744177664 ≤ (v.getD i sp0).lo ∧ (v.getD i sp0).lo ≤ 70368744177664 ∧ 0 ≤ (o.getD i sp0).lo ∧ (o.getD i sp0).lo ≤ 70368744177664) → -(140737488355328 * k) ≤ dSum o v k ∧ dSum o v k ≤ 140737488355328 * k
  | 0, _ => by simp [dSum, sm]
  | k + 1, h => by
    have ih := dSum_bd k fun i hi => h i (by omega)
    have hk := h k (by omega)
    rw [dSum_succ]
    omega
def OpnRel (wa : World) (L : List Sp) (v i : Value) (wr : World) : Prop := ∃ k : Nat, k ≤ L.length ∧ i = .int .i64 k ∧ Below wa.heap.size wa wr ∧ wr.ownsRow wa.heap.size 41 2 v k (rowOf encP (L.take k))
def TrnRel (wb : World) (L : List Tr) (v i : Value) (wr : World) : Prop := ∃ k : Nat, k ≤ L.length ∧ i = .int .i64 k ∧ Below wb.heap.size wb wr ∧ wr.ownsRow wb.heap.size 43 4 v k (rowOf encR (L.take k))
def DifRel (wc : World) (o v : List Sp) (N : Nat) (s i : Value) (wr : World) : Prop := ∃ k : Nat, k ≤ N ∧ i = .int .i64 k ∧ s = .int .i64 (dSum o v k) ∧ Below wc.heap.size wc wr
theorem own_ge {W : World} {base n C : Nat} {e : TypeId} {v : Value} {xs : List Value} (h : W.ownsRow base e C v n xs) : ∀ j, Value.ownBlock v = some j → base ≤ j := fun j hj => by
  rcases ownsRow_open h with ⟨rfl, _⟩ | ⟨gg, cc, uu, rfl, hgg, _⟩
  · cases hj
  · have hj' := Option.some.inj hj; dsimp only at hj'; omega
set_option maxRecDepth 100000 in
set_option maxHeartbeats 8000000 in
theorem law_cons {w : World} {vo vl vc : Value} (n : Int) {o : List Sp} {l : List Tr} (ho : RowIn w vo 2 encP o) (hl : RowIn w vl 4 encR l) (hso : o.length * 16 ≤ 140737488355328) (hsl : l.length * 32 ≤ 140737488355328) :
    Calls Try.prog 6 #[.agg #[.int .i64 n, vo, vl, vc]] w fun e w' => e = .returned (.bool true) ∧ Below w.heap.size w w' := by
  have hb : Below w.heap.size w (w.alloc (.cells #[.int .i64 n, vo, vl, vc] 25)) := by repeat (first | (with_reducible exact Below.refl _ _) | (with_reducible assumption) | (with_reducible refine Below.drew ?_) | ((with_reducible refine Below.alloc ?_ ?_ _); rotate_left; (first | (with_reducible exact Nat.zero_le _) | (with_reducible exact Nat.le_refl _) | omega | (dsimp only; omega) | (simp only [World.size_alloc, World.size_setCell, World.size_drew]; omega))) | ((with_reducible refine Below.setCell ?_ ?_ _); rotate_left; (first | (with_reducible exact Nat.zero_le _) | (with_reducible exact Nat.le_refl _) | omega | (dsimp only; omega) | (simp only [World.size_alloc, World.size_setCell, World.size_drew]; omega))))
  have BX := Blk.new w 25 #[.int .i64 n, vo, vl, vc]
  obtain ⟨la, cb, rfl, l1, l2, _, hl5⟩ := id hl.at_
  obtain ⟨oa, ca, rfl, o1, o2, _, ho5⟩ := id ho.at_
  have HL := Lib.hid hl5
  have HO := Lib.hid ho5
  clear hl5 ho5 ho hl l1 l2 o1 o2
  obtain ⟨ti, hi, hz, hsi, hby⟩ := info_of (P := Try.prog) (t := 41) (z := .agg #[.int .i64 0, .int .i64 0]) (size := 2) (bytes := 16) (by kernel_rfl)
  obtain ⟨tj, ki, kz, ksi, kby⟩ := info_of (P := Try.prog) (t := 43) (z := .agg #[.int .i64 0, .int .i64 0, .int .i64 0, .int .i64 0]) (size := 4) (bytes := 32) (by kernel_rfl)
  have hol : (exOl o).length = o.length := by simp [exOl]
  have hll : (exLl l).length = l.length := by simp [exLl]
  have HOG := Lib.hid fun k (h : k < o.length) => (show (exOl o)[k]? = some ⟨(o.getD k sp0).lo, (o.getD k sp0).lo⟩ by rw [exOl, List.getElem?_map, getD_s h]; rfl)
  have HLG := Lib.hid fun k (h : k < l.length) => (show (exLl l)[k]? = some ⟨(l.getD k tr0).frm, (l.getD k tr0).to, ⟨(l.getD k tr0).mass.lo, (l.getD k tr0).mass.lo⟩⟩ by rw [exLl, List.getElem?_map, getD_t h]; rfl)
  have HCL := Lib.hid fun N (h : bchk (N : Nat) (exOl o) (exLl l) = 0) => cons_law h
  generalize exOl o = OO at *
  generalize exLl l = LL at *
  have HOL := Lib.hid hol
  have HLL := Lib.hid hll
  clear hol hll
  go_enter Try.func6, Try.ntmps6
  have x1 : World.cell? (w.alloc (.cells #[.int .i64 n, .slice oa o.length ca, .slice la l.length cb, vc] 25)) ⟨w.heap.size, 1, none⟩ = some (.slice oa o.length ca) := BX.cell 1
  have lx := BX.lt
  go_wp2_with fail
  clear x1 lx
  generalize w.alloc (.cells #[.int .i64 n, .slice oa o.length ca, .slice la l.length cb, vc] 25) = wa at *
  go_loopw [3, 15] (fun v i wr => OpnRel wa OO v i wr) (fun _ i _ => (o.length - intOf i).toNat)
  case atStart => exact ⟨0, Nat.zero_le _, rfl, Below.refl _ _, ⟨by simp [rowOf], .inl ⟨rfl, rfl⟩⟩⟩
  case round =>
    obtain ⟨k, hk, rfl, hbr, own⟩ := hrel
    rw [HOL.out] at hk
    have hsz := hbr.size
    by_cases hlt : k < o.length
    · have hw0 := hb.trans (hbr.mono hb.size)
      have hto := take_snoc (HOG.out k hlt)
      have HTO := Lib.hid hto
      have hx : o[k]? = some (o.getD k sp0) := getD_s hlt
      obtain ⟨ob, oo, hoo, hoz, hoc⟩ := HO.out (by rintro rfl; simp at hx)
      subst hoo
      have hkl : (k : Int) < o.length := by omega
      have hk0 : (0 : Int) ≤ k := by omega
      have e0 : World.cell? wr ⟨ob, oo + k * 2, none⟩ = some (.int .i64 (o.getD k sp0).lo) := (hw0.cell (p := ⟨ob, oo + k * 2, none⟩) hoz).trans (hoc k _ hx 0 (by omega))
      have BXr := BX.step hbr
      have x1 : World.cell? wr ⟨w.heap.size, 1, none⟩ = some (.slice (some ⟨ob, oo, none⟩) o.length ca) := BXr.cell 1
      have lx := BXr.lt
      have hoz2 := Nat.lt_of_lt_of_le hoz hw0.size
      have hr0 : ∀ jj, Value.ownBlock u3 = some jj → wa.heap.size ≤ jj := own_ge own
      generalize (o.getD k sp0).lo = m at *
      clear hto hoc hx
      have BN := Blk.new wr.drew 41 #[.int .i64 m, .int .i64 m]
      have hbz := hbr.drew.alloc (B := wa.heap.size) hsz (.cells #[.int .i64 m, .int .i64 m] 41)
      have hbv := (Below.refl wr.heap.size wr).drew.alloc (Nat.le_refl _) (.cells #[.int .i64 m, .int .i64 m] 41)
      have ownx := ownsRow_step own hbv
      have hA1 : k + 1 ≤ maxLen := by simp only [maxLen]; omega
      have hA2 : (k + 1) * 16 ≤ 140737488355328 := by omega
      have hA3 : wa.heap.size ≤ ((wr.drew).alloc (.cells #[.int .i64 m, .int .i64 m] 41)).heap.size := hbz.size
      go_wp2_with fail
      go_region_law ((refine step_append_any _ (by rfl) _ _ _ (by rfl) wa.heap.size 41 ti _ 2 16 Try.underlying22 hi hz hsi hby (by rfl) (by omega) _ k _ (by rfl) ownx _ 1 (encP ⟨m, m⟩) (by rfl) (Src.of_blk BN 1) (by rfl) (fun u hu => oneP [⟨m, m⟩] u (by simpa [rowOf] using hu)) hA1 hA2 hA3 ?_; intro v5 w5 own5 hg5 hat5))
      all_goals (
        have hb5 : Below wa.heap.size wa w5 := Below.grown hbz hg5 hA3 hr0
        have own7 : w5.ownsRow wa.heap.size 41 2 v5 (k + 1) (rowOf encP (OO.take (k + 1))) := by
          rw [HTO.out, rowOf_append]
          simpa [rowOf] using own5
        clear own5 own ownx hg5 hbz hbv BN e0 x1 lx
        go_wp2_with fail
        go_roundw
        case rel => exact ⟨k + 1, by rw [HOL.out]; exact hlt, by simp, hb5, own7⟩
        case measure => simp [intOf]; omega)
    · obtain rfl : k = o.length := by omega
      have hLl := HOL.out
      rw [← hLl, List.take_length] at own
      have R1 := RowIn.of_own encP_len own
      clear own hLl hlt hk
      replace BX := BX.step hbr
      replace hb := hb.trans (hbr.mono hb.size)
      have x2 : World.cell? wr ⟨w.heap.size, 2, none⟩ = some (.slice la l.length cb) := BX.cell 2
      have lx := BX.lt
      go_wp2_with fail
      clear x2 lx hbr hsz
      obtain ⟨wb, rfl⟩ : ∃ wb, wb = wr := ⟨wr, rfl⟩
      go_loopw [4, 38] (fun v i wr => TrnRel wb LL v i wr) (fun _ i _ => (l.length - intOf i).toNat)
      case atStart => exact ⟨0, Nat.zero_le _, rfl, Below.refl _ _, ⟨by simp [rowOf], .inl ⟨rfl, rfl⟩⟩⟩
      case round =>
        obtain ⟨k, hk, rfl, hbr, own⟩ := hrel
        rw [HLL.out] at hk
        have hsz := hbr.size
        by_cases hlt : k < l.length
        · have hw0 := hb.trans (hbr.mono hb.size)
          have hto := take_snoc (HLG.out k hlt)
          have HTO := Lib.hid hto
          have hx : l[k]? = some (l.getD k tr0) := getD_t hlt
          obtain ⟨lb, lo, hlo, hlz, hlc⟩ := HL.out (by rintro rfl; simp at hx)
          subst hlo
          have hkl : (k : Int) < l.length := by omega
          have hk0 : (0 : Int) ≤ k := by omega
          have e0 : World.cell? wr ⟨lb, lo + k * 4, none⟩ = some (.int .i64 (l.getD k tr0).frm) := (hw0.cell (p := ⟨lb, lo + k * 4, none⟩) hlz).trans (hlc k _ hx 0 (by omega))
          have e1 : World.cell? wr ⟨lb, lo + k * 4 + 1, none⟩ = some (.int .i64 (l.getD k tr0).to) := (hw0.cell (p := ⟨lb, lo + k * 4 + 1, none⟩) hlz).trans (hlc k _ hx 1 (by omega))
          have e2 : World.cell? wr ⟨lb, lo + k * 4 + 2, none⟩ = some (.int .i64 (l.getD k tr0).mass.lo) := (hw0.cell (p := ⟨lb, lo + k * 4 + 2, none⟩) hlz).trans (hlc k _ hx 2 (by omega))
          have e3 : World.cell? wr ⟨lb, lo + k * 4 + 3, none⟩ = some (.int .i64 (l.getD k tr0).mass.hi) := (hw0.cell (p := ⟨lb, lo + k * 4 + 3, none⟩) hlz).trans (hlc k _ hx 3 (by omega))
          have hr0 : ∀ jj, Value.ownBlock u4 = some jj → wb.heap.size ≤ jj := own_ge own
          generalize l.getD k tr0 = x at *
          obtain ⟨xf, xt, m0, m1⟩ := x
          dsimp only at e0 e1 e2 e3
          clear hto hlc hx
          have hbz := (hbr.alloc hsz (.cells #[.int .i64 xf, .int .i64 xt, .int .i64 m0, .int .i64 m0] 43)).alloc (by simp; omega) (.cells #[.int .i64 xf, .int .i64 xt, .int .i64 m0, .int .i64 m0] 43)
          have hbv := (Below.alloc (Below.refl wr.heap.size wr) (Nat.le_refl _) (.cells #[.int .i64 xf, .int .i64 xt, .int .i64 m0, .int .i64 m0] 43)).alloc (by simp) (.cells #[.int .i64 xf, .int .i64 xt, .int .i64 m0, .int .i64 m0] 43)
          have BN : Blk ((wr.alloc (.cells #[.int .i64 xf, .int .i64 xt, .int .i64 m0, .int .i64 m0] 43)).alloc (.cells #[.int .i64 xf, .int .i64 xt, .int .i64 m0, .int .i64 m0] 43)) (wr.heap.size + 1) 43 #[.int .i64 xf, .int .i64 xt, .int .i64 m0, .int .i64 m0] := by
            have := Blk.new (wr.alloc (.cells #[.int .i64 xf, .int .i64 xt, .int .i64 m0, .int .i64 m0] 43)) 43 #[.int .i64 xf, .int .i64 xt, .int .i64 m0, .int .i64 m0]
            simpa using this
          go_wp2_with (at_builtin; refine wpList_append_any _ rfl _ _ _ rfl wb.heap.size 43 tj _ 4 32 Try.underlying23 ki kz ksi kby rfl (by omega) _ k _ rfl (ownsRow_step own hbv) _ 1 (encR ⟨xf, xt, ⟨m0, m0⟩⟩) rfl (Src.of_blk BN 1) rfl (fun u hu => oneR [⟨xf, xt, ⟨m0, m0⟩⟩] u (by simpa [rowOf] using hu)) (by simp only [maxLen]; omega) (by omega) (by first | omega | (simp only [World.size_alloc, World.size_setCell, World.size_drew] <;> omega)) ?_; intro v5 w5 own5 hg5 hat5)
          have hb5 : Below wb.heap.size wb w5 := Below.grown hbz hg5 (by first | omega | (simp only [World.size_alloc, World.size_setCell] <;> omega)) hr0
          have own7 : w5.ownsRow wb.heap.size 43 4 v5 (k + 1) (rowOf encR (LL.take (k + 1))) := by
            rw [HTO.out, rowOf_append]
            simpa [rowOf] using own5
          clear own5 own hg5 hbz hbv BN e0 e1 e2 e3
          go_roundw
          case rel => exact ⟨k + 1, by rw [HLL.out]; exact hlt, by simp, hb5, own7⟩
          case measure => simp [intOf]; omega
        · obtain rfl : k = l.length := by omega
          have hLl := HLL.out
          rw [← hLl, List.take_length] at own
          have R2 := RowIn.of_own encR_len own
          clear own hLl hlt hk
          replace BX := BX.step hbr
          replace R1 := R1.step hbr
          replace hb := hb.trans (hbr.mono hb.size)
          have hst := stock_any n R1 R2
          have hck := fun w' (h : Below wr.heap.size wr w') => rcheckB_any (w := w') n (R1.step h) (R2.step h)
          have x0 : World.cell? wr ⟨w.heap.size, 0, none⟩ = some (.int .i64 n) := BX.cell 0
          have lx := BX.lt
          by_cases h0 : stkE n OO LL = 0
          · have h00 : bchk n OO LL = 0 := by
              by_cases hA : bchk n OO LL = 0
              · exact hA
              · rw [(stkE_chk hA).1] at h0; exact absurd h0 hA
            have hv : allV (stkL OO LL) = true := by
              cases hv : allV (stkL OO LL) with
              | true => rfl
              | false => rw [(stkE_bad h00 hv).1] at h0; cases h0
            have hB := bchk_ok h00
            have hn1 := hB.n1
            have hn8 := hB.n8
            have hlen := hB.len
            have hV := (stkE_ok h00 hv).2
            rw [h0, hV] at hst
            obtain ⟨N, rfl⟩ : ∃ N : Nat, n = N := ⟨n.toNat, by omega⟩
            obtain ⟨p1, p2⟩ := HCL.out N h00
            have hoN : OO.length = N := by omega
            have hN8 : N ≤ 8 := by omega
            have hsl2 : (stkL OO LL).length = N := by rw [stkL_len]; exact hoN
            have hbd : ∀ i, i < N → -70368744177664 ≤ ((stkL OO LL).getD i sp0).lo ∧ ((stkL OO LL).getD i sp0).lo ≤ 70368744177664 ∧ 0 ≤ (OO.getD i sp0).lo ∧ (OO.getD i sp0).lo ≤ 70368744177664 := fun i hi => by
              have h1 := sval_true (allV_mem hv (s := (stkL OO LL).getD i sp0) (List.mem_of_getElem? (getD_s (by omega))))
              have h2 := opOk_iff.1 (hB.op (OO.getD i sp0) (List.mem_of_getElem? (getD_s (by omega))))
              omega
            generalize stkL OO LL = V at *
            have HP1 := Lib.hid p1
            have HP2 := Lib.hid p2
            have HBD := Lib.hid hbd
            have HON := Lib.hid hoN
            have HVN := Lib.hid hsl2
            clear p1 p2 hbd h0 hv hB hV h00 hck R2
            obtain ⟨a3, c3, rfl, _, _, _, r5⟩ := R1.at_
            have HR1 := Lib.hid r5
            rw [hoN] at hst ⊢
            clear r5 R1 hoN hsl2 hlen
            go_wp2_with fail
            clear x0 lx
            refine hst.mono ?_
            rintro e w3 ⟨v3, rfl, hr3, hb3⟩
            obtain ⟨a4, c4, rfl, _, _, _, r6⟩ := hr3.at_
            have HR3 := Lib.hid r6
            replace hb := hb.trans (hb3.mono hb.size)
            rw [HVN.out]
            clear r6 hr3
            go_wp2_with fail
            have hz0 : dSum OO V 0 = 0 := rfl
            go_loopw [5, 86] (fun s i wr => DifRel w3 OO V N s i wr) (fun _ i _ => (N - intOf i).toNat)
            case atStart => exact ⟨0, Nat.zero_le _, rfl, rfl, Below.refl _ _⟩
            case round =>
              obtain ⟨k, hk, rfl, rfl, hbr2⟩ := hrel
              have hsz2 := hbr2.size
              have hdb := dSum_bd (o := OO) (v := V) k fun i hi => HBD.out i (by omega)
              obtain ⟨db1, db2⟩ := hdb
              by_cases hlt : k < N
              · have hVx : V[k]? = some (V.getD k sp0) := getD_s (by rw [HVN.out]; exact hlt)
                have hOx : OO[k]? = some (OO.getD k sp0) := getD_s (by rw [HON.out]; exact hlt)
                have hex := HP1.out k hlt
                have hds := dSum_succ OO V k
                obtain ⟨d1, d2, d3, d4⟩ := HBD.out k hlt
                obtain ⟨ob, oo, hoo, hoz, hoc⟩ := HR1.out (by rintro rfl; simp at hOx)
                obtain ⟨vb, vo2, hvo, hvz, hvc⟩ := HR3.out (by rintro rfl; simp at hVx)
                subst hoo hvo
                have hkl : (k : Int) < N := by omega
                have hk0 : (0 : Int) ≤ k := by omega
                have hk8 : (k : Int) ≤ 8 := by omega
                have f0 : World.cell? wr ⟨vb, vo2 + k * 2, none⟩ = some (.int .i64 (V.getD k sp0).lo) := (hbr2.cell (p := ⟨vb, vo2 + k * 2, none⟩) hvz).trans (hvc k _ hVx 0 (by omega))
                have f1 : World.cell? wr ⟨vb, vo2 + k * 2 + 1, none⟩ = some (.int .i64 (V.getD k sp0).lo) := by
                  rw [hex]
                  exact (hbr2.cell (p := ⟨vb, vo2 + k * 2 + 1, none⟩) hvz).trans (hvc k _ hVx 1 (by omega))
                have g0 : World.cell? wr ⟨ob, oo + k * 2, none⟩ = some (.int .i64 (OO.getD k sp0).lo) := ((hb3.trans (hbr2.mono hb3.size)).cell (p := ⟨ob, oo + k * 2, none⟩) hoz).trans (hoc k _ hOx 0 (by omega))
                have hvz2 := Nat.lt_of_lt_of_le hvz hsz2
                have hoz2 := Nat.lt_of_lt_of_le hoz (Nat.le_trans hb3.size hsz2)
                have HDS := Lib.hid hds
                clear hds hex hvc hoc hVx hOx
                generalize (V.getD k sp0).lo = A at *
                generalize (OO.getD k sp0).lo = B at *
                generalize dSum OO V k = D at *
                have y0 : ∀ y : BW wr, y.w.cell? ⟨vb, vo2 + k * 2, none⟩ = some (.int .i64 A) := fun y => (y.cell hvz2).trans f0
                have y1 : ∀ y : BW wr, y.w.cell? ⟨vb, vo2 + k * 2 + 1, none⟩ = some (.int .i64 A) := fun y => (y.cell hvz2).trans f1
                have y2 : ∀ y : BW wr, y.w.cell? ⟨ob, oo + k * 2, none⟩ = some (.int .i64 B) := fun y => (y.cell hoz2).trans g0
                go_wp2_with fail
                refine wp_region_calm (by kernel_rfl) (by kernel_rfl) ?_
                repeat (go_big_quiet_step (fail))
                first | refine wpQuiet_nil ?_ | skip
                intro w5 hb5
                have y0' : ∀ y : BW w5, y.w.cell? ⟨vb, vo2 + k * 2, none⟩ = some (.int .i64 A) := fun y => (y.cell (Nat.lt_of_lt_of_le hvz2 hb5.size)).trans ((hb5.cell (p := ⟨vb, vo2 + k * 2, none⟩) hvz2).trans f0)
                have y2' : ∀ y : BW w5, y.w.cell? ⟨ob, oo + k * 2, none⟩ = some (.int .i64 B) := fun y => (y.cell (Nat.lt_of_lt_of_le hoz2 hb5.size)).trans ((hb5.cell (p := ⟨ob, oo + k * 2, none⟩) hoz2).trans g0)
                clear y0 y1 y2
                go_wp2_with fail
                refine wp_region_calm (by kernel_rfl) (by kernel_rfl) ?_
                repeat (go_big_quiet_step (fail))
                first | refine wpQuiet_nil ?_ | skip
                intro w6 hb6
                go_wp2_with fail
                go_roundw
                case rel => exact ⟨k + 1, hlt, by simp, by rw [HDS.out]; congr 1; omega, hbr2.trans ((hb5.trans (hb6.mono hb5.size)).mono hsz2)⟩
                case measure => simp [intOf]; omega
              · obtain rfl : k = N := by omega
                have hzz := HP2.out
                clear db1 db2
                rw [hzz] at *
                go_wp2_with fail
                refine (example_any _).mono ?_
                rintro e w9 ⟨rfl, hb9⟩
                go_wp2_with fail
                go_ret
                have hbf := hb.trans (hbr2.mono hb.size)
                exact ⟨rfl, hbf.trans (hb9.mono hbf.size)⟩
          · have h0' : (stkE n OO LL != 0) = true := by simpa using h0
            by_cases h00 : bchk n OO LL = 0
            · have hE : stkE n OO LL = 2 := by
                cases hv : allV (stkL OO LL) with
                | true => exact absurd (stkE_ok h00 hv).1 h0
                | false => exact (stkE_bad h00 hv).1
              rw [hE] at hst
              rw [h00] at hck
              clear h0 h0' h00 hE R1 R2
              go_wp2_with fail
              clear x0 lx
              refine hst.mono ?_
              rintro e w3 ⟨v3, rfl, hr3, hb3⟩
              replace BX := BX.step hb3
              replace hb := hb.trans (hb3.mono hb.size)
              have x0 : World.cell? w3 ⟨w.heap.size, 0, none⟩ = some (.int .i64 n) := BX.cell 0
              have lx := BX.lt
              go_wp2_with fail
              clear x0 lx
              refine (hck _ hb3).mono ?_
              rintro e w4 ⟨rfl, hb4⟩
              replace hb := hb.trans (hb4.mono hb.size)
              go_wp2_with fail
              refine (example_any _).mono ?_
              rintro e w9 ⟨rfl, hb9⟩
              go_wp2_with fail
              go_ret
              exact ⟨rfl, hb.trans (hb9.mono hb.size)⟩
            · have hE := (stkE_chk h00).1
              rw [hE] at hst h0'
              clear h0 h00 hE R1 R2
              generalize bchk n OO LL = E at *
              go_wp2_with fail
              clear x0 lx
              refine hst.mono ?_
              rintro e w3 ⟨v3, rfl, hr3, hb3⟩
              replace BX := BX.step hb3
              replace hb := hb.trans (hb3.mono hb.size)
              have x0 : World.cell? w3 ⟨w.heap.size, 0, none⟩ = some (.int .i64 n) := BX.cell 0
              have lx := BX.lt
              go_wp2_with fail
              clear x0 lx
              refine (hck _ hb3).mono ?_
              rintro e w4 ⟨rfl, hb4⟩
              replace hb := hb.trans (hb4.mono hb.size)
              go_wp2_with fail
              refine (example_any _).mono ?_
              rintro e w9 ⟨rfl, hb9⟩
              go_wp2_with fail
              go_ret
              exact ⟨by simp, hb.trans (hb9.mono hb.size)⟩

end Go.Proofs.Ythaoclocachbaaa
