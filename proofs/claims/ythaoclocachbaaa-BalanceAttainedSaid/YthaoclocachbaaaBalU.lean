/- Contract of the reference: Tighten. -/
import Derived.Test.YthaoclocachbaaaBalT
namespace Go.Proofs.Ythaoclocachbaaa
set_option linter.unusedVariables false
set_option linter.unusedSimpArgs false
open Go.RowKit

def tgAt (L : List Ed) (M : Nat) (t : Tr) : Sp := ⟨tLo L t M, tHi L t M⟩
def TgRel (w1 : World) (L : List Ed) (l : List Tr) (M : Nat) (v i : Value) (wr : World) : Prop :=
  ∃ k : Nat, k ≤ l.length ∧ i = .int .i64 k ∧ Below w1.heap.size w1 wr ∧ wr.ownsRow w1.heap.size 41 2 v k (rowOf encP ((l.take k).map (tgAt L M)))
def TsRel (w1 wy : World) (b : Nat) (fL fH : Nat → Int) (M : Nat) (i : Value) (wr : World) : Prop :=
  ∃ s : Nat, s ≤ M ∧ i = .int .i64 s ∧ Below w1.heap.size w1 wr ∧ Below b wy wr ∧ Blk wr b 41 #[.int .i64 (fL s), .int .i64 (fH s)]

set_option maxRecDepth 100000 in
set_option maxHeartbeats 8000000 in
theorem rtighten_any {w : World} {vo vl vc : Value} (n : Int) {o : List Sp} {l : List Tr} {c : List Sp} (ho : RowIn w vo 2 encP o) (hl : RowIn w vl 4 encR l) (hc : RowIn w vc 2 encP c) : Calls Try.prog 23 #[.int .i64 n, vo, vl, vc] w (spOut w (tightV n o l c) (tightE n o l c)) := by
  have hck := fun w ho hl hc => rcheckA_any (w := w) (vo := vo) (vl := vl) (vc := vc) n (o := o) (l := l) (c := c) ho hl hc
  by_cases h0 : bchkA n o l c = 0
  · obtain ⟨hA0, hcl, hcv⟩ := bchkA_ok h0
    have hB := bchk_ok hA0
    have hn1 := hB.n1
    have hn8 := hB.n8
    have hfew := hB.few
    obtain ⟨N, rfl⟩ : ∃ N : Nat, n = N := ⟨n.toNat, by omega⟩
    have hcl' : c.length = N := by omega
    have hN8 : N ≤ 8 := by omega
    rw [h0] at hck
    have hfe := fun w ho hl hc => rfeasible_any (w := w) (vo := vo) (vl := vl) (vc := vc) (n := N) (o := o) (l := l) (c := c) ho hl hc hB hcl' hcv
    cases hf : feasB N o l c with
    | false =>
      have hE := tightE_no (n := N) h0 (by rw [Int.toNat_natCast]; exact hf)
      have hV : tightV N o l c = [] := by unfold tightV; rw [if_neg (by rw [hE]; decide)]
      rw [hE, hV]
      rw [hf] at hfe
      clear hE hV hf h0 hA0 hB hcl hcl' hcv
      go_enter Try.func23, Try.ntmps23
      go_wp2_with fail
      refine (hck _ ho hl hc).mono ?_
      rintro e w1 ⟨rfl, hb1⟩
      go_wp2_with fail
      refine (hfe _ (ho.step hb1) (hl.step hb1) (hc.step hb1)).mono ?_
      rintro e w2 ⟨rfl, hb2⟩
      go_wp2_with fail
      go_ret2
      exact ⟨_, rfl, RowIn.nil _ _ _, hb1.trans (hb2.mono hb1.size)⟩
    | true =>
      have hE := tightE_ok (n := N) h0 (by rw [Int.toNat_natCast]; exact hf)
      have hV : tightV N o l c = l.map (tgAt (arcsL N o l c) (2 ^ (N + 1))) := by unfold tightV; rw [if_pos hE]; rfl
      rw [hE, hV]
      rw [hf] at hfe
      have har := arcs_ok hB hcl' hcv
      have hal := arcs_len (c := c) hB
      have HRA := Lib.hid fun w ho hl hc => rarcs_any (w := w) (vo := vo) (vl := vl) (vc := vc) (n := N) (o := o) (l := l) (c := c) ho hl hc hB hcl'
      have HB := Lib.hid hB
      have hwr := pow_wrap hN8
      have hpw : 2 ^ (N + 1) ≤ 512 := Nat.le_trans (Nat.pow_le_pow_right (by omega) (by omega : N + 1 ≤ 9)) (by decide)
      clear hE hV hf h0 hA0 hB hcl hcl' hcv
      generalize 2 ^ (N + 1) = M at *
      have HAR := Lib.hid har
      clear har
      generalize arcsL N o l c = L at *
      obtain ⟨ti, hi, hz, hsi, hby⟩ := info_of (P := Try.prog) (t := 41) (z := .agg #[.int .i64 0, .int .i64 0]) (size := 2) (bytes := 16) (by kernel_rfl)
      obtain ⟨la, cb, rfl, _, _, _, hl5⟩ := id hl.at_
      have HL := Lib.hid hl5
      clear hl5
      go_enter Try.func23, Try.ntmps23
      go_wp2_with fail
      refine (hck _ ho hl hc).mono ?_
      rintro e w1 ⟨rfl, hb1⟩
      replace ho := ho.step hb1
      replace hl := hl.step hb1
      replace hc := hc.step hb1
      go_wp2_with fail
      refine (hfe _ ho hl hc).mono ?_
      rintro e w2 ⟨rfl, hb2⟩
      replace ho := ho.step hb2
      replace hl := hl.step hb2
      replace hc := hc.step hb2
      replace hb2 := hb1.trans (hb2.mono hb1.size)
      go_wp2_with fail
      refine (HRA.out _ ho hl hc).mono ?_
      rintro e w3 ⟨va, rfl, hr, hb3⟩
      replace hb3 := hb2.trans (hb3.mono hb2.size)
      clear hb1 hb2 ho hl hc hck hfe HRA
      go_wp2_with fail
      have hb4 : Below w3.heap.size w3 (w3.alloc (.cells #[] 41)) := by repeat (first | (with_reducible exact Below.refl _ _) | (with_reducible assumption) | (with_reducible refine Below.drew ?_) | ((with_reducible refine Below.alloc ?_ ?_ _); rotate_left; (first | (with_reducible exact Nat.zero_le _) | (with_reducible exact Nat.le_refl _) | omega | (dsimp only; omega) | (simp only [World.size_alloc, World.size_setCell, World.size_drew]; omega))) | ((with_reducible refine Below.setCell ?_ ?_ _); rotate_left; (first | (with_reducible exact Nat.zero_le _) | (with_reducible exact Nat.le_refl _) | omega | (dsimp only; omega) | (simp only [World.size_alloc, World.size_setCell, World.size_drew]; omega))))
      have own4 := own0 (Blk.new w3 41 #[]) (Nat.le_refl _)
      have hsz3 := hb3.size
      have HR0 := Lib.hid hr
      go_loopw [12, 13] (fun v i wr => TgRel w3 L l M v i wr) (fun _ i _ => (l.length - intOf i).toNat)
      case atStart => exact ⟨0, Nat.zero_le _, rfl, hb4, own4⟩
      case round =>
        clear hb4 own4
        obtain ⟨k, hk, rfl, hb, own⟩ := hrel
        have hwz := hb.size
        by_cases hlt : k < l.length
        · obtain ⟨x, hx⟩ : ∃ x, l[k]? = some x := ⟨_, List.getElem?_eq_getElem hlt⟩
          obtain ⟨lb, lo, hlo, hlz, hlc⟩ := HL.out (by rintro rfl; simp at hlt)
          subst hlo
          have hkl : (k : Int) < l.length := by omega
          have hk0 : (0 : Int) ≤ k := by omega
          have htr := trE_iff.1 (HB.out.tr x (List.mem_of_getElem? hx))
          have hto : (l.take (k + 1)).map (tgAt L M) = (l.take k).map (tgAt L M) ++ [tgAt L M x] := by rw [List.take_add_one, hx]; simp
          have htl : ((l.take k).map (tgAt L M)).length = k := by simp; omega
          have hL0 : tLo L x 0 = x.mass.lo := rfl
          have hH0 : tHi L x 0 = x.mass.hi := rfl
          have hgA : tgAt L M x = ⟨tLo L x M, tHi L x M⟩ := rfl
          have hstep : ∀ s, tLo L x (s + 1) = (if inB s x.frm.toNat = false ∧ inB s x.to.toNat = true then (if tLo L x s ≤ x.mass.hi - roomOf (inB s) L then x.mass.hi - roomOf (inB s) L else tLo L x s) else tLo L x s) ∧
            tHi L x (s + 1) = (if inB s x.frm.toNat = true ∧ inB s x.to.toNat = false then (if tHi L x s ≤ x.mass.lo + roomOf (inB s) L then tHi L x s else x.mass.lo + roomOf (inB s) L) else tHi L x s) := fun s => ⟨rfl, rfl⟩
          have hlz1 : lb < w3.heap.size := Nat.lt_of_lt_of_le hlz hsz3
          have E : ∀ wq, Below w3.heap.size w3 wq → World.cell? wq ⟨lb, lo + k * 4, none⟩ = some (.int .i64 x.frm) ∧ World.cell? wq ⟨lb, lo + k * 4 + 1, none⟩ = some (.int .i64 x.to) ∧ World.cell? wq ⟨lb, lo + k * 4 + 2, none⟩ = some (.int .i64 x.mass.lo) ∧ World.cell? wq ⟨lb, lo + k * 4 + 2 + 1, none⟩ = some (.int .i64 x.mass.hi) := fun wq hq => by
            have h3 := hb3.trans (hq.mono hb3.size)
            exact ⟨(h3.cell (p := ⟨lb, lo + k * 4, none⟩) hlz).trans (hlc k _ hx 0 (by omega)), (h3.cell (p := ⟨lb, lo + k * 4 + 1, none⟩) hlz).trans (hlc k _ hx 1 (by omega)), (h3.cell (p := ⟨lb, lo + k * 4 + 2, none⟩) hlz).trans (hlc k _ hx 2 (by omega)), (h3.cell (p := ⟨lb, lo + k * 4 + 3, none⟩) hlz).trans (hlc k _ hx 3 (by omega))⟩
          have HE := Lib.hid E
          have HST := Lib.hid hstep
          have HTO := Lib.hid hto
          have HTL := Lib.hid htl
          clear E hstep hlc hx hto htl
          generalize hX : tLo L x = fL at *
          generalize hY : tHi L x = fH at *
          have HGA := Lib.hid hgA
          clear hX hY hgA
          obtain ⟨xf, xt, m⟩ := x
          obtain ⟨t1, t2, t3, t4, t5, t6⟩ := htr
          dsimp only at t1 t2 t3 t4 t5 t6 hL0 hH0
          obtain ⟨m1, m2, m3⟩ := opOk_iff.1 t6
          obtain ⟨q, rfl⟩ : ∃ q : Nat, xf = q := ⟨xf.toNat, by omega⟩
          obtain ⟨p, rfl⟩ : ∃ p : Nat, xt = p := ⟨xt.toNat, by omega⟩
          have hq8 : q < 64 := by omega
          have hp8 : p < 64 := by omega
          clear t1 t2 t3 t4 t5 t6
          have hE2 := HE.out
          have hS2 := HST.out
          clear HE HST
          dsimp only at hE2 hS2
          have HE := Lib.hid hE2
          have HST := Lib.hid hS2
          clear hE2 hS2
          obtain ⟨e0, e1, e2, e3⟩ := HE.out _ hb
          have BX := Blk.new wr 41 #[.int .i64 (fL 0), .int .i64 (fH 0)]
          have hbx : Below w3.heap.size w3 (wr.alloc (.cells #[.int .i64 (fL 0), .int .i64 (fH 0)] 41)) := hb.alloc hwz _
          have hby : Below wr.heap.size wr (wr.alloc (.cells #[.int .i64 (fL 0), .int .i64 (fH 0)] 41)) := Below.alloc (Below.refl _ _) (Nat.le_refl _) _
          rw [← hL0] at e2
          rw [← hH0] at e3
          clear hb hL0 hH0
          go_wp2_with fail
          clear e0 e1 e2 e3
          generalize hgx : wr.heap.size = gx at *
          have hgx1 : w3.heap.size ≤ gx := hwz
          go_loopw [15] (fun i wz => TsRel w3 wr gx fL fH M i wz) (fun i _ => (M - intOf i).toNat)
          case atStart => exact ⟨0, Nat.zero_le _, rfl, hbx, hby, BX⟩
          case round =>
            clear hbx hby BX
            obtain ⟨s, hs, rfl, hb, hbz, BX⟩ := hrel
            have hxs := hb.size
            have hzs := hbz.size
            have hs0 : (0 : Int) ≤ s := by omega
            by_cases hst : s < M
            · have hsl : (s : Int) < M := by omega
              have hrd := roomOf_bd (n := N) (inB s) (l := L) HAR.out
              obtain ⟨hlo, hhi⟩ := HST.out s
              simp only [Int.toNat_natCast] at hlo hhi
              have HRM := Lib.hid fun wq (hq : RowIn wq va 4 encA L) => rroom_any hq hN8 HAR.out hal s (by omega)
              generalize roomOf (inB s) L = R at *
              obtain ⟨r1, r2⟩ := hrd
              generalize hAe : fL s = A at *
              generalize hBe : fH s = B at *
              clear hAe hBe
              cases hu : inB s q with
              | false =>
                cases hv : inB s p with
                | false =>
                  have HU := Lib.hid hu
                  have HV := Lib.hid hv
                  have q1 := fun w => rin_any s q hq8 (by omega) w
                  have q2 := fun w => rin_any s p hp8 (by omega) w
                  rw [hu] at q1
                  rw [hv] at q2
                  clear hu hv
                  rw [if_neg (by simp [HU.out, HV.out])] at hlo
                  rw [if_neg (by simp [HU.out, HV.out])] at hhi
                  have HLO := Lib.hid hlo
                  have HHI := Lib.hid hhi
                  clear hlo hhi
                  obtain ⟨f0, f1, f2, f3⟩ := HE.out _ hb
                  go_wp2_with fail
                  skip
                  refine (q1 _).mono ?_
                  rintro e w' ⟨rfl, hw'⟩
                  replace hw' := hw'.symm
                  subst hw'
                  go_wp2_with fail
                  skip
                  refine (q1 _).mono ?_
                  rintro e w' ⟨rfl, hw'⟩
                  replace hw' := hw'.symm
                  subst hw'
                  go_wp2_with fail
                  skip
                  refine (q2 _).mono ?_
                  rintro e w' ⟨rfl, hw'⟩
                  replace hw' := hw'.symm
                  subst hw'
                  go_wp2_with fail
                  skip
                  go_roundw
                  case rel => exact ⟨s + 1, hst, by simp, hb, hbz, by rw [HLO.out, HHI.out]; exact BX⟩
                  case measure => simp [intOf]; omega
                | true =>
                  have HU := Lib.hid hu
                  have HV := Lib.hid hv
                  have q1 := fun w => rin_any s q hq8 (by omega) w
                  have q2 := fun w => rin_any s p hp8 (by omega) w
                  rw [hu] at q1
                  rw [hv] at q2
                  clear hu hv
                  rw [if_pos ⟨HU.out, HV.out⟩] at hlo
                  rw [if_neg (by simp [HU.out, HV.out])] at hhi
                  have HHI := Lib.hid hhi
                  clear hhi
                  have hlo' : fL (s + 1) = max A (m.hi - R) := by rw [hlo]; split <;> omega
                  have HLO := Lib.hid hlo'
                  clear hlo hlo'
                  obtain ⟨f0, f1, f2, f3⟩ := HE.out _ hb
                  go_wp2_with fail
                  skip
                  refine (q1 _).mono ?_
                  rintro e w' ⟨rfl, hw'⟩
                  replace hw' := hw'.symm
                  subst hw'
                  go_wp2_with fail
                  skip
                  refine (q1 _).mono ?_
                  rintro e w' ⟨rfl, hw'⟩
                  replace hw' := hw'.symm
                  subst hw'
                  go_wp2_with fail
                  skip
                  refine (q2 _).mono ?_
                  rintro e w' ⟨rfl, hw'⟩
                  replace hw' := hw'.symm
                  subst hw'
                  go_wp2_with fail
                  clear f0 f1 f2 f3
                  skip
                  obtain ⟨f0, f1, f2, f3⟩ := HE.out _ hb
                  have lz0 : lb < wr.heap.size := Nat.lt_of_lt_of_le hlz1 hb.size
                  have c2 : ∀ y : BW wr, ∀ jj, y.w.cell? ⟨gx, jj, none⟩ = #[.int .i64 A, .int .i64 B][jj]? := fun y => (BX.bw y).cell
                  have c3 : ∀ y : BW wr, y.w.cell? ⟨lb, lo + k * 4 + 2 + 1, none⟩ = some (.int .i64 m.hi) := fun y => (y.cell lz0).trans (by first | exact f2 | exact f3)
                  have c4 : ∀ y : BW wr, Calls Try.prog 28 #[va, .int .i64 (s : Nat)] y.w fun e w' => e = .returned (.int .i64 R) ∧ ∃ z : BW wr, w' = z.w := fun y => (HRM.out y.w (hr.step (hb.trans (y.h.mono hb.size)))).mono fun e w' ⟨h1, h2⟩ => ⟨h1, y, h2⟩
                  refine wp_region_calm_tail 14 (by kernel_rfl) (by kernel_rfl) ?_
                  simp only [List.take_succ_cons, List.take_zero, List.drop_succ_cons, List.drop_zero]
                  repeat (go_big_quiet_step (fail))
                  go_big_quiet_want; go_big_quiet_op; go_big_quiet_call (exact c4 _)
                  repeat (go_big_quiet_step (fail))
                  first | refine wpQuiet_nil ?_ | skip
                  intro wy0 hyy
                  clear c2 c3 c4 f0 f1 f2 f3
                  replace BX := BX.step hyy
                  replace hbz := hbz.trans (hyy.mono (by have := hbz.size; omega))
                  replace hb := hb.trans (hyy.mono hb.size)
                  clear hyy lz0
                  have cx := BX.cell
                  have fx := BX.free
                  have lx := BX.lt
                  obtain ⟨f0, f1, f2, f3⟩ := HE.out _ hb
                  have EX := HE.out _ (hb.setCell (p := ⟨gx, 0, none⟩) hgx1 (.int .i64 (max A (m.hi - R))))
                  obtain ⟨g0, g1, g2, g3⟩ := EX
                  go_wp2_with fail
                  skip
                  clear cx fx lx f0 f1 f2 f3 g0 g1 g2 g3
                  replace BX := BX.put 0 (.int .i64 (max A (m.hi - R)))
                  replace hb := hb.setCell (p := ⟨gx, 0, none⟩) hgx1 (.int .i64 (max A (m.hi - R)))
                  replace hbz := hbz.setCell (p := ⟨gx, 0, none⟩) (Nat.le_refl _) (.int .i64 (max A (m.hi - R)))
                  skip
                  go_roundw
                  case rel => exact ⟨s + 1, hst, by simp, hb, hbz, by rw [HLO.out, HHI.out]; exact BX⟩
                  case measure => simp [intOf]; omega
              | true =>
                cases hv : inB s p with
                | false =>
                  have HU := Lib.hid hu
                  have HV := Lib.hid hv
                  have q1 := fun w => rin_any s q hq8 (by omega) w
                  have q2 := fun w => rin_any s p hp8 (by omega) w
                  rw [hu] at q1
                  rw [hv] at q2
                  clear hu hv
                  rw [if_neg (by simp [HU.out, HV.out])] at hlo
                  rw [if_pos ⟨HU.out, HV.out⟩] at hhi
                  have HLO := Lib.hid hlo
                  clear hlo
                  have hhi' : fH (s + 1) = min B (m.lo + R) := by rw [hhi]; split <;> omega
                  have HHI := Lib.hid hhi'
                  clear hhi hhi'
                  obtain ⟨f0, f1, f2, f3⟩ := HE.out _ hb
                  go_wp2_with fail
                  skip
                  refine (q1 _).mono ?_
                  rintro e w' ⟨rfl, hw'⟩
                  replace hw' := hw'.symm
                  subst hw'
                  go_wp2_with fail
                  skip
                  refine (q2 _).mono ?_
                  rintro e w' ⟨rfl, hw'⟩
                  replace hw' := hw'.symm
                  subst hw'
                  go_wp2_with fail
                  clear f0 f1 f2 f3
                  skip
                  obtain ⟨f0, f1, f2, f3⟩ := HE.out _ hb
                  have lz0 : lb < wr.heap.size := Nat.lt_of_lt_of_le hlz1 hb.size
                  have c2 : ∀ y : BW wr, ∀ jj, y.w.cell? ⟨gx, jj, none⟩ = #[.int .i64 A, .int .i64 B][jj]? := fun y => (BX.bw y).cell
                  have c3 : ∀ y : BW wr, y.w.cell? ⟨lb, lo + k * 4 + 2, none⟩ = some (.int .i64 m.lo) := fun y => (y.cell lz0).trans (by first | exact f2 | exact f3)
                  have c4 : ∀ y : BW wr, Calls Try.prog 28 #[va, .int .i64 (s : Nat)] y.w fun e w' => e = .returned (.int .i64 R) ∧ ∃ z : BW wr, w' = z.w := fun y => (HRM.out y.w (hr.step (hb.trans (y.h.mono hb.size)))).mono fun e w' ⟨h1, h2⟩ => ⟨h1, y, h2⟩
                  refine wp_region_calm_tail 14 (by kernel_rfl) (by kernel_rfl) ?_
                  simp only [List.take_succ_cons, List.take_zero, List.drop_succ_cons, List.drop_zero]
                  repeat (go_big_quiet_step (fail))
                  go_big_quiet_want; go_big_quiet_op; go_big_quiet_call (exact c4 _)
                  repeat (go_big_quiet_step (fail))
                  first | refine wpQuiet_nil ?_ | skip
                  intro wy0 hyy
                  clear c2 c3 c4 f0 f1 f2 f3
                  replace BX := BX.step hyy
                  replace hbz := hbz.trans (hyy.mono (by have := hbz.size; omega))
                  replace hb := hb.trans (hyy.mono hb.size)
                  clear hyy lz0
                  have cx := BX.cell
                  have fx := BX.free
                  have lx := BX.lt
                  obtain ⟨f0, f1, f2, f3⟩ := HE.out _ hb
                  have EX := HE.out _ (hb.setCell (p := ⟨gx, 1, none⟩) hgx1 (.int .i64 (min B (m.lo + R))))
                  obtain ⟨g0, g1, g2, g3⟩ := EX
                  go_wp2_with fail
                  skip
                  refine (q1 _).mono ?_
                  rintro e w' ⟨rfl, hw'⟩
                  replace hw' := hw'.symm
                  subst hw'
                  go_wp2_with fail
                  skip
                  clear cx fx lx f0 f1 f2 f3 g0 g1 g2 g3
                  replace BX := BX.put 1 (.int .i64 (min B (m.lo + R)))
                  replace hb := hb.setCell (p := ⟨gx, 1, none⟩) hgx1 (.int .i64 (min B (m.lo + R)))
                  replace hbz := hbz.setCell (p := ⟨gx, 1, none⟩) (Nat.le_refl _) (.int .i64 (min B (m.lo + R)))
                  skip
                  go_roundw
                  case rel => exact ⟨s + 1, hst, by simp, hb, hbz, by rw [HLO.out, HHI.out]; exact BX⟩
                  case measure => simp [intOf]; omega
                | true =>
                  have HU := Lib.hid hu
                  have HV := Lib.hid hv
                  have q1 := fun w => rin_any s q hq8 (by omega) w
                  have q2 := fun w => rin_any s p hp8 (by omega) w
                  rw [hu] at q1
                  rw [hv] at q2
                  clear hu hv
                  rw [if_neg (by simp [HU.out, HV.out])] at hlo hhi
                  have HLO := Lib.hid hlo
                  have HHI := Lib.hid hhi
                  clear hlo hhi
                  obtain ⟨f0, f1, f2, f3⟩ := HE.out _ hb
                  go_wp2_with fail
                  skip
                  refine (q1 _).mono ?_
                  rintro e w' ⟨rfl, hw'⟩
                  replace hw' := hw'.symm
                  subst hw'
                  go_wp2_with fail
                  skip
                  refine (q2 _).mono ?_
                  rintro e w' ⟨rfl, hw'⟩
                  replace hw' := hw'.symm
                  subst hw'
                  go_wp2_with fail
                  skip
                  refine (q1 _).mono ?_
                  rintro e w' ⟨rfl, hw'⟩
                  replace hw' := hw'.symm
                  subst hw'
                  go_wp2_with fail
                  skip
                  go_roundw
                  case rel => exact ⟨s + 1, hst, by simp, hb, hbz, by rw [HLO.out, HHI.out]; exact BX⟩
                  case measure => simp [intOf]; omega
            · obtain rfl : M = s := by omega
              generalize hAe : fL M = A at *
              generalize hBe : fH M = B at *
              have HA := Lib.hid hAe
              have HBe := Lib.hid hBe
              clear hAe hBe
              have cx := BX.cell
              have lx := BX.lt
              have own3 := ownsRow_step own (by rw [hgx]; exact hbz)
              have hr0 : ∀ jj, Value.ownBlock u12 = some jj → w3.heap.size ≤ jj := fun jj hj => by
                rcases ownsRow_open own with ⟨rfl, _⟩ | ⟨gg, cc, uu, rfl, hgg, _⟩
                · cases hj
                · have hj' := Option.some.inj hj; dsimp only at hj'; omega
              go_wp2_with (at_builtin; refine wpList_append_any _ rfl _ _ _ rfl w3.heap.size 41 ti _ 2 16 Try.underlying22 hi hz hsi hby rfl (by omega) _ k _ rfl (ownsRow_step own3 (Below.alloc (Below.refl _ _) (Nat.le_refl _) (.cells #[.int .i64 A, .int .i64 B] 41))) _ 1 (encP ⟨A, B⟩) rfl (Src.of_blk (Blk.new _ 41 #[.int .i64 A, .int .i64 B]) 1) rfl (fun u hu => oneP [⟨A, B⟩] u (by simpa [rowOf] using hu)) (by simp [maxLen]; omega) (by omega) (by simp; omega) ?_; intro v5 w5 own5 hg5 hat5)
              have hb5 : Below w3.heap.size w3 w5 := Below.grown (hb.alloc hxs (.cells #[.int .i64 A, .int .i64 B] 41)) hg5 (by simp; omega) hr0
              go_roundw
              case rel => exact ⟨k + 1, hlt, by simp, hb5, by rw [HTO.out, rowOf_append, HGA.out]; simpa [rowOf] using own5⟩
              case measure => simp [intOf]; omega
        · obtain rfl : k = l.length := by omega
          rw [List.take_length] at own
          have hlm : (l.map (tgAt L M)).length = l.length := by simp
          have own' : wr.ownsRow w3.heap.size 41 2 u12 (l.map (tgAt L M)).length ((l.map (tgAt L M)).flatMap encP) := by rw [hlm]; exact own
          have R0 := RowIn.of_own encP_len own'
          clear own own' hlm
          go_wp2_with fail
          go_ret2
          exact ⟨_, rfl, R0, hb3.trans (hb.mono hsz3)⟩
  · have hT := tightE_chk h0
    have hV : tightV n o l c = [] := by unfold tightV; rw [if_neg (by rw [hT]; exact h0)]
    have h0' : (bchkA n o l c != 0) = true := by simpa using h0
    rw [hT, hV]
    clear hT hV h0
    generalize bchkA n o l c = E at *
    go_enter Try.func23, Try.ntmps23
    go_wp2_with fail
    refine (hck _ ho hl hc).mono ?_
    rintro e w1 ⟨rfl, hb1⟩
    go_wp2_with fail
    go_ret2
    exact ⟨_, rfl, RowIn.nil _ _ _, hb1⟩

end Go.Proofs.Ythaoclocachbaaa
