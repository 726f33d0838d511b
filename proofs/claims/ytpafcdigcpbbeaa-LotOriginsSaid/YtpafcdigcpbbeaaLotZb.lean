/- The walks of LotChecks, LotLefts, LotOrigins. -/
import Derived.Test.YtpafcdigcpbbeaaLotZa
namespace Go.Proofs.Ytpafcdigcpbbeaa
set_option linter.unusedVariables false
set_option linter.unusedSimpArgs false
open Go.RowKit

set_option maxRecDepth 100000 in
set_option maxHeartbeats 4000000 in
theorem law_checks {w : World} {v : Value} {L : List Lv} (h : LotsIn w v L) : Calls Try.prog 3 #[v] w fun e w' => e = .returned (.bool true) ∧ Below w.heap.size w w' := by
  have ha := awake_any
  have hl := large_any h
  have h1 := fun w h => lcheck_any (w := w) (v := v) (L := L) h
  have h2 := fun w h => rlcheck_any (w := w) (v := v) (L := L) h
  generalize chkL L = E at *
  generalize largeB L = B at *
  cases B with
  | true =>
    clear h1 h2
    go_enter Try.func3, Try.ntmps3
    go_wp2_with fail
    refine hl.mono ?_
    rintro e w1 ⟨rfl, hb1⟩
    go_wp2_with fail
    refine (ha _).mono ?_
    rintro e w2 ⟨rfl, hb2⟩
    go_wp2_with fail
    go_ret
    exact ⟨by first | rfl | simp, hb1.trans (hb2.mono hb1.size)⟩
  | false =>
    go_enter Try.func3, Try.ntmps3
    go_wp2_with fail
    refine hl.mono ?_
    rintro e w1 ⟨rfl, hb1⟩
    have h3 := h1 _ (h.step hb1)
    clear h1
    go_wp2_with fail
    refine h3.mono ?_
    rintro e w2 ⟨rfl, hb2⟩
    have hb := hb1.trans (hb2.mono hb1.size)
    have h4 := h2 _ (h.step hb)
    clear h2 h3 hb1 hb2
    go_wp2_with fail
    refine h4.mono ?_
    rintro e w3 ⟨rfl, hb3⟩
    replace hb := hb.trans (hb3.mono hb.size)
    have hee : (E == E) = true := by simp
    clear h4 hb3
    go_wp2_with fail
    refine (ha _).mono ?_
    rintro e w4 ⟨rfl, hb4⟩
    go_wp2_with fail
    go_ret
    exact ⟨by first | rfl | simp, hb.trans (hb4.mono hb.size)⟩

set_option maxRecDepth 100000 in
set_option maxHeartbeats 4000000 in
theorem law_lefts {w : World} {v : Value} {L : List Lv} (h : LotsIn w v L) (id m : Int) (hid : (Lit.int .i64 id).wf = true) : Calls Try.prog 5 #[v, .int .i64 id, .int .i64 m] w fun e w' => e = .returned (.bool true) ∧ Below w.heap.size w w' := by
  have ha := awake_any
  have hl := large_any h
  have h1 := fun w h => left_any (w := w) (v := v) (L := L) h id hid
  have h2 := fun w h => rleftF_any (w := w) (v := v) (L := L) h id
  have h3 := fun w h => lstock_any (w := w) (v := v) (L := L) h m
  have h4 := fun w h => rlstock_any (w := w) (v := v) (L := L) h m
  generalize lefE L id = E at *
  generalize lefS L id = S at *
  generalize lstE L m = E' at *
  generalize lstS L m = S' at *
  generalize largeB L = B at *
  cases B with
  | true =>
    clear h1 h2 h3 h4
    go_enter Try.func5, Try.ntmps5
    go_wp2_with fail
    refine hl.mono ?_
    rintro e w1 ⟨rfl, hb1⟩
    go_wp2_with fail
    refine (ha _).mono ?_
    rintro e w2 ⟨rfl, hb2⟩
    go_wp2_with fail
    go_ret
    exact ⟨by first | rfl | simp, hb1.trans (hb2.mono hb1.size)⟩
  | false =>
    obtain ⟨a, b⟩ := S
    obtain ⟨a', b'⟩ := S'
    dsimp only at *
    go_enter Try.func5, Try.ntmps5
    go_wp2_with fail
    refine hl.mono ?_
    rintro e w1 ⟨rfl, hb⟩
    have g1 := h1 _ (h.step hb)
    clear h1
    go_wp2_with fail
    refine g1.mono ?_
    rintro e w2 ⟨rfl, hb2⟩
    have B0 := Blk.new w2 29 #[.int .i64 a, .int .i64 b]
    replace hb := (hb.trans (hb2.mono hb.size))
    replace hb := hb.alloc hb.size (.cells #[.int .i64 a, .int .i64 b] 29)
    have g2 := h2 _ (h.step hb)
    clear h2 g1 hb2
    go_wp2_with fail
    refine g2.mono ?_
    rintro e w3 ⟨rfl, hb3⟩
    replace B0 := (B0.step hb3).alloc (.cells #[.int .i64 a, .int .i64 b] 29)
    have B1 := Blk.new w3 29 #[.int .i64 a, .int .i64 b]
    replace hb := (hb.trans (hb3.mono hb.size))
    replace hb := hb.alloc hb.size (.cells #[.int .i64 a, .int .i64 b] 29)
    have g3 := h3 _ (h.step hb)
    clear h3 g2 hb3
    go_wp2_with fail
    refine g3.mono ?_
    rintro e w4 ⟨rfl, hb4⟩
    replace B0 := (B0.step hb4).alloc (.cells #[.int .i64 a', .int .i64 b'] 29)
    replace B1 := (B1.step hb4).alloc (.cells #[.int .i64 a', .int .i64 b'] 29)
    have B2 := Blk.new w4 29 #[.int .i64 a', .int .i64 b']
    replace hb := (hb.trans (hb4.mono hb.size))
    replace hb := hb.alloc hb.size (.cells #[.int .i64 a', .int .i64 b'] 29)
    have g4 := h4 _ (h.step hb)
    clear h4 g3 hb4
    go_wp2_with fail
    refine g4.mono ?_
    rintro e w5 ⟨rfl, hb5⟩
    replace B0 := (B0.step hb5)
    replace B1 := (B1.step hb5)
    replace B2 := (B2.step hb5)
    replace hb := (hb.trans (hb5.mono hb.size))
    have c0 := B0.cell
    have l0 := B0.lt
    have c1 := B1.cell
    have l1 := B1.lt
    have c2 := B2.cell
    have l2 := B2.lt
    have e0 : (a == a) = true := by simp
    have e1 : (b == b) = true := by simp
    have e2 : (a' == a') = true := by simp
    have e3 : (b' == b') = true := by simp
    have e4 : (E == E) = true := by simp
    have e5 : (E' == E') = true := by simp
    clear g4 hb5
    go_wp2_with fail
    refine (ha _).mono ?_
    rintro e w6 ⟨rfl, hb6⟩
    replace hb := hb.alloc hb.size (.cells #[.int .i64 a', .int .i64 b'] 29)
    go_wp2_with fail
    go_ret
    exact ⟨by first | rfl | simp, hb.trans (hb6.mono hb.size)⟩

set_option maxRecDepth 100000 in
set_option maxHeartbeats 4000000 in
theorem law_origins {w : World} {v : Value} {L : List Lv} (h : LotsIn w v L) (id : Int) (hid : (Lit.int .i64 id).wf = true) : Calls Try.prog 6 #[v, .int .i64 id] w fun e w' => e = .returned (.bool true) ∧ Below w.heap.size w w' := by
  have ha := awake_any
  have hl := large_any h
  have h1 := fun w h => origin_any (w := w) (v := v) (L := L) h id hid
  have h2 := fun w h => rorigin_any (w := w) (v := v) (L := L) h id
  have h3 := fun w h => uses_any (w := w) (v := v) (L := L) h id hid
  have h4 := fun w h => ruses_any (w := w) (v := v) (L := L) h id
  generalize lefE L id = E at *
  generalize orgV L id = O at *
  generalize useV L id = U at *
  generalize largeB L = B at *
  cases B with
  | true =>
    clear h1 h2 h3 h4
    go_enter Try.func6, Try.ntmps6
    go_wp2_with fail
    refine hl.mono ?_
    rintro e w1 ⟨rfl, hb1⟩
    go_wp2_with fail
    refine (ha _).mono ?_
    rintro e w2 ⟨rfl, hb2⟩
    go_wp2_with fail
    go_ret
    exact ⟨by first | rfl | simp, hb1.trans (hb2.mono hb1.size)⟩
  | false =>
    go_enter Try.func6, Try.ntmps6
    go_wp2_with fail
    refine hl.mono ?_
    rintro e w1 ⟨rfl, hb⟩
    have g1 := h1 _ (h.step hb)
    clear h1
    go_wp2_with fail
    refine g1.mono ?_
    rintro e w2 ⟨va, rfl, RA, hb2⟩
    replace hb := (hb.trans (hb2.mono hb.size))
    have g2 := h2 _ (h.step hb)
    clear h2 g1 hb2
    go_wp2_with fail
    refine g2.mono ?_
    rintro e w3 ⟨vb, rfl, RB, hb3⟩
    replace RA := RA.step hb3
    replace hb := (hb.trans (hb3.mono hb.size))
    have g3 := h3 _ (h.step hb)
    clear h3 g2 hb3
    go_wp2_with fail
    refine g3.mono ?_
    rintro e w4 ⟨vc, rfl, RC, hb4⟩
    replace RA := RA.step hb4
    replace RB := RB.step hb4
    replace hb := (hb.trans (hb4.mono hb.size))
    have g4 := h4 _ (h.step hb)
    clear h4 g3 hb4
    go_wp2_with fail
    refine g4.mono ?_
    rintro e w5 ⟨vd, rfl, RD, hb5⟩
    replace RA := RA.step hb5
    replace RB := RB.step hb5
    replace RC := RC.step hb5
    replace hb := (hb.trans (hb5.mono hb.size))
    have g5 := rints_any RA RB
    rw [decide_eq_true rfl] at g5
    have e4 : (E == E) = true := by simp
    clear g4 hb5 RA RB
    go_wp2_with fail
    refine g5.mono ?_
    rintro e w6 ⟨rfl, hb6⟩
    replace RC := RC.step hb6
    replace RD := RD.step hb6
    replace hb := (hb.trans (hb6.mono hb.size))
    have g6 := rints_any RC RD
    rw [decide_eq_true rfl] at g6
    clear g5 hb6 RC RD
    go_wp2_with fail
    refine g6.mono ?_
    rintro e w7 ⟨rfl, hb7⟩
    replace hb := (hb.trans (hb7.mono hb.size))
    clear g6 hb7
    go_wp2_with fail
    refine (ha _).mono ?_
    rintro e w8 ⟨rfl, hb8⟩
    go_wp2_with fail
    go_ret
    exact ⟨by first | rfl | simp, hb.trans (hb8.mono hb.size)⟩

end Go.Proofs.Ytpafcdigcpbbeaa
