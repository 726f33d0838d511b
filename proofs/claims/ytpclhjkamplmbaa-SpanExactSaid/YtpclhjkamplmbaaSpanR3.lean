/- SpanExact: every member of a sum or difference is one of members, for every input. -/
import Derived.Test.YtpclhjkamplmbaaSpanS
import Derived.Deep.DeepCutAuto
namespace Go.Proofs.Ytpclhjkamplmbaa
set_option linter.unusedVariables false
set_option linter.unusedSimpArgs false
open Go.ChangeShapes Go.WideShapes Go.ChangeAt Go.RowKit


set_option maxHeartbeats 8000000 in
theorem law8 (a b : Sp) (k1 : IntKind.i64.has b.lo) (k2 : IntKind.i64.has b.hi) (z : Int) (w : World) : Calls Try.prog 10 #[.agg #[.int .i64 (a).lo, .int .i64 (a).hi], .agg #[.int .i64 (b).lo, .int .i64 (b).hi], .int .i64 z] w fun e w' => e = .returned (.bool true) ∧ Below w.heap.size w w' := by
  have h1 := fun w => calls2 (add_any a b w) (add_same a b).1 (add_same a b).2
  have h2 := fun w => calls2 (sub_any a b w) (sub_same k1 k2).1 (sub_same k1 k2).2
  have g1 := fun w => has_any (raddS a b) z w
  have g2 := fun w => has_any (rsubS a b) z w
  have BA : Blk ((w.alloc (.cells #[.int .i64 a.lo, .int .i64 a.hi] 23)).alloc (.cells #[.int .i64 b.lo, .int .i64 b.hi] 23)) w.heap.size 23 #[.int .i64 a.lo, .int .i64 a.hi] := (Blk.new w 23 #[.int .i64 a.lo, .int .i64 a.hi]).alloc _
  have BB : Blk ((w.alloc (.cells #[.int .i64 a.lo, .int .i64 a.hi] 23)).alloc (.cells #[.int .i64 b.lo, .int .i64 b.hi] 23)) (w.heap.size + 1) 23 #[.int .i64 b.lo, .int .i64 b.hi] := by
    have := Blk.new (w.alloc (.cells #[.int .i64 a.lo, .int .i64 a.hi] 23)) 23 #[.int .i64 b.lo, .int .i64 b.hi]
    simpa using this
  have hb : Below w.heap.size w ((w.alloc (.cells #[.int .i64 a.lo, .int .i64 a.hi] 23)).alloc (.cells #[.int .i64 b.lo, .int .i64 b.hi] 23)) := by repeat (first | (with_reducible exact Below.refl _ _) | (with_reducible assumption) | (with_reducible refine Below.drew ?_) | ((with_reducible refine Below.alloc ?_ ?_ _); rotate_left; (first | (with_reducible exact Nat.zero_le _) | (with_reducible exact Nat.le_refl _) | omega | (dsimp only; omega) | (simp only [World.size_alloc, World.size_setCell, World.size_drew]; omega))) | ((with_reducible refine Below.setCell ?_ ?_ _); rotate_left; (first | (with_reducible exact Nat.zero_le _) | (with_reducible exact Nat.le_refl _) | omega | (dsimp only; omega) | (simp only [World.size_alloc, World.size_setCell, World.size_drew]; omega))))
  have x1 := @exact_add a b z
  have x2 := @exact_sub a b z
  generalize raddE a b = E1 at *
  generalize raddS a b = S1 at *
  generalize rsubE a b = E2 at *
  generalize rsubS a b = S2 at *
  generalize hasV S1 z = p at *
  generalize hasV S2 z = q at *
  have X1 := Lib.hid x1
  have X2 := Lib.hid x2
  clear x1 x2
  go_enter Try.func10, Try.ntmps10
  go_wp2_with fail
  refine (h1 _).mono ?_
  rintro e w1 ⟨rfl, hb1⟩
  replace BA := BA.step hb1
  replace BB := BB.step hb1
  replace hb := hb.trans (hb1.mono hb.size)
  have cBA := BA.cell
  have cBB := BB.cell
  have lBA := BA.lt
  have lBB := BB.lt
  go_upto_region 2 with fail
  clear cBA lBA cBB lBB
  have BC := Blk.new w1 23 #[.int .i64 S1.lo, .int .i64 S1.hi]
  replace BA := BA.alloc (.cells #[.int .i64 S1.lo, .int .i64 S1.hi] 23)
  replace BB := BB.alloc (.cells #[.int .i64 S1.lo, .int .i64 S1.hi] 23)
  replace hb := hb.alloc hb.size (.cells #[.int .i64 S1.lo, .int .i64 S1.hi] 23)
  go_cut [25] (fun s wx => s = .bool (decide (E1 = 0 ∧ p = true)) ∧ Below w.heap.size w wx ∧ Blk wx w.heap.size 23 #[.int .i64 a.lo, .int .i64 a.hi] ∧ Blk wx (w.heap.size + 1) 23 #[.int .i64 b.lo, .int .i64 b.hi])
  case first =>
    by_cases he : E1 = 0
    · have he2 : (E1 == 0) = true := by simpa using he
      have HE := Lib.hid he
      clear he
      have cBC := BC.cell
      have lBC := BC.lt
      go_wp2_with fail
      clear cBC lBC
      refine (g1 _).mono ?_
      rintro e wg ⟨rfl, hbg⟩
      cases p with
      | true =>
        go_wp2_with fail
        go_meet
        exact ⟨by rw [HE.out]; simp, hb.trans (hbg.mono hb.size), BA.step hbg, BB.step hbg⟩
      | false =>
        go_wp2_with fail
        go_meet
        exact ⟨by rw [HE.out]; simp, hb.trans (hbg.mono hb.size), BA.step hbg, BB.step hbg⟩
    · have he2 : (E1 == 0) = false := by simpa using he
      have HE := Lib.hid he
      clear he
      go_wp2_with fail
      go_meet
      exact ⟨by have := HE.out; simp [this], hb, BA, BB⟩
  case rest =>
    clear hb BA BB BC hb1
    obtain ⟨rfl, hb, BA, BB⟩ := hcut
    go_upto_if 25 with fail
    go_cut [] (fun wx => Below w.heap.size w wx ∧ Blk wx w.heap.size 23 #[.int .i64 a.lo, .int .i64 a.hi] ∧ Blk wx (w.heap.size + 1) 23 #[.int .i64 b.lo, .int .i64 b.hi])
    case first =>
      by_cases hc : E1 = 0 ∧ p = true
      · obtain ⟨v1, v2, z1, z2, m1, m2⟩ := X1.out hc.1 hc.2
        rw [decide_eq_true hc]
        clear hc
        obtain ⟨a1, a2, a3⟩ := sval_true v1
        obtain ⟨b1, b2, b3⟩ := sval_true v2
        clear v1 v2
        have r1 := fun w => has_any a (maxi a.lo (z - b.hi)) w
        have r2 := fun w => has_any b (z - maxi a.lo (z - b.hi)) w
        rw [m1] at r1
        rw [m2] at r2
        clear m1 m2
        rcases Int.lt_or_le a.lo (z - b.hi) with hm | hm
        · rw [maxi_pos (Int.le_of_lt hm)] at r1 r2
          have cBA := BA.cell
          have cBB := BB.cell
          have lBA := BA.lt
          have lBB := BB.lt
          go_wp2_with fail
          clear cBA lBA cBB lBB
          all_goals (
            refine (r1 _).mono ?_
            rintro e wg ⟨rfl, hbg⟩
            replace BA := BA.step hbg
            replace BB := BB.step hbg
            replace hb := hb.trans (hbg.mono hb.size)
            have cBB := BB.cell
            have lBB := BB.lt
            go_wp2_with fail
            clear cBB lBB
            refine (r2 _).mono ?_
            rintro e wh ⟨rfl, hbh⟩
            go_wp2_with fail
            go_meet
            exact ⟨hb.trans (hbh.mono hb.size), BA.step hbh, BB.step hbh⟩)
        · rw [maxi_ge hm] at r1 r2
          have cBA := BA.cell
          have cBB := BB.cell
          have lBA := BA.lt
          have lBB := BB.lt
          go_wp2_with fail
          clear cBA lBA cBB lBB
          all_goals (
            refine (r1 _).mono ?_
            rintro e wg ⟨rfl, hbg⟩
            replace BA := BA.step hbg
            replace BB := BB.step hbg
            replace hb := hb.trans (hbg.mono hb.size)
            have cBB := BB.cell
            have lBB := BB.lt
            go_wp2_with fail
            clear cBB lBB
            refine (r2 _).mono ?_
            rintro e wh ⟨rfl, hbh⟩
            go_wp2_with fail
            go_meet
            exact ⟨hb.trans (hbh.mono hb.size), BA.step hbh, BB.step hbh⟩)
      · rw [decide_eq_false hc]
        clear hc
        go_wp2_with fail
        go_meet
        exact ⟨hb, BA, BB⟩
    case rest =>
      clear hb BA BB
      obtain ⟨hb, BA, BB⟩ := hcut
      have cBA := BA.cell
      have cBB := BB.cell
      have lBA := BA.lt
      have lBB := BB.lt
      go_wp2_with fail
      clear cBA lBA cBB lBB
      refine (h2 _).mono ?_
      rintro e w2 ⟨rfl, hb2⟩
      replace BA := BA.step hb2
      replace BB := BB.step hb2
      replace hb := hb.trans (hb2.mono hb.size)
      have cBA := BA.cell
      have cBB := BB.cell
      have lBA := BA.lt
      have lBB := BB.lt
      go_upto_region 7 with fail
      clear cBA lBA cBB lBB
      have BC := Blk.new w2 23 #[.int .i64 S2.lo, .int .i64 S2.hi]
      replace BA := BA.alloc (.cells #[.int .i64 S2.lo, .int .i64 S2.hi] 23)
      replace BB := BB.alloc (.cells #[.int .i64 S2.lo, .int .i64 S2.hi] 23)
      replace hb := hb.alloc hb.size (.cells #[.int .i64 S2.lo, .int .i64 S2.hi] 23)
      go_cut [57] (fun s wx => s = .bool (decide (E2 = 0 ∧ q = true)) ∧ Below w.heap.size w wx ∧ Blk wx w.heap.size 23 #[.int .i64 a.lo, .int .i64 a.hi] ∧ Blk wx (w.heap.size + 1) 23 #[.int .i64 b.lo, .int .i64 b.hi])
      case first =>
        by_cases he : E2 = 0
        · have he2 : (E2 == 0) = true := by simpa using he
          have HE := Lib.hid he
          clear he
          have cBC := BC.cell
          have lBC := BC.lt
          go_wp2_with fail
          clear cBC lBC
          refine (g2 _).mono ?_
          rintro e wg ⟨rfl, hbg⟩
          cases q with
          | true =>
            go_wp2_with fail
            go_meet
            exact ⟨by rw [HE.out]; simp, hb.trans (hbg.mono hb.size), BA.step hbg, BB.step hbg⟩
          | false =>
            go_wp2_with fail
            go_meet
            exact ⟨by rw [HE.out]; simp, hb.trans (hbg.mono hb.size), BA.step hbg, BB.step hbg⟩
        · have he2 : (E2 == 0) = false := by simpa using he
          have HE := Lib.hid he
          clear he
          go_wp2_with fail
          go_meet
          exact ⟨by have := HE.out; simp [this], hb, BA, BB⟩
      case rest =>
        clear hb BA BB BC hb2
        obtain ⟨rfl, hb, BA, BB⟩ := hcut
        go_upto_if 57 with fail
        go_cut [] (fun wx => Below w.heap.size w wx ∧ Blk wx w.heap.size 23 #[.int .i64 a.lo, .int .i64 a.hi] ∧ Blk wx (w.heap.size + 1) 23 #[.int .i64 b.lo, .int .i64 b.hi])
        case first =>
          by_cases hc : E2 = 0 ∧ q = true
          · obtain ⟨v1, v2, z1, z2, m1, m2⟩ := X2.out hc.1 hc.2
            rw [decide_eq_true hc]
            clear hc
            obtain ⟨a1, a2, a3⟩ := sval_true v1
            obtain ⟨b1, b2, b3⟩ := sval_true v2
            clear v1 v2
            have r1 := fun w => has_any a (maxi a.lo (z + b.lo)) w
            have r2 := fun w => has_any b (maxi a.lo (z + b.lo) - z) w
            rw [m1] at r1
            rw [m2] at r2
            clear m1 m2
            rcases Int.lt_or_le a.lo (z + b.lo) with hm | hm
            · rw [maxi_pos (Int.le_of_lt hm)] at r1 r2
              have cBA := BA.cell
              have cBB := BB.cell
              have lBA := BA.lt
              have lBB := BB.lt
              go_wp2_with fail
              clear cBA lBA cBB lBB
              all_goals (
                refine (r1 _).mono ?_
                rintro e wg ⟨rfl, hbg⟩
                replace BA := BA.step hbg
                replace BB := BB.step hbg
                replace hb := hb.trans (hbg.mono hb.size)
                have cBB := BB.cell
                have lBB := BB.lt
                go_wp2_with fail
                clear cBB lBB
                refine (r2 _).mono ?_
                rintro e wh ⟨rfl, hbh⟩
                go_wp2_with fail
                go_meet
                exact ⟨hb.trans (hbh.mono hb.size), BA.step hbh, BB.step hbh⟩)
            · rw [maxi_ge hm] at r1 r2
              have cBA := BA.cell
              have cBB := BB.cell
              have lBA := BA.lt
              have lBB := BB.lt
              go_wp2_with fail
              clear cBA lBA cBB lBB
              all_goals (
                refine (r1 _).mono ?_
                rintro e wg ⟨rfl, hbg⟩
                replace BA := BA.step hbg
                replace BB := BB.step hbg
                replace hb := hb.trans (hbg.mono hb.size)
                have cBB := BB.cell
                have lBB := BB.lt
                go_wp2_with fail
                clear cBB lBB
                refine (r2 _).mono ?_
                rintro e wh ⟨rfl, hbh⟩
                go_wp2_with fail
                go_meet
                exact ⟨hb.trans (hbh.mono hb.size), BA.step hbh, BB.step hbh⟩)
          · rw [decide_eq_false hc]
            clear hc
            go_wp2_with fail
            go_meet
            exact ⟨hb, BA, BB⟩
        case rest =>
          clear hb BA BB
          obtain ⟨hb, BA, BB⟩ := hcut
          go_wp2_with fail
          refine (awake_any _).mono ?_
          rintro e wa ⟨rfl, hba⟩
          go_wp2_with fail
          go_ret
          exact ⟨rfl, hb.trans (hba.mono hb.size)⟩
set_option maxRecDepth 100000 in
theorem spanExact_lifted (os : Os) (started : os.Started) (H : Type) (enc : TypeId × Value → H) :
    ReturnsInHanded {} Try.checked os 10 .any (Rows.spanExactSpec.pre6 enc Try.prog Try.f10 Rows.spanExactRow.domain false) (Rows.spanExactSpec.post enc Try.prog Try.f10 false true false false) := by
  refine law_of_walk (C := Try.checked) (by kernel_rfl) started (by kernel_rfl) Try.func10
    (ChangeSpec.witness6 (enc := enc) (C := Try.checked) false ⟨#[], #[.agg #[.int .i64 0, .int .i64 0], .agg #[.int .i64 0, .int .i64 0], .int .i64 0], []⟩ 8 (by kernel_rfl) (by kernel_rfl) (by kernel_rfl) (by kernel_rfl))
    (by kernel_rfl) ?_ rfl ?_ rfl Try.underlying4 ?_
  · rw [Try.params10]
    intro t ht
    simp at ht
    rcases ht with rfl | rfl
    · exact ⟨by kernel_rfl, of_decide_eq_true (by kernel_rfl)⟩
    · exact ⟨by kernel_rfl, of_decide_eq_true (by kernel_rfl)⟩
  · rw [Try.params10]
    intro ds hds
    match ds, hds with
    | [d0, d1, d2], _ => rfl
  · intro W base args ds ps hval hA hlt
    rw [Try.params10] at hA hval
    obtain ⟨v0, vs0, d0, ds0, p0, q0, hargs, rfl, rfl, h0, r0⟩ := trodAll_cons hA
    obtain ⟨v1, vs1, d1, ds1, p1, q1, rfl, rfl, rfl, h1, r1⟩ := trodAll_cons r0
    obtain ⟨v2, vs2, d2, ds2, p2, q2, rfl, rfl, rfl, h2, r2⟩ := trodAll_cons r1
    obtain ⟨rfl, rfl, rfl⟩ := trodAll_nil r2
    obtain rfl : args = #[v0, v1, v2] := by cases args; simp_all
    obtain ⟨zs0, rfl, hz0, hh0⟩ := okWide_cells (k := .i64) (hval 0 23 v0 rfl rfl) (.inl ⟨_, Try.underlying23⟩) (show Try.prog.cellTypes Try.prog.depth 23 = some [3, 3] by kernel_rfl) (by intro u hu; simp at hu; subst hu; exact Try.underlying3)
    replace hz0 : zs0.length = 2 := hz0.trans (by kernel_rfl)
    obtain ⟨a0, a1, rfl⟩ := len2 hz0
    obtain ⟨zs1, rfl, hz1, hh1⟩ := okWide_cells (k := .i64) (hval 1 23 v1 rfl rfl) (.inl ⟨_, Try.underlying23⟩) (show Try.prog.cellTypes Try.prog.depth 23 = some [3, 3] by kernel_rfl) (by intro u hu; simp at hu; subst hu; exact Try.underlying3)
    replace hz1 : zs1.length = 2 := hz1.trans (by kernel_rfl)
    obtain ⟨b0, b1, rfl⟩ := len2 hz1
    obtain ⟨z, rfl, hz⟩ := okWide_int1 (hval 2 3 v2 rfl rfl) Try.underlying3
    exact law8 ⟨a0, a1⟩ ⟨b0, b1⟩ (hh1 _ (by simp)) (hh1 _ (by simp)) z W

theorem spanExact_holds : Rows.SpanExactSaid :=
  OpenClaim.holds_of_wide 10 Try.f10 rfl rfl rfl rfl rfl rfl rfl ⟨rfl, rfl, rfl, rfl, rfl⟩ rfl rfl rfl rfl rfl (by kernel_rfl) Try.func10 (by kernel_rfl)
    (of_decide_eq_true (by kernel_rfl)) (by unfold Func.isWrapper; first | (rw [if_pos (by decide +kernel)]; kernel_rfl) | (rw [if_neg (by decide +kernel)]; exact ⟨rfl, rfl⟩))
    (fun os started H enc _ => spanExact_lifted os started H enc)
#print axioms spanExact_holds

end Go.Proofs.Ytpclhjkamplmbaa
