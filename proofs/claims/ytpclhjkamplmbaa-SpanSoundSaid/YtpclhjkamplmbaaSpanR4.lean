/- SpanSound: sums, differences and parts of members are members, for every input. -/
import Derived.Test.YtpclhjkamplmbaaSpanS
import Derived.Deep.DeepCutAuto
import Derived.BigQuiet
import Derived.StillTail
namespace Go.Proofs.Ytpclhjkamplmbaa
set_option linter.unusedVariables false
set_option linter.unusedSimpArgs false
open Go.ChangeShapes Go.WideShapes Go.ChangeAt Go.RowKit


set_option maxRecDepth 100000 in
set_option maxHeartbeats 8000000 in
theorem law7 (a b : Sp) (k1 : IntKind.i64.has b.lo) (k2 : IntKind.i64.has b.hi) (x y n d : Int) (w : World) : Calls Try.prog 9 #[.agg #[.int .i64 (a).lo, .int .i64 (a).hi], .agg #[.int .i64 (b).lo, .int .i64 (b).hi], .agg #[.int .i64 x, .int .i64 y, .int .i64 n, .int .i64 d]] w fun e w' => e = .returned (.bool true) ∧ Below w.heap.size w w' := by
  have h1 := fun w => calls2 (add_any a b w) (add_same a b).1 (add_same a b).2
  have h2 := fun w => calls2 (sub_any a b w) (sub_same k1 k2).1 (sub_same k1 k2).2
  have h3 := fun w => part_any a n d w
  have ga := fun w => has_any a x w
  have gb := fun w => has_any b y w
  have g1 := fun w => has_any (raddS a b) (x + y) w
  have g2 := fun w => has_any (rsubS a b) (x - y) w
  have BA : Blk (((w.alloc (.cells #[.int .i64 a.lo, .int .i64 a.hi] 23)).alloc (.cells #[.int .i64 b.lo, .int .i64 b.hi] 23)).alloc (.cells #[.int .i64 x, .int .i64 y, .int .i64 n, .int .i64 d] 39)) w.heap.size 23 #[.int .i64 a.lo, .int .i64 a.hi] := ((Blk.new w 23 #[.int .i64 a.lo, .int .i64 a.hi]).alloc _).alloc _
  have BB : Blk (((w.alloc (.cells #[.int .i64 a.lo, .int .i64 a.hi] 23)).alloc (.cells #[.int .i64 b.lo, .int .i64 b.hi] 23)).alloc (.cells #[.int .i64 x, .int .i64 y, .int .i64 n, .int .i64 d] 39)) (w.heap.size + 1) 23 #[.int .i64 b.lo, .int .i64 b.hi] := by
    have := (Blk.new (w.alloc (.cells #[.int .i64 a.lo, .int .i64 a.hi] 23)) 23 #[.int .i64 b.lo, .int .i64 b.hi]).alloc (.cells #[.int .i64 x, .int .i64 y, .int .i64 n, .int .i64 d] 39)
    simpa using this
  have BN : Blk (((w.alloc (.cells #[.int .i64 a.lo, .int .i64 a.hi] 23)).alloc (.cells #[.int .i64 b.lo, .int .i64 b.hi] 23)).alloc (.cells #[.int .i64 x, .int .i64 y, .int .i64 n, .int .i64 d] 39)) (w.heap.size + 2) 39 #[.int .i64 x, .int .i64 y, .int .i64 n, .int .i64 d] := by
    have := Blk.new ((w.alloc (.cells #[.int .i64 a.lo, .int .i64 a.hi] 23)).alloc (.cells #[.int .i64 b.lo, .int .i64 b.hi] 23)) 39 #[.int .i64 x, .int .i64 y, .int .i64 n, .int .i64 d]
    simpa using this
  have hb : Below w.heap.size w (((w.alloc (.cells #[.int .i64 a.lo, .int .i64 a.hi] 23)).alloc (.cells #[.int .i64 b.lo, .int .i64 b.hi] 23)).alloc (.cells #[.int .i64 x, .int .i64 y, .int .i64 n, .int .i64 d] 39)) := by repeat (first | (with_reducible exact Below.refl _ _) | (with_reducible assumption) | (with_reducible refine Below.drew ?_) | ((with_reducible refine Below.alloc ?_ ?_ _); rotate_left; (first | (with_reducible exact Nat.zero_le _) | (with_reducible exact Nat.le_refl _) | omega | (dsimp only; omega) | (simp only [World.size_alloc, World.size_setCell, World.size_drew]; omega))) | ((with_reducible refine Below.setCell ?_ ?_ _); rotate_left; (first | (with_reducible exact Nat.zero_le _) | (with_reducible exact Nat.le_refl _) | omega | (dsimp only; omega) | (simp only [World.size_alloc, World.size_setCell, World.size_drew]; omega))))
  have x1 := @sound_add a b x y
  have x3 := @sound_part a x n d
  have v1 := fun h => (hasV_iff (s := a) (x := x)).1 h
  have v2 := fun h => (hasV_iff (s := b) (x := y)).1 h
  have pe : partE a n d = if pOK a n d then 0 else 1 := rfl
  have gd := fun w h1 h2 h3 h4 h5 h6 => down_any x n d w h1 h2 h3 h4 h5 h6
  have gu := fun w h1 h2 h3 h4 h5 h6 => up_any x n d w h1 h2 h3 h4 h5 h6
  have g3 := fun w => has_any (partS a n d) (dn x n d) w
  have g4 := fun w => has_any (partS a n d) (up x n d) w
  generalize raddE a b = E1 at *
  generalize raddS a b = S1 at *
  generalize rsubE a b = E2 at *
  generalize rsubS a b = S2 at *
  generalize partE a n d = E3 at *
  generalize partS a n d = S3 at *
  generalize hasV a x = p at *
  generalize hasV b y = q at *
  generalize hasV S1 (x + y) = r at *
  generalize hasV S2 (x - y) = t at *
  generalize hasV S3 (dn x n d) = u3 at *
  generalize hasV S3 (up x n d) = u4 at *
  generalize dn x n d = D at *
  generalize up x n d = U at *
  have Hx1 := Lib.hid x1
  have Hx3 := Lib.hid x3
  have Hv1 := Lib.hid v1
  have Hv2 := Lib.hid v2
  have Hpe := Lib.hid pe
  have Hgd := Lib.hid gd
  have Hgu := Lib.hid gu
  clear x1 x3 v1 v2 pe gd gu
  go_enter Try.func9, Try.ntmps9
  go_wp2_with fail
  generalize hW : (((w.alloc (.cells #[.int .i64 a.lo, .int .i64 a.hi] 23)).alloc (.cells #[.int .i64 b.lo, .int .i64 b.hi] 23)).alloc (.cells #[.int .i64 x, .int .i64 y, .int .i64 n, .int .i64 d] 39)) = W at *
  clear hW
  have c2 : ∀ g : BW W, ∀ j, g.w.cell? ⟨w.heap.size + 2, j, none⟩ = #[.int .i64 x, .int .i64 y, .int .i64 n, .int .i64 d][j]? := fun g => (BN.bw g).cell
  refine wp_region_calm (by kernel_rfl) (by kernel_rfl) ?_
  repeat (go_big_quiet_step (fail))
  refine wpQuiet_nil ?_
  intro w0 hb0
  clear c2
  replace BA := BA.step hb0
  replace BB := BB.step hb0
  replace BN := BN.step hb0
  replace hb := hb.trans (hb0.mono hb.size)
  have cBA := BA.cell
  have cBB := BB.cell
  have cBN := BN.cell
  have lBA := BA.lt
  have lBB := BB.lt
  have lBN := BN.lt
  go_wp2_with fail
  clear cBA lBA cBB lBB cBN lBN
  refine (ga _).mono ?_
  rintro e w1 ⟨rfl, hb1⟩
  replace BA := BA.step hb1
  replace BB := BB.step hb1
  replace BN := BN.step hb1
  replace hb := hb.trans (hb1.mono hb.size)
  cases p with
  | false =>
    have cBA := BA.cell
    have cBB := BB.cell
    have cBN := BN.cell
    have lBA := BA.lt
    have lBB := BB.lt
    have lBN := BN.lt
    go_wp2_with fail
    clear cBA lBA cBB lBB cBN lBN
    refine (awake_any _).mono ?_
    rintro e wa ⟨rfl, hba⟩
    go_wp2_with fail
    go_ret
    exact ⟨by simp, hb.trans (hba.mono hb.size)⟩
  | true =>
    have cBA := BA.cell
    have cBB := BB.cell
    have cBN := BN.cell
    have lBA := BA.lt
    have lBB := BB.lt
    have lBN := BN.lt
    go_wp2_with fail
    clear cBA lBA cBB lBB cBN lBN
    refine (gb _).mono ?_
    rintro e w2 ⟨rfl, hb2⟩
    replace BA := BA.step hb2
    replace BB := BB.step hb2
    replace BN := BN.step hb2
    replace hb := hb.trans (hb2.mono hb.size)
    cases q with
    | false =>
      have cBA := BA.cell
      have cBB := BB.cell
      have cBN := BN.cell
      have lBA := BA.lt
      have lBB := BB.lt
      have lBN := BN.lt
      go_wp2_with fail
      clear cBA lBA cBB lBB cBN lBN
      refine (awake_any _).mono ?_
      rintro e wa ⟨rfl, hba⟩
      go_wp2_with fail
      go_ret
      exact ⟨by simp, hb.trans (hba.mono hb.size)⟩
    | true =>
      obtain ⟨x1, x2⟩ := Hx1.out (by simp) (by simp)
      obtain ⟨va, v11, v12⟩ := Hv1.out (by simp)
      obtain ⟨vb, v21, v22⟩ := Hv2.out (by simp)
      obtain ⟨a1, a2, a3⟩ := sval_true va
      obtain ⟨b1, b2, b3⟩ := sval_true vb
      clear vb
      have cBA := BA.cell
      have cBB := BB.cell
      have cBN := BN.cell
      have lBA := BA.lt
      have lBB := BB.lt
      have lBN := BN.lt
      go_wp2_with fail
      clear cBA lBA cBB lBB cBN lBN
      refine (h1 _).mono ?_
      rintro e w3 ⟨rfl, hb3⟩
      replace BA := BA.step hb3
      replace BB := BB.step hb3
      replace BN := BN.step hb3
      replace hb := hb.trans (hb3.mono hb.size)
      have cBA := BA.cell
      have cBB := BB.cell
      have cBN := BN.cell
      have lBA := BA.lt
      have lBB := BB.lt
      have lBN := BN.lt
      go_wp2_with fail
      clear cBA lBA cBB lBB cBN lBN
      have C1 := Blk.new w3 23 #[.int .i64 S1.lo, .int .i64 S1.hi]
      replace BA := BA.alloc (.cells #[.int .i64 S1.lo, .int .i64 S1.hi] 23)
      replace BB := BB.alloc (.cells #[.int .i64 S1.lo, .int .i64 S1.hi] 23)
      replace BN := BN.alloc (.cells #[.int .i64 S1.lo, .int .i64 S1.hi] 23)
      replace hb := hb.alloc hb.size (.cells #[.int .i64 S1.lo, .int .i64 S1.hi] 23)
      refine (h2 _).mono ?_
      rintro e w4 ⟨rfl, hb4⟩
      replace BA := BA.step hb4
      replace BB := BB.step hb4
      replace BN := BN.step hb4
      replace C1 := C1.step hb4
      replace hb := hb.trans (hb4.mono hb.size)
      have cBA := BA.cell
      have cBB := BB.cell
      have cBN := BN.cell
      have lBA := BA.lt
      have lBB := BB.lt
      have lBN := BN.lt
      go_upto_region 6 with fail
      clear cBA lBA cBB lBB cBN lBN
      have C2 := Blk.new w4 23 #[.int .i64 S2.lo, .int .i64 S2.hi]
      replace BA := BA.alloc (.cells #[.int .i64 S2.lo, .int .i64 S2.hi] 23)
      replace BB := BB.alloc (.cells #[.int .i64 S2.lo, .int .i64 S2.hi] 23)
      replace BN := BN.alloc (.cells #[.int .i64 S2.lo, .int .i64 S2.hi] 23)
      replace C1 := C1.alloc (.cells #[.int .i64 S2.lo, .int .i64 S2.hi] 23)
      replace hb := hb.alloc hb.size (.cells #[.int .i64 S2.lo, .int .i64 S2.hi] 23)
      have X1 := Lib.hid x1
      have X2 := Lib.hid x2
      clear x1 x2
      go_cut [63] (fun s wx => s = .bool false ∧ Below w.heap.size w wx ∧ Blk wx w.heap.size 23 #[.int .i64 a.lo, .int .i64 a.hi] ∧ Blk wx (w.heap.size + 1) 23 #[.int .i64 b.lo, .int .i64 b.hi] ∧ Blk wx (w.heap.size + 2) 39 #[.int .i64 x, .int .i64 y, .int .i64 n, .int .i64 d])
      case first =>
        by_cases he : E1 = 0
        · have he2 : (E1 == 0) = true := by simpa using he
          obtain rfl : r = true := X1.out he
          clear he
          have cC1 := C1.cell
          have lC1 := C1.lt
          go_wp2_with fail
          clear cC1 lC1
          refine (g1 _).mono ?_
          rintro e w5 ⟨rfl, hb5⟩
          replace BA := BA.step hb5
          replace BB := BB.step hb5
          replace BN := BN.step hb5
          replace C2 := C2.step hb5
          replace hb := hb.trans (hb5.mono hb.size)
          by_cases he : E2 = 0
          · have he3 : (E2 == 0) = true := by simpa using he
            obtain rfl : t = true := X2.out he
            clear he
            have cC2 := C2.cell
            have lC2 := C2.lt
            go_wp2_with fail
            clear cC2 lC2
            refine (g2 _).mono ?_
            rintro e w6 ⟨rfl, hb6⟩
            replace BA := BA.step hb6
            replace BB := BB.step hb6
            replace BN := BN.step hb6
            replace hb := hb.trans (hb6.mono hb.size)
            go_wp2_with fail
            go_meet
            exact ⟨by simp, hb, BA, BB, BN⟩
          · have he3 : (E2 == 0) = false := by simpa using he
            clear he
            go_wp2_with fail
            go_meet
            exact ⟨by simp, hb, BA, BB, BN⟩
        · have he2 : (E1 == 0) = false := by simpa using he
          clear he
          by_cases he : E2 = 0
          · have he3 : (E2 == 0) = true := by simpa using he
            obtain rfl : t = true := X2.out he
            clear he
            have cC2 := C2.cell
            have lC2 := C2.lt
            go_wp2_with fail
            clear cC2 lC2
            refine (g2 _).mono ?_
            rintro e w6 ⟨rfl, hb6⟩
            replace BA := BA.step hb6
            replace BB := BB.step hb6
            replace BN := BN.step hb6
            replace hb := hb.trans (hb6.mono hb.size)
            go_wp2_with fail
            go_meet
            exact ⟨by simp, hb, BA, BB, BN⟩
          · have he3 : (E2 == 0) = false := by simpa using he
            clear he
            go_wp2_with fail
            go_meet
            exact ⟨by simp, hb, BA, BB, BN⟩
      case rest =>
        clear hb BA BB BN C1 C2
        obtain ⟨rfl, hb, BA, BB, BN⟩ := hcut
        have cBA := BA.cell
        have cBB := BB.cell
        have cBN := BN.cell
        have lBA := BA.lt
        have lBB := BB.lt
        have lBN := BN.lt
        go_wp2_with fail
        clear cBA lBA cBB lBB cBN lBN
        refine (h3 _).mono ?_
        rintro e w7 ⟨rfl, hb7⟩
        replace BA := BA.step hb7
        replace BB := BB.step hb7
        replace BN := BN.step hb7
        replace hb := hb.trans (hb7.mono hb.size)
        by_cases he : E3 = 0
        · have he2 : (E3 == 0) = true := by simpa using he
          obtain ⟨u1, u2⟩ := Hx3.out he (by simp)
          obtain rfl : u3 = true := u1
          obtain rfl : u4 = true := u2
          have hp : pOK a n d := by
            have := Hpe.out
            rw [he] at this
            split at this
            · assumption
            · cases this
          subst he
          obtain ⟨_, p1, p2, p3, p4⟩ := hp
          have gd := fun w => Hgd.out w (by omega) (by omega) p1 p2 p3 p4
          have gu := fun w => Hgu.out w (by omega) (by omega) p1 p2 p3 p4
          have cBA := BA.cell
          have cBB := BB.cell
          have cBN := BN.cell
          have lBA := BA.lt
          have lBB := BB.lt
          have lBN := BN.lt
          go_wp2_with fail
          clear cBA lBA cBB lBB cBN lBN
          have C3 := Blk.new w7 23 #[.int .i64 S3.lo, .int .i64 S3.hi]
          replace BA := BA.alloc (.cells #[.int .i64 S3.lo, .int .i64 S3.hi] 23)
          replace BB := BB.alloc (.cells #[.int .i64 S3.lo, .int .i64 S3.hi] 23)
          replace BN := BN.alloc (.cells #[.int .i64 S3.lo, .int .i64 S3.hi] 23)
          replace hb := hb.alloc hb.size (.cells #[.int .i64 S3.lo, .int .i64 S3.hi] 23)
          generalize hW : w7.alloc (.cells #[.int .i64 S3.lo, .int .i64 S3.hi] 23) = W7 at *
          clear hW
          have hl7 := BN.lt
          have c2 : ∀ g : BW W7, ∀ j, g.w.cell? ⟨w.heap.size + 2, j, none⟩ = #[.int .i64 x, .int .i64 y, .int .i64 n, .int .i64 d][j]? := fun g => (BN.bw g).cell
          have c3 : ∀ g : BW W7, ∀ j, g.w.cell? ⟨w7.heap.size, j, none⟩ = #[.int .i64 S3.lo, .int .i64 S3.hi][j]? := fun g => (C3.bw g).cell
          refine wp_region_calm (by kernel_rfl) (by kernel_rfl) ?_
          repeat (go_big_quiet_step (fail))
          go_big_quiet_want; go_big_quiet_op; go_big_quiet_call (exact calls_bw gd _)
          repeat (go_big_quiet_step (fail))
          go_big_quiet_want; go_big_quiet_op; go_big_quiet_call (exact calls_bw g3 _)
          repeat (go_big_quiet_step (fail))
          go_big_quiet_want; go_big_quiet_op; go_big_quiet_call (exact calls_bw gu _)
          repeat (go_big_quiet_step (fail))
          go_big_quiet_want; go_big_quiet_op; go_big_quiet_call (exact calls_bw g4 _)
          repeat (go_big_quiet_step (fail))
          go_big_quiet_want; go_big_quiet_op; go_big_quiet_call (exact calls_bw awake_any _)
          repeat (go_big_quiet_step (fail))
          refine wpQuiet_nil ?_
          intro w8 hb8
          clear c2 c3
          go_wp2_with fail
          go_ret
          exact ⟨by simp, hb.trans (hb8.mono hb.size)⟩
        · have he2 : (E3 == 0) = false := by simpa using he
          have he4 : (E3 != 0) = true := by simpa using he
          clear he
          have cBA := BA.cell
          have cBB := BB.cell
          have cBN := BN.cell
          have lBA := BA.lt
          have lBB := BB.lt
          have lBN := BN.lt
          go_wp2_with fail
          clear cBA lBA cBB lBB cBN lBN
          have C3 := Blk.new w7 23 #[.int .i64 S3.lo, .int .i64 S3.hi]
          replace BA := BA.alloc (.cells #[.int .i64 S3.lo, .int .i64 S3.hi] 23)
          replace BB := BB.alloc (.cells #[.int .i64 S3.lo, .int .i64 S3.hi] 23)
          replace BN := BN.alloc (.cells #[.int .i64 S3.lo, .int .i64 S3.hi] 23)
          replace hb := hb.alloc hb.size (.cells #[.int .i64 S3.lo, .int .i64 S3.hi] 23)
          refine (awake_any _).mono ?_
          rintro e wa ⟨rfl, hba⟩
          go_wp2_with fail
          go_ret
          exact ⟨by simp, hb.trans (hba.mono hb.size)⟩
set_option maxRecDepth 100000 in
theorem spanSound_lifted (os : Os) (started : os.Started) (H : Type) (enc : TypeId × Value → H) :
    ReturnsInHanded {} Try.checked os 9 .any (Rows.spanSoundSpec.pre6 enc Try.prog Try.f9 Rows.spanSoundRow.domain false) (Rows.spanSoundSpec.post enc Try.prog Try.f9 false true false false) := by
  refine law_of_walk (C := Try.checked) (by kernel_rfl) started (by kernel_rfl) Try.func9
    (ChangeSpec.witness6 (enc := enc) (C := Try.checked) false ⟨#[], #[.agg #[.int .i64 0, .int .i64 0], .agg #[.int .i64 0, .int .i64 0], .agg #[.int .i64 0, .int .i64 0, .int .i64 0, .int .i64 0]], []⟩ 8 (by kernel_rfl) (by kernel_rfl) (by kernel_rfl) (by kernel_rfl))
    (by kernel_rfl) ?_ rfl ?_ rfl Try.underlying4 ?_
  · rw [Try.params9]
    intro t ht
    simp at ht
    rcases ht with rfl | rfl
    · exact ⟨by kernel_rfl, of_decide_eq_true (by kernel_rfl)⟩
    · exact ⟨by kernel_rfl, of_decide_eq_true (by kernel_rfl)⟩
  · rw [Try.params9]
    intro ds hds
    match ds, hds with
    | [d0, d1, d2], _ => rfl
  · intro W base args ds ps hval hA hlt
    rw [Try.params9] at hA hval
    obtain ⟨v0, vs0, d0, ds0, p0, q0, hargs, rfl, rfl, h0, r0⟩ := trodAll_cons hA
    obtain ⟨v1, vs1, d1, ds1, p1, q1, rfl, rfl, rfl, h1, r1⟩ := trodAll_cons r0
    obtain ⟨v2, vs2, d2, ds2, p2, q2, rfl, rfl, rfl, h2, r2⟩ := trodAll_cons r1
    obtain ⟨rfl, rfl, rfl⟩ := trodAll_nil r2
    obtain rfl : args = #[v0, v1, v2] := by cases args; simp_all
    obtain ⟨zs0, rfl, hz0, hh0⟩ := okWide_cells (k := .i64) (hval 0 23 v0 rfl rfl) (.inl ⟨_, Try.underlying23⟩) (show Try.prog.cellTypes Try.prog.depth 23 = some [3, 3] by kernel_rfl) (by intro u hu; simp at hu; subst hu; exact Try.underlying3)
    replace hz0 : zs0.length = 2 := hz0.trans (by kernel_rfl)
    obtain ⟨a0, a1, rfl⟩ := len2 hz0
    obtain ⟨zs1, rfl, hz1, hh1⟩ := okWide_cells (k := .i64) (hval 1 23 v1 rfl rfl) (.inl ⟨_, Try.underlying23⟩) (show Try.prog.cellTypes Try.prog.depth 23 = some [3, 3] by kernel_rfl) (by intro u hu; simp at hu; subst hu; exact Try.underlying3)
    replace hz1 : zs1.length = 2 := hz1.trans (by kernel_rfl)
    obtain ⟨b0, b1, rfl⟩ := len2 hz1
    obtain ⟨zs2, rfl, hz2, hh2⟩ := okWide_cells (k := .i64) (hval 2 39 v2 rfl rfl) (.inr ⟨_, _, Try.underlying39⟩) (show Try.prog.cellTypes Try.prog.depth 39 = some [3, 3, 3, 3] by kernel_rfl) (by intro u hu; simp at hu; subst hu; exact Try.underlying3)
    replace hz2 : zs2.length = 4 := hz2.trans (by kernel_rfl)
    obtain ⟨x, y, n, d, rfl⟩ := len4 hz2
    exact law7 ⟨a0, a1⟩ ⟨b0, b1⟩ (hh1 _ (by simp)) (hh1 _ (by simp)) x y n d W

theorem spanSound_holds : Rows.SpanSoundSaid :=
  OpenClaim.holds_of_wide 9 Try.f9 rfl rfl rfl rfl rfl rfl rfl ⟨rfl, rfl, rfl, rfl, rfl⟩ rfl rfl rfl rfl rfl (by kernel_rfl) Try.func9 (by kernel_rfl)
    (of_decide_eq_true (by kernel_rfl)) (by unfold Func.isWrapper; first | (rw [if_pos (by decide +kernel)]; kernel_rfl) | (rw [if_neg (by decide +kernel)]; exact ⟨rfl, rfl⟩))
    (fun os started H enc _ => spanSound_lifted os started H enc)
#print axioms spanSound_holds

end Go.Proofs.Ytpclhjkamplmbaa
