/- CalibrateTrue, CalibrateShift, CalibrateUntil: no conflict where both scales could show their numbers; the offset explains what was shown; no calibration is needed up to the last moment. -/
import Derived.Test.YtpjdoopcjdbefaaCalR1
import Derived.Test.YtpjdoopcjdbefaaCalT
import Derived.Test.YtpjdoopcjdbefaaCalV
namespace Go.Proofs.Ytpjdoopcjdbefaa
set_option linter.unusedVariables false
set_option linter.unusedSimpArgs false
open Go.ChangeShapes Go.WideShapes Go.ChangeAt Go.RowKit

def decK (x : List Int) : Kn := ⟨x.getD 0 0, x.getD 1 0, x.getD 2 0⟩
theorem decK_enc (x : List Int) (h : x.length = 3) : encK (decK x) = x.map (Value.int .i64) := by
  obtain ⟨a, b, c, rfl⟩ := len3 h
  rfl

theorem u32_has {n : Int} (h : IntKind.u32.has n) : 0 ≤ n ∧ n < 4294967296 := by
  obtain ⟨h1, h2⟩ := h
  replace h1 : 0 ≤ n := h1
  replace h2 : n ≤ 4294967295 := h2
  omega

set_option maxRecDepth 100000 in
theorem calibrateTrue_lifted (os : Os) (started : os.Started) (H : Type) (enc : TypeId × Value → H) :
    ReturnsInHanded {} Try.checked os 7 .any (Rows.calibrateTrueSpec.pre6 enc Try.prog Try.f7 Rows.calibrateTrueRow.domain false) (Rows.calibrateTrueSpec.post enc Try.prog Try.f7 false true false false) := by
  refine law_of_walk (C := Try.checked) (by kernel_rfl) started (by kernel_rfl) Try.func7
    (ChangeSpec.witness6 (enc := enc) (C := Try.checked) false ⟨#[], #[.slice none 0 0, .slice none 0 0, .int .i64 0], []⟩ 8 (by kernel_rfl) (by kernel_rfl) (by kernel_rfl) (by kernel_rfl))
    (by kernel_rfl) ?_ rfl ?_ rfl Try.underlying4 ?_
  · rw [Try.params7]
    intro t ht
    simp at ht
    rcases ht with rfl | rfl | rfl
    · exact ⟨by kernel_rfl, of_decide_eq_true (by kernel_rfl)⟩
    · exact ⟨by kernel_rfl, of_decide_eq_true (by kernel_rfl)⟩
    · exact ⟨by kernel_rfl, of_decide_eq_true (by kernel_rfl)⟩
  · rw [Try.params7]
    intro ds hds
    match ds, hds with
    | [d0, d1, d2], _ => rfl
  · intro W base args ds ps hval hA hlt
    rw [Try.params7] at hA hval
    obtain ⟨v0, vs0, d0, ds0, p0, q0, hargs, rfl, rfl, h0, r0⟩ := trodAll_cons hA
    obtain ⟨v1, vs1, d1, ds1, p1, q1, rfl, rfl, rfl, h1, r1⟩ := trodAll_cons r0
    obtain ⟨v2, vs2, d2, ds2, p2, q2, rfl, rfl, rfl, h2, r2⟩ := trodAll_cons r1
    obtain ⟨rfl, rfl, rfl⟩ := trodAll_nil r2
    obtain rfl : args = #[v0, v1, v2] := by cases args; simp_all
    obtain ⟨s, hs, qs⟩ := open_rowin (k := .i64) Try.underlying22 (show Try.prog.cellsOf 32 = 6 by kernel_rfl) (by decide) 6 (by kernel_rfl) decS encS decS_enc (hval 0 22 v0 rfl rfl) h0
    obtain ⟨l, hl, ql⟩ := open_rowin (k := .i64) Try.underlying23 (show Try.prog.cellsOf 44 = 5 by kernel_rfl) (by decide) 6 (by kernel_rfl) decQ encQ decQ_enc (hval 1 23 v1 rfl rfl) h1
    obtain ⟨m, rfl, hm⟩ := okWide_int1 (hval 2 3 v2 rfl rfl) Try.underlying3
    exact law_true hs hl m

theorem calibrateTrue_holds : Rows.CalibrateTrueSaid :=
  OpenClaim.holds_of_wide 7 Try.f7 rfl rfl rfl rfl rfl rfl rfl ⟨rfl, rfl, rfl, rfl, rfl⟩ rfl rfl rfl rfl rfl (by kernel_rfl) Try.func7 (by kernel_rfl)
    (of_decide_eq_true (by kernel_rfl)) (by unfold Func.isWrapper; first | (rw [if_pos (by decide +kernel)]; kernel_rfl) | (rw [if_neg (by decide +kernel)]; exact ⟨rfl, rfl⟩))
    (fun os started H enc _ => calibrateTrue_lifted os started H enc)
#print axioms calibrateTrue_holds

set_option maxRecDepth 100000 in
theorem calibrateShift_lifted (os : Os) (started : os.Started) (H : Type) (enc : TypeId × Value → H) :
    ReturnsInHanded {} Try.checked os 8 .any (Rows.calibrateShiftSpec.pre6 enc Try.prog Try.f8 Rows.calibrateShiftRow.domain false) (Rows.calibrateShiftSpec.post enc Try.prog Try.f8 false true false false) := by
  refine law_of_walk (C := Try.checked) (by kernel_rfl) started (by kernel_rfl) Try.func8
    (ChangeSpec.witness6 (enc := enc) (C := Try.checked) false ⟨#[], #[.agg #[.int .i64 0, .int .i64 0, .int .i64 0, .int .i64 0, .int .i64 0, .int .i64 0], .slice none 0 0, .int .i64 0], []⟩ 8 (by kernel_rfl) (by kernel_rfl) (by kernel_rfl) (by kernel_rfl))
    (by kernel_rfl) ?_ rfl ?_ rfl Try.underlying4 ?_
  · rw [Try.params8]
    intro t ht
    simp at ht
    rcases ht with rfl | rfl | rfl
    · exact ⟨by kernel_rfl, of_decide_eq_true (by kernel_rfl)⟩
    · exact ⟨by kernel_rfl, of_decide_eq_true (by kernel_rfl)⟩
    · exact ⟨by kernel_rfl, of_decide_eq_true (by kernel_rfl)⟩
  · rw [Try.params8]
    intro ds hds
    match ds, hds with
    | [d0, d1, d2], _ => rfl
  · intro W base args ds ps hval hA hlt
    rw [Try.params8] at hA hval
    obtain ⟨v0, vs0, d0, ds0, p0, q0, hargs, rfl, rfl, h0, r0⟩ := trodAll_cons hA
    obtain ⟨v1, vs1, d1, ds1, p1, q1, rfl, rfl, rfl, h1, r1⟩ := trodAll_cons r0
    obtain ⟨v2, vs2, d2, ds2, p2, q2, rfl, rfl, rfl, h2, r2⟩ := trodAll_cons r1
    obtain ⟨rfl, rfl, rfl⟩ := trodAll_nil r2
    obtain rfl : args = #[v0, v1, v2] := by cases args; simp_all
    obtain ⟨zs0, rfl, hz0, hh0⟩ := okWide_cells (k := .i64) (hval 0 32 v0 rfl rfl) (.inl ⟨_, Try.underlying32⟩) (show Try.prog.cellTypes Try.prog.depth 32 = some [3, 3, 3, 3, 3, 3] by kernel_rfl) (by intro u hu; simp at hu; subst hu; exact Try.underlying3)
    replace hz0 : zs0.length = 6 := hz0.trans (by kernel_rfl)
    obtain ⟨sa, sb, sc, sd, se, sf, rfl⟩ := len6 hz0
    obtain ⟨l, hl, ql⟩ := open_rowin (k := .i64) Try.underlying33 (show Try.prog.cellsOf 49 = 3 by kernel_rfl) (by decide) 6 (by kernel_rfl) decK encK decK_enc (hval 1 33 v1 rfl rfl) h1
    obtain ⟨o, rfl, ho⟩ := okWide_int1 (hval 2 3 v2 rfl rfl) Try.underlying3
    exact law_shift ⟨sa, sb, sc, sd, se, sf⟩ hl o

theorem calibrateShift_holds : Rows.CalibrateShiftSaid :=
  OpenClaim.holds_of_wide 8 Try.f8 rfl rfl rfl rfl rfl rfl rfl ⟨rfl, rfl, rfl, rfl, rfl⟩ rfl rfl rfl rfl rfl (by kernel_rfl) Try.func8 (by kernel_rfl)
    (of_decide_eq_true (by kernel_rfl)) (by unfold Func.isWrapper; first | (rw [if_pos (by decide +kernel)]; kernel_rfl) | (rw [if_neg (by decide +kernel)]; exact ⟨rfl, rfl⟩))
    (fun os started H enc _ => calibrateShift_lifted os started H enc)
#print axioms calibrateShift_holds

set_option maxRecDepth 100000 in
theorem calibrateUntil_lifted (os : Os) (started : os.Started) (H : Type) (enc : TypeId × Value → H) :
    ReturnsInHanded {} Try.checked os 10 .any (Rows.calibrateUntilSpec.pre6 enc Try.prog Try.f10 Rows.calibrateUntilRow.domain false) (Rows.calibrateUntilSpec.post enc Try.prog Try.f10 false true false false) := by
  refine law_of_walk (C := Try.checked) (by kernel_rfl) started (by kernel_rfl) Try.func10
    (ChangeSpec.witness6 (enc := enc) (C := Try.checked) false ⟨#[], #[.agg #[.int .i64 0, .int .i64 0, .int .i64 0, .int .i64 0, .int .i64 0, .int .i64 0], .int .i64 0, .int .u32 0], []⟩ 8 (by kernel_rfl) (by kernel_rfl) (by kernel_rfl) (by kernel_rfl))
    (by kernel_rfl) ?_ rfl ?_ rfl Try.underlying4 ?_
  · rw [Try.params10]
    intro t ht
    simp at ht
    rcases ht with rfl | rfl | rfl
    · exact ⟨by kernel_rfl, of_decide_eq_true (by kernel_rfl)⟩
    · exact ⟨by kernel_rfl, of_decide_eq_true (by kernel_rfl)⟩
    · exact ⟨by kernel_rfl, of_decide_eq_true (by kernel_rfl)⟩
  · rw [Try.params10]
    intro ds hds
    match ds, hds with
    | [d0, d1, d2], _ => rfl
  · intro W base args ds ps hval hA hlt
    rw [Try.params10] at hA hval
    obtain ⟨v0, vs0, d0, ds0, p0, q0, hargs, rfl, rfl, h0, r0⟩ := trodAll_cons hA
    obtain ⟨v1, vs1, d1, ds1, p1, q1, rfl, rfl, rfl, h1, r1⟩ := trodAll_cons r0
    obtain ⟨v2, vs2, d2, ds2, p2, q2, rfl, rfl, rfl, h2, r2⟩ := trodAll_cons r1
    obtain ⟨rfl, rfl, rfl⟩ := trodAll_nil r2
    obtain rfl : args = #[v0, v1, v2] := by cases args; simp_all
    obtain ⟨zs0, rfl, hz0, hh0⟩ := okWide_cells (k := .i64) (hval 0 32 v0 rfl rfl) (.inl ⟨_, Try.underlying32⟩) (show Try.prog.cellTypes Try.prog.depth 32 = some [3, 3, 3, 3, 3, 3] by kernel_rfl) (by intro u hu; simp at hu; subst hu; exact Try.underlying3)
    replace hz0 : zs0.length = 6 := hz0.trans (by kernel_rfl)
    obtain ⟨sa, sb, sc, sd, se, sf, rfl⟩ := len6 hz0
    obtain ⟨lim, rfl, hlim⟩ := okWide_int1 (hval 1 3 v1 rfl rfl) Try.underlying3
    obtain ⟨back, rfl, hback⟩ := okWide_int1 (hval 2 39 v2 rfl rfl) Try.underlying39
    exact law_until ⟨sa, sb, sc, sd, se, sf⟩ lim back (u32_has hback)

theorem calibrateUntil_holds : Rows.CalibrateUntilSaid :=
  OpenClaim.holds_of_wide 10 Try.f10 rfl rfl rfl rfl rfl rfl rfl ⟨rfl, rfl, rfl, rfl, rfl⟩ rfl rfl rfl rfl rfl (by kernel_rfl) Try.func10 (by kernel_rfl)
    (of_decide_eq_true (by kernel_rfl)) (by unfold Func.isWrapper; first | (rw [if_pos (by decide +kernel)]; kernel_rfl) | (rw [if_neg (by decide +kernel)]; exact ⟨rfl, rfl⟩))
    (fun os started H enc _ => calibrateUntil_lifted os started H enc)
#print axioms calibrateUntil_holds

end Go.Proofs.Ytpjdoopcjdbefaa
