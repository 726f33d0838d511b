/- ScaleErrors, ScaleCoulds, ScaleTrues, ScaleShows: for every scale, mass, number and moment, the program and its reference agree. -/
import Derived.Test.YtdaekfjogcnebaaScaleM
import Derived.Test.YtdaekfjogcnebaaLaw
namespace Go.Proofs.Ytdaekfjogcnebaa
set_option linter.unusedVariables false
set_option linter.unusedSimpArgs false
open Go.ChangeShapes Go.WideShapes Go.ChangeAt Go.RowKit

set_option maxRecDepth 100000 in
theorem scaleErrors_lifted (os : Os) (started : os.Started) (H : Type) (enc : TypeId × Value → H) :
    ReturnsInHanded {} Try.checked os 4 .any (Rows.scaleErrorsSpec.pre6 enc Try.prog Try.f4 Rows.scaleErrorsRow.domain false) (Rows.scaleErrorsSpec.post enc Try.prog Try.f4 false true false false) := by
  refine law_of_walk (C := Try.checked) (by kernel_rfl) started (by kernel_rfl) Try.func4
    (ChangeSpec.witness6 (enc := enc) (C := Try.checked) false ⟨#[], #[.agg #[.int .i64 0, .int .i64 0, .int .i64 0, .int .i64 0, .int .i64 0, .int .i64 0, .int .i64 0, .int .i64 0, .int .i64 0]], []⟩ 8 (by kernel_rfl) (by kernel_rfl) (by kernel_rfl) (by kernel_rfl))
    (by kernel_rfl) ?_ rfl ?_ rfl Try.underlying4 ?_
  · rw [Try.params4]
    intro t ht
    simp at ht
    subst ht
    exact ⟨by kernel_rfl, of_decide_eq_true (by kernel_rfl)⟩
  · rw [Try.params4]
    intro ds hds
    match ds, hds with
    | [d0], _ => rfl
  · intro W base args ds ps hval hA hlt
    rw [Try.params4] at hA hval
    obtain ⟨v0, vs0, d0, ds0, p0, q0, hargs, rfl, rfl, h0, r0⟩ := trodAll_cons hA
    obtain ⟨rfl, rfl, rfl⟩ := trodAll_nil r0
    obtain rfl : args = #[v0] := by cases args; simp_all
    obtain ⟨zs0, rfl, hz0, hh0⟩ := okWide_cells (k := .i64) (hval 0 29 v0 rfl rfl) (.inl ⟨_, Try.underlying29⟩) (show Try.prog.cellTypes Try.prog.depth 29 = some [3, 3, 3, 3, 3, 3, 3, 3, 3] by kernel_rfl) (by intro u hu; simp at hu; subst hu; exact Try.underlying3)
    replace hz0 : zs0.length = 9 := hz0.trans (by kernel_rfl)
    obtain ⟨sa, sb, sc, sd, se, sf, m, n, t, rfl⟩ := len9 hz0
    exact law2 sa sb sc sd se sf m n t W

theorem scaleErrors_holds : Rows.ScaleErrorsSaid :=
  OpenClaim.holds_of_wide 4 Try.f4 rfl rfl rfl rfl rfl rfl rfl ⟨rfl, rfl, rfl, rfl, rfl⟩ rfl rfl rfl rfl rfl (by kernel_rfl) Try.func4 (by kernel_rfl)
    (of_decide_eq_true (by kernel_rfl)) (by unfold Func.isWrapper; first | (rw [if_pos (by decide +kernel)]; kernel_rfl) | (rw [if_neg (by decide +kernel)]; exact ⟨rfl, rfl⟩))
    (fun os started H enc _ => scaleErrors_lifted os started H enc)
#print axioms scaleErrors_holds

set_option maxRecDepth 100000 in
theorem scaleCoulds_lifted (os : Os) (started : os.Started) (H : Type) (enc : TypeId × Value → H) :
    ReturnsInHanded {} Try.checked os 5 .any (Rows.scaleCouldsSpec.pre6 enc Try.prog Try.f5 Rows.scaleCouldsRow.domain false) (Rows.scaleCouldsSpec.post enc Try.prog Try.f5 false true false false) := by
  refine law_of_walk (C := Try.checked) (by kernel_rfl) started (by kernel_rfl) Try.func5
    (ChangeSpec.witness6 (enc := enc) (C := Try.checked) false ⟨#[], #[.agg #[.int .i64 0, .int .i64 0, .int .i64 0, .int .i64 0, .int .i64 0, .int .i64 0, .int .i64 0, .int .i64 0, .int .i64 0]], []⟩ 8 (by kernel_rfl) (by kernel_rfl) (by kernel_rfl) (by kernel_rfl))
    (by kernel_rfl) ?_ rfl ?_ rfl Try.underlying4 ?_
  · rw [Try.params5]
    intro t ht
    simp at ht
    subst ht
    exact ⟨by kernel_rfl, of_decide_eq_true (by kernel_rfl)⟩
  · rw [Try.params5]
    intro ds hds
    match ds, hds with
    | [d0], _ => rfl
  · intro W base args ds ps hval hA hlt
    rw [Try.params5] at hA hval
    obtain ⟨v0, vs0, d0, ds0, p0, q0, hargs, rfl, rfl, h0, r0⟩ := trodAll_cons hA
    obtain ⟨rfl, rfl, rfl⟩ := trodAll_nil r0
    obtain rfl : args = #[v0] := by cases args; simp_all
    obtain ⟨zs0, rfl, hz0, hh0⟩ := okWide_cells (k := .i64) (hval 0 29 v0 rfl rfl) (.inl ⟨_, Try.underlying29⟩) (show Try.prog.cellTypes Try.prog.depth 29 = some [3, 3, 3, 3, 3, 3, 3, 3, 3] by kernel_rfl) (by intro u hu; simp at hu; subst hu; exact Try.underlying3)
    replace hz0 : zs0.length = 9 := hz0.trans (by kernel_rfl)
    obtain ⟨sa, sb, sc, sd, se, sf, m, n, t, rfl⟩ := len9 hz0
    exact law3 sa sb sc sd se sf m n t W

theorem scaleCoulds_holds : Rows.ScaleCouldsSaid :=
  OpenClaim.holds_of_wide 5 Try.f5 rfl rfl rfl rfl rfl rfl rfl ⟨rfl, rfl, rfl, rfl, rfl⟩ rfl rfl rfl rfl rfl (by kernel_rfl) Try.func5 (by kernel_rfl)
    (of_decide_eq_true (by kernel_rfl)) (by unfold Func.isWrapper; first | (rw [if_pos (by decide +kernel)]; kernel_rfl) | (rw [if_neg (by decide +kernel)]; exact ⟨rfl, rfl⟩))
    (fun os started H enc _ => scaleCoulds_lifted os started H enc)
#print axioms scaleCoulds_holds

set_option maxRecDepth 100000 in
theorem scaleTrues_lifted (os : Os) (started : os.Started) (H : Type) (enc : TypeId × Value → H) :
    ReturnsInHanded {} Try.checked os 6 .any (Rows.scaleTruesSpec.pre6 enc Try.prog Try.f6 Rows.scaleTruesRow.domain false) (Rows.scaleTruesSpec.post enc Try.prog Try.f6 false true false false) := by
  refine law_of_walk (C := Try.checked) (by kernel_rfl) started (by kernel_rfl) Try.func6
    (ChangeSpec.witness6 (enc := enc) (C := Try.checked) false ⟨#[], #[.agg #[.int .i64 0, .int .i64 0, .int .i64 0, .int .i64 0, .int .i64 0, .int .i64 0, .int .i64 0, .int .i64 0, .int .i64 0]], []⟩ 8 (by kernel_rfl) (by kernel_rfl) (by kernel_rfl) (by kernel_rfl))
    (by kernel_rfl) ?_ rfl ?_ rfl Try.underlying4 ?_
  · rw [Try.params6]
    intro t ht
    simp at ht
    subst ht
    exact ⟨by kernel_rfl, of_decide_eq_true (by kernel_rfl)⟩
  · rw [Try.params6]
    intro ds hds
    match ds, hds with
    | [d0], _ => rfl
  · intro W base args ds ps hval hA hlt
    rw [Try.params6] at hA hval
    obtain ⟨v0, vs0, d0, ds0, p0, q0, hargs, rfl, rfl, h0, r0⟩ := trodAll_cons hA
    obtain ⟨rfl, rfl, rfl⟩ := trodAll_nil r0
    obtain rfl : args = #[v0] := by cases args; simp_all
    obtain ⟨zs0, rfl, hz0, hh0⟩ := okWide_cells (k := .i64) (hval 0 29 v0 rfl rfl) (.inl ⟨_, Try.underlying29⟩) (show Try.prog.cellTypes Try.prog.depth 29 = some [3, 3, 3, 3, 3, 3, 3, 3, 3] by kernel_rfl) (by intro u hu; simp at hu; subst hu; exact Try.underlying3)
    replace hz0 : zs0.length = 9 := hz0.trans (by kernel_rfl)
    obtain ⟨sa, sb, sc, sd, se, sf, m, n, t, rfl⟩ := len9 hz0
    exact law4 sa sb sc sd se sf m n t W

theorem scaleTrues_holds : Rows.ScaleTruesSaid :=
  OpenClaim.holds_of_wide 6 Try.f6 rfl rfl rfl rfl rfl rfl rfl ⟨rfl, rfl, rfl, rfl, rfl⟩ rfl rfl rfl rfl rfl (by kernel_rfl) Try.func6 (by kernel_rfl)
    (of_decide_eq_true (by kernel_rfl)) (by unfold Func.isWrapper; first | (rw [if_pos (by decide +kernel)]; kernel_rfl) | (rw [if_neg (by decide +kernel)]; exact ⟨rfl, rfl⟩))
    (fun os started H enc _ => scaleTrues_lifted os started H enc)
#print axioms scaleTrues_holds

set_option maxRecDepth 100000 in
theorem scaleShows_lifted (os : Os) (started : os.Started) (H : Type) (enc : TypeId × Value → H) :
    ReturnsInHanded {} Try.checked os 7 .any (Rows.scaleShowsSpec.pre6 enc Try.prog Try.f7 Rows.scaleShowsRow.domain false) (Rows.scaleShowsSpec.post enc Try.prog Try.f7 false true false false) := by
  refine law_of_walk (C := Try.checked) (by kernel_rfl) started (by kernel_rfl) Try.func7
    (ChangeSpec.witness6 (enc := enc) (C := Try.checked) false ⟨#[], #[.agg #[.int .i64 0, .int .i64 0, .int .i64 0, .int .i64 0, .int .i64 0, .int .i64 0, .int .i64 0, .int .i64 0, .int .i64 0]], []⟩ 8 (by kernel_rfl) (by kernel_rfl) (by kernel_rfl) (by kernel_rfl))
    (by kernel_rfl) ?_ rfl ?_ rfl Try.underlying4 ?_
  · rw [Try.params7]
    intro t ht
    simp at ht
    subst ht
    exact ⟨by kernel_rfl, of_decide_eq_true (by kernel_rfl)⟩
  · rw [Try.params7]
    intro ds hds
    match ds, hds with
    | [d0], _ => rfl
  · intro W base args ds ps hval hA hlt
    rw [Try.params7] at hA hval
    obtain ⟨v0, vs0, d0, ds0, p0, q0, hargs, rfl, rfl, h0, r0⟩ := trodAll_cons hA
    obtain ⟨rfl, rfl, rfl⟩ := trodAll_nil r0
    obtain rfl : args = #[v0] := by cases args; simp_all
    obtain ⟨zs0, rfl, hz0, hh0⟩ := okWide_cells (k := .i64) (hval 0 29 v0 rfl rfl) (.inl ⟨_, Try.underlying29⟩) (show Try.prog.cellTypes Try.prog.depth 29 = some [3, 3, 3, 3, 3, 3, 3, 3, 3] by kernel_rfl) (by intro u hu; simp at hu; subst hu; exact Try.underlying3)
    replace hz0 : zs0.length = 9 := hz0.trans (by kernel_rfl)
    obtain ⟨sa, sb, sc, sd, se, sf, m, n, t, rfl⟩ := len9 hz0
    exact law5 sa sb sc sd se sf m n t W

theorem scaleShows_holds : Rows.ScaleShowsSaid :=
  OpenClaim.holds_of_wide 7 Try.f7 rfl rfl rfl rfl rfl rfl rfl ⟨rfl, rfl, rfl, rfl, rfl⟩ rfl rfl rfl rfl rfl (by kernel_rfl) Try.func7 (by kernel_rfl)
    (of_decide_eq_true (by kernel_rfl)) (by unfold Func.isWrapper; first | (rw [if_pos (by decide +kernel)]; kernel_rfl) | (rw [if_neg (by decide +kernel)]; exact ⟨rfl, rfl⟩))
    (fun os started H enc _ => scaleShows_lifted os started H enc)
#print axioms scaleShows_holds

end Go.Proofs.Ytdaekfjogcnebaa
