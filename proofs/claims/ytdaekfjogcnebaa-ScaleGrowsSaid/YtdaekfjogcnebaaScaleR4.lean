/- ScaleGrows: for every scale, mass, number and moment, and every four bytes by which the scale is worse and the moment later. -/
import Derived.Test.YtdaekfjogcnebaaScaleS
import Derived.Test.YtdaekfjogcnebaaLaw
namespace Go.Proofs.Ytdaekfjogcnebaa
set_option linter.unusedVariables false
set_option linter.unusedSimpArgs false
open Go.ChangeShapes Go.WideShapes Go.ChangeAt Go.RowKit

theorem byte_bd {z : Int} (h : IntKind.u8.has z) : 0 ≤ z ∧ z ≤ 255 := by
  simp [IntKind.has, IntKind.min, IntKind.max, IntKind.signed, IntKind.bits] at h
  omega

theorem law8 (sa sb sc sd se sf m n t ya yb yc yd : Int) (w : World) (h : ∀ z ∈ [ya, yb, yc, yd], IntKind.u8.has z) :
    Calls Try.prog 10 #[.agg #[.int .i64 sa, .int .i64 sb, .int .i64 sc, .int .i64 sd, .int .i64 se, .int .i64 sf, .int .i64 m, .int .i64 n, .int .i64 t], .agg #[.int .u8 ya, .int .u8 yb, .int .u8 yc, .int .u8 yd]] w fun e w' => e = .returned (.bool true) ∧ Below w.heap.size w w' := by
  obtain ⟨u1, u2⟩ := byte_bd (h ya (by simp))
  obtain ⟨u3, u4⟩ := byte_bd (h yb (by simp))
  obtain ⟨u5, u6⟩ := byte_bd (h yc (by simp))
  obtain ⟨u7, u8⟩ := byte_bd (h yd (by simp))
  by_cases h0 : chk sa sb sc sd se sf = 0 ∧ 0 ≤ t ∧ t ≤ 3155759999
  · exact law8_ok sa sb sc sd se sf m n t ya yb yc yd w u1 u2 u3 u4 u5 u6 u7 u8 (chk_ok.1 h0.1) h0.2.1 h0.2.2
  · exact law8_bad sa sb sc sd se sf m n t ya yb yc yd w h0

set_option maxRecDepth 100000 in
theorem scaleGrows_lifted (os : Os) (started : os.Started) (H : Type) (enc : TypeId × Value → H) :
    ReturnsInHanded {} Try.checked os 10 .any (Rows.scaleGrowsSpec.pre6 enc Try.prog Try.f10 Rows.scaleGrowsRow.domain false) (Rows.scaleGrowsSpec.post enc Try.prog Try.f10 false true false false) := by
  refine law_of_walk (C := Try.checked) (by kernel_rfl) started (by kernel_rfl) Try.func10
    (ChangeSpec.witness6 (enc := enc) (C := Try.checked) false ⟨#[], #[.agg #[.int .i64 0, .int .i64 0, .int .i64 0, .int .i64 0, .int .i64 0, .int .i64 0, .int .i64 0, .int .i64 0, .int .i64 0], .agg #[.int .u8 0, .int .u8 0, .int .u8 0, .int .u8 0]], []⟩ 8 (by kernel_rfl) (by kernel_rfl) (by kernel_rfl) (by kernel_rfl))
    (by kernel_rfl) ?_ rfl ?_ rfl Try.underlying4 ?_
  · rw [Try.params10]
    intro t ht
    simp at ht
    rcases ht with rfl | rfl
    · exact ⟨by kernel_rfl, of_decide_eq_true (by kernel_rfl)⟩
    · exact ⟨by kernel_rfl, of_decide_eq_true (by kernel_rfl)⟩
  · rw [Try.params10]
    intro ds hds
    match ds, hds with
    | [d0, d1], _ => rfl
  · intro W base args ds ps hval hA hlt
    rw [Try.params10] at hA hval
    obtain ⟨v0, vs0, d0, ds0, p0, q0, hargs, rfl, rfl, h0, r0⟩ := trodAll_cons hA
    obtain ⟨v1, vs1, d1, ds1, p1, q1, rfl, rfl, rfl, h1, r1⟩ := trodAll_cons r0
    obtain ⟨rfl, rfl, rfl⟩ := trodAll_nil r1
    obtain rfl : args = #[v0, v1] := by cases args; simp_all
    obtain ⟨zs0, rfl, hz0, hh0⟩ := okWide_cells (k := .i64) (hval 0 29 v0 rfl rfl) (.inl ⟨_, Try.underlying29⟩) (show Try.prog.cellTypes Try.prog.depth 29 = some [3, 3, 3, 3, 3, 3, 3, 3, 3] by kernel_rfl) (by intro u hu; simp at hu; subst hu; exact Try.underlying3)
    replace hz0 : zs0.length = 9 := hz0.trans (by kernel_rfl)
    obtain ⟨sa, sb, sc, sd, se, sf, m, n, t, rfl⟩ := len9 hz0
    obtain ⟨zs1, rfl, hz1, hh1⟩ := okWide_cells (k := .u8) (hval 1 39 v1 rfl rfl) (.inl ⟨_, Try.underlying39⟩) (show Try.prog.cellTypes Try.prog.depth 39 = some [5, 5, 5, 5] by kernel_rfl) (by intro u hu; simp at hu; subst hu; exact Try.underlying5)
    replace hz1 : zs1.length = 4 := hz1.trans (by kernel_rfl)
    obtain ⟨ya, yb, yc, yd, rfl⟩ := len4 hz1
    exact law8 sa sb sc sd se sf m n t ya yb yc yd W hh1

theorem scaleGrows_holds : Rows.ScaleGrowsSaid :=
  OpenClaim.holds_of_wide 10 Try.f10 rfl rfl rfl rfl rfl rfl rfl ⟨rfl, rfl, rfl, rfl, rfl⟩ rfl rfl rfl rfl rfl (by kernel_rfl) Try.func10 (by kernel_rfl)
    (of_decide_eq_true (by kernel_rfl)) (by unfold Func.isWrapper; first | (rw [if_pos (by decide +kernel)]; kernel_rfl) | (rw [if_neg (by decide +kernel)]; exact ⟨rfl, rfl⟩))
    (fun os started H enc _ => scaleGrows_lifted os started H enc)
#print axioms scaleGrows_holds

end Go.Proofs.Ytdaekfjogcnebaa
