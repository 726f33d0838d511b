/- SpanMany: Sum accepts 65536 intervals and no more, for every interval that is repeated. -/
import Derived.Test.YtpclhjkamplmbaaSpanT
namespace Go.Proofs.Ytpclhjkamplmbaa
set_option linter.unusedVariables false
set_option linter.unusedSimpArgs false
open Go.ChangeShapes Go.WideShapes Go.ChangeAt Go.RowKit

theorem byte_bd {z : Int} (h : IntKind.u8.has z) : 0 ≤ z ∧ z ≤ 255 := by
  simp [IntKind.has, IntKind.min, IntKind.max, IntKind.signed, IntKind.bits] at h
  omega

set_option maxRecDepth 100000 in
theorem spanMany_lifted (os : Os) (started : os.Started) (H : Type) (enc : TypeId × Value → H) :
    ReturnsInHanded {} Try.checked os 6 .any (Rows.spanManySpec.pre6 enc Try.prog Try.f6 Rows.spanManyRow.domain false) (Rows.spanManySpec.post enc Try.prog Try.f6 false true false false) := by
  refine law_of_walk (C := Try.checked) (by kernel_rfl) started (by kernel_rfl) Try.func6
    (ChangeSpec.witness6 (enc := enc) (C := Try.checked) false ⟨#[], #[.agg #[.int .i64 0, .int .i64 0], .int .u8 0], []⟩ 8 (by kernel_rfl) (by kernel_rfl) (by kernel_rfl) (by kernel_rfl))
    (by kernel_rfl) ?_ rfl ?_ rfl Try.underlying4 ?_
  · rw [Try.params6]
    intro t ht
    simp at ht
    rcases ht with rfl | rfl
    · exact ⟨by kernel_rfl, of_decide_eq_true (by kernel_rfl)⟩
    · exact ⟨by kernel_rfl, of_decide_eq_true (by kernel_rfl)⟩
  · rw [Try.params6]
    intro ds hds
    match ds, hds with
    | [d0, d1], _ => rfl
  · intro W base args ds ps hval hA hlt
    rw [Try.params6] at hA hval
    obtain ⟨v0, vs0, d0, ds0, p0, q0, hargs, rfl, rfl, h0, r0⟩ := trodAll_cons hA
    obtain ⟨v1, vs1, d1, ds1, p1, q1, rfl, rfl, rfl, h1, r1⟩ := trodAll_cons r0
    obtain ⟨rfl, rfl, rfl⟩ := trodAll_nil r1
    obtain rfl : args = #[v0, v1] := by cases args; simp_all
    obtain ⟨zs0, rfl, hz0, hh0⟩ := okWide_cells (k := .i64) (hval 0 23 v0 rfl rfl) (.inl ⟨_, Try.underlying23⟩) (show Try.prog.cellTypes Try.prog.depth 23 = some [3, 3] by kernel_rfl) (by intro u hu; simp at hu; subst hu; exact Try.underlying3)
    replace hz0 : zs0.length = 2 := hz0.trans (by kernel_rfl)
    obtain ⟨a0, a1, rfl⟩ := len2 hz0
    obtain ⟨m, rfl, hm⟩ := okWide_int1 (hval 1 5 v1 rfl rfl) Try.underlying5
    exact law4 ⟨a0, a1⟩ m (byte_bd hm).1 (byte_bd hm).2 W

theorem spanMany_holds : Rows.SpanManySaid :=
  OpenClaim.holds_of_wide 6 Try.f6 rfl rfl rfl rfl rfl rfl rfl ⟨rfl, rfl, rfl, rfl, rfl⟩ rfl rfl rfl rfl rfl (by kernel_rfl) Try.func6 (by kernel_rfl)
    (of_decide_eq_true (by kernel_rfl)) (by unfold Func.isWrapper; first | (rw [if_pos (by decide +kernel)]; kernel_rfl) | (rw [if_neg (by decide +kernel)]; exact ⟨rfl, rfl⟩))
    (fun os started H enc _ => spanMany_lifted os started H enc)
#print axioms spanMany_holds

end Go.Proofs.Ytpclhjkamplmbaa
