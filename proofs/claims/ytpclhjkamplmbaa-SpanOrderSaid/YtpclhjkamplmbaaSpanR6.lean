/- SpanOrder: the sum of intervals does not depend on their order, and is that of two parts, for every list and place. -/
import Derived.Test.YtpclhjkamplmbaaSpanU
namespace Go.Proofs.Ytpclhjkamplmbaa
set_option linter.unusedVariables false
set_option linter.unusedSimpArgs false
open Go.ChangeShapes Go.WideShapes Go.ChangeAt Go.RowKit

theorem word_bd {z : Int} (h : IntKind.u16.has z) : 0 ≤ z ∧ z ≤ 65535 := by
  simp [IntKind.has, IntKind.min, IntKind.max, IntKind.signed, IntKind.bits] at h
  omega

set_option maxRecDepth 100000 in
theorem spanOrder_lifted (os : Os) (started : os.Started) (H : Type) (enc : TypeId × Value → H) :
    ReturnsInHanded {} Try.checked os 12 .any (Rows.spanOrderSpec.pre6 enc Try.prog Try.f12 Rows.spanOrderRow.domain false) (Rows.spanOrderSpec.post enc Try.prog Try.f12 false true false false) := by
  refine law_of_walk (C := Try.checked) (by kernel_rfl) started (by kernel_rfl) Try.func12
    (ChangeSpec.witness6 (enc := enc) (C := Try.checked) false ⟨#[], #[.slice none 0 0, .int .u16 0], []⟩ 8 (by kernel_rfl) (by kernel_rfl) (by kernel_rfl) (by kernel_rfl))
    (by kernel_rfl) ?_ rfl ?_ rfl Try.underlying4 ?_
  · rw [Try.params12]
    intro t ht
    simp at ht
    rcases ht with rfl | rfl
    · exact ⟨by kernel_rfl, of_decide_eq_true (by kernel_rfl)⟩
    · exact ⟨by kernel_rfl, of_decide_eq_true (by kernel_rfl)⟩
  · rw [Try.params12]
    intro ds hds
    match ds, hds with
    | [d0, d1], _ => rfl
  · intro W base args ds ps hval hA hlt
    rw [Try.params12] at hA hval
    obtain ⟨v0, vs0, d0, ds0, p0, q0, hargs, rfl, rfl, h0, r0⟩ := trodAll_cons hA
    obtain ⟨v1, vs1, d1, ds1, p1, q1, rfl, rfl, rfl, h1, r1⟩ := trodAll_cons r0
    obtain ⟨rfl, rfl, rfl⟩ := trodAll_nil r1
    obtain rfl : args = #[v0, v1] := by cases args; simp_all
    obtain ⟨l, hl, ql⟩ := open_rowin (k := .i64) Try.underlying31 (show Try.prog.cellsOf 23 = 2 by kernel_rfl) (by decide) 6 (by kernel_rfl) decP encP decP_enc (hval 0 31 v0 rfl rfl) h0
    obtain ⟨t, rfl, ht⟩ := okWide_int1 (hval 1 43 v1 rfl rfl) Try.underlying43
    exact law10 hl t (word_bd ht).1 (word_bd ht).2

theorem spanOrder_holds : Rows.SpanOrderSaid :=
  OpenClaim.holds_of_wide 12 Try.f12 rfl rfl rfl rfl rfl rfl rfl ⟨rfl, rfl, rfl, rfl, rfl⟩ rfl rfl rfl rfl rfl (by kernel_rfl) Try.func12 (by kernel_rfl)
    (of_decide_eq_true (by kernel_rfl)) (by unfold Func.isWrapper; first | (rw [if_pos (by decide +kernel)]; kernel_rfl) | (rw [if_neg (by decide +kernel)]; exact ⟨rfl, rfl⟩))
    (fun os started H enc _ => spanOrder_lifted os started H enc)
#print axioms spanOrder_holds

end Go.Proofs.Ytpclhjkamplmbaa
