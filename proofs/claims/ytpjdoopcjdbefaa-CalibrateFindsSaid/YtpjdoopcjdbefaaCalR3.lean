/- CalibrateFinds: the suspects of any pairs. -/
import Derived.Test.YtpjdoopcjdbefaaCalR1
import Derived.Test.YtpjdoopcjdbefaaCalY
namespace Go.Proofs.Ytpjdoopcjdbefaa
set_option linter.unusedVariables false
set_option linter.unusedSimpArgs false
open Go.ChangeShapes Go.WideShapes Go.ChangeAt Go.RowKit

set_option maxRecDepth 100000 in
theorem calibrateFinds_lifted (os : Os) (started : os.Started) (H : Type) (enc : TypeId × Value → H) :
    ReturnsInHanded {} Try.checked os 4 .any (Rows.calibrateFindsSpec.pre6 enc Try.prog Try.f4 Rows.calibrateFindsRow.domain false) (Rows.calibrateFindsSpec.post enc Try.prog Try.f4 false true false false) := by
  refine law_of_walk (C := Try.checked) (by kernel_rfl) started (by kernel_rfl) Try.func4
    (ChangeSpec.witness6 (enc := enc) (C := Try.checked) false ⟨#[], #[.slice none 0 0, .slice none 0 0], []⟩ 8 (by kernel_rfl) (by kernel_rfl) (by kernel_rfl) (by kernel_rfl))
    (by kernel_rfl) ?_ rfl ?_ rfl Try.underlying4 ?_
  · rw [Try.params4]
    intro t ht
    simp at ht
    rcases ht with rfl | rfl
    · exact ⟨by kernel_rfl, of_decide_eq_true (by kernel_rfl)⟩
    · exact ⟨by kernel_rfl, of_decide_eq_true (by kernel_rfl)⟩
  · rw [Try.params4]
    intro ds hds
    match ds, hds with
    | [d0, d1], _ => rfl
  · intro W base args ds ps hval hA hlt
    rw [Try.params4] at hA hval
    obtain ⟨v0, vs0, d0, ds0, p0, q0, hargs, rfl, rfl, h0, r0⟩ := trodAll_cons hA
    obtain ⟨v1, vs1, d1, ds1, p1, q1, rfl, rfl, rfl, h1, r1⟩ := trodAll_cons r0
    obtain ⟨rfl, rfl, rfl⟩ := trodAll_nil r1
    obtain rfl : args = #[v0, v1] := by cases args; simp_all
    obtain ⟨s, hs, qs⟩ := open_rowin (k := .i64) Try.underlying22 (show Try.prog.cellsOf 32 = 6 by kernel_rfl) (by decide) 6 (by kernel_rfl) decS encS decS_enc (hval 0 22 v0 rfl rfl) h0
    obtain ⟨l, hl, ql⟩ := open_rowin (k := .i64) Try.underlying23 (show Try.prog.cellsOf 44 = 5 by kernel_rfl) (by decide) 6 (by kernel_rfl) decQ encQ decQ_enc (hval 1 23 v1 rfl rfl) h1
    exact law_finds hs hl

theorem calibrateFinds_holds : Rows.CalibrateFindsSaid :=
  OpenClaim.holds_of_wide 4 Try.f4 rfl rfl rfl rfl rfl rfl rfl ⟨rfl, rfl, rfl, rfl, rfl⟩ rfl rfl rfl rfl rfl (by kernel_rfl) Try.func4 (by kernel_rfl)
    (of_decide_eq_true (by kernel_rfl)) (by unfold Func.isWrapper; first | (rw [if_pos (by decide +kernel)]; kernel_rfl) | (rw [if_neg (by decide +kernel)]; exact ⟨rfl, rfl⟩))
    (fun os started H enc _ => calibrateFinds_lifted os started H enc)
#print axioms calibrateFinds_holds

end Go.Proofs.Ytpjdoopcjdbefaa
