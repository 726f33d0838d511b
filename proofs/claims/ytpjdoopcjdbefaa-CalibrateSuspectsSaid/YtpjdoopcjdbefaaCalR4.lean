/- CalibrateSuspects: every conflict has a suspect, and no other set that has a scale of every conflict is smaller, or as small and lexicographically less. -/
import Derived.Test.YtpjdoopcjdbefaaCalR1
import Derived.Test.YtpjdoopcjdbefaaCalS
namespace Go.Proofs.Ytpjdoopcjdbefaa
set_option linter.unusedVariables false
set_option linter.unusedSimpArgs false
open Go.ChangeShapes Go.WideShapes Go.ChangeAt Go.RowKit

theorem u32_has {n : Int} (h : IntKind.u32.has n) : 0 ≤ n ∧ n < 4294967296 := by
  obtain ⟨h1, h2⟩ := h
  replace h1 : 0 ≤ n := h1
  replace h2 : n ≤ 4294967295 := h2
  omega

set_option maxRecDepth 100000 in
theorem calibrateSuspects_lifted (os : Os) (started : os.Started) (H : Type) (enc : TypeId × Value → H) :
    ReturnsInHanded {} Try.checked os 6 .any (Rows.calibrateSuspectsSpec.pre6 enc Try.prog Try.f6 Rows.calibrateSuspectsRow.domain false) (Rows.calibrateSuspectsSpec.post enc Try.prog Try.f6 false true false false) := by
  refine law_of_walk (C := Try.checked) (by kernel_rfl) started (by kernel_rfl) Try.func6
    (ChangeSpec.witness6 (enc := enc) (C := Try.checked) false ⟨#[], #[.slice none 0 0, .slice none 0 0, .int .u32 0], []⟩ 8 (by kernel_rfl) (by kernel_rfl) (by kernel_rfl) (by kernel_rfl))
    (by kernel_rfl) ?_ rfl ?_ rfl Try.underlying4 ?_
  · rw [Try.params6]
    intro t ht
    simp at ht
    rcases ht with rfl | rfl | rfl
    · exact ⟨by kernel_rfl, of_decide_eq_true (by kernel_rfl)⟩
    · exact ⟨by kernel_rfl, of_decide_eq_true (by kernel_rfl)⟩
    · exact ⟨by kernel_rfl, of_decide_eq_true (by kernel_rfl)⟩
  · rw [Try.params6]
    intro ds hds
    match ds, hds with
    | [d0, d1, d2], _ => rfl
  · intro W base args ds ps hval hA hlt
    rw [Try.params6] at hA hval
    obtain ⟨v0, vs0, d0, ds0, p0, q0, hargs, rfl, rfl, h0, r0⟩ := trodAll_cons hA
    obtain ⟨v1, vs1, d1, ds1, p1, q1, rfl, rfl, rfl, h1, r1⟩ := trodAll_cons r0
    obtain ⟨v2, vs2, d2, ds2, p2, q2, rfl, rfl, rfl, h2, r2⟩ := trodAll_cons r1
    obtain ⟨rfl, rfl, rfl⟩ := trodAll_nil r2
    obtain rfl : args = #[v0, v1, v2] := by cases args; simp_all
    obtain ⟨s, hs, qs⟩ := open_rowin (k := .i64) Try.underlying22 (show Try.prog.cellsOf 32 = 6 by kernel_rfl) (by decide) 6 (by kernel_rfl) decS encS decS_enc (hval 0 22 v0 rfl rfl) h0
    obtain ⟨l, hl, ql⟩ := open_rowin (k := .i64) Try.underlying23 (show Try.prog.cellsOf 44 = 5 by kernel_rfl) (by decide) 6 (by kernel_rfl) decQ encQ decQ_enc (hval 1 23 v1 rfl rfl) h1
    obtain ⟨other, rfl, hother⟩ := okWide_int1 (hval 2 39 v2 rfl rfl) Try.underlying39
    exact law_sus' hs hl other (u32_has hother).1 (u32_has hother).2

theorem calibrateSuspects_holds : Rows.CalibrateSuspectsSaid :=
  OpenClaim.holds_of_wide 6 Try.f6 rfl rfl rfl rfl rfl rfl rfl ⟨rfl, rfl, rfl, rfl, rfl⟩ rfl rfl rfl rfl rfl (by kernel_rfl) Try.func6 (by kernel_rfl)
    (of_decide_eq_true (by kernel_rfl)) (by unfold Func.isWrapper; first | (rw [if_pos (by decide +kernel)]; kernel_rfl) | (rw [if_neg (by decide +kernel)]; exact ⟨rfl, rfl⟩))
    (fun os started H enc _ => calibrateSuspects_lifted os started H enc)
#print axioms calibrateSuspects_holds

end Go.Proofs.Ytpjdoopcjdbefaa
