/- BalanceStable: tightening a second time changes nothing. -/
import Derived.Test.YthaoclocachbaaaBalYs
import Derived.Test.YthaoclocachbaaaBalN
import Derived.Test.YthaoclocachbaaaRows
import Derived.Test.YthaoclocachbaaaChecked
namespace Go.Proofs.Ythaoclocachbaaa
set_option linter.unusedVariables false
set_option linter.unusedSimpArgs false
open Go.ChangeShapes Go.WideShapes Go.ChangeAt Go.RowKit

set_option maxRecDepth 100000 in
theorem balanceStable_lifted (os : Os) (started : os.Started) (H : Type) (enc : TypeId × Value → H) :
    ReturnsInHanded {} Try.checked os 11 .any (Rows.balanceStableSpec.pre6 enc Try.prog Try.f11 Rows.balanceStableRow.domain false) (Rows.balanceStableSpec.post enc Try.prog Try.f11 false true false false) := by
  refine law_of_walk (C := Try.checked) (by kernel_rfl) started (by kernel_rfl) Try.func11
    (ChangeSpec.witness6 (enc := enc) (C := Try.checked) false ⟨#[], #[.agg #[.int .i64 0, .slice none 0 0, .slice none 0 0, .slice none 0 0]], []⟩ 8 (by kernel_rfl) (by kernel_rfl) (by kernel_rfl) (by kernel_rfl))
    (by kernel_rfl) ?_ rfl ?_ rfl Try.underlying4 ?_
  · rw [Try.params11]
    intro t ht
    simp at ht
    subst ht
    exact ⟨by kernel_rfl, of_decide_eq_true (by kernel_rfl)⟩
  · rw [Try.params11]
    intro ds hds
    match ds, hds with
    | [d0], _ => rfl
  · intro W base args ds ps hval hA hlt
    rw [Try.params11] at hA hval
    obtain ⟨v0, vs0, d0, ds0, p0, q0, hargs, rfl, rfl, h0, r0⟩ := trodAll_cons hA
    obtain ⟨rfl, rfl, rfl⟩ := trodAll_nil r0
    obtain rfl : args = #[v0] := by cases args; simp_all
    obtain ⟨n, vo, vl, vc, o, l, c, rfl, ho, hl, hc⟩ := open_bal (hval 0 25 v0 rfl rfl) h0
    exact law_stable n ho hl hc

theorem balanceStable_holds : Rows.BalanceStableSaid :=
  OpenClaim.holds_of_wide 11 Try.f11 rfl rfl rfl rfl rfl rfl rfl ⟨rfl, rfl, rfl, rfl, rfl⟩ rfl rfl rfl rfl rfl (by kernel_rfl) Try.func11 (by kernel_rfl)
    (of_decide_eq_true (by kernel_rfl)) (by unfold Func.isWrapper; first | (rw [if_pos (by decide +kernel)]; kernel_rfl) | (rw [if_neg (by decide +kernel)]; exact ⟨rfl, rfl⟩))
    (fun os started H enc _ => balanceStable_lifted os started H enc)
#print axioms balanceStable_holds

end Go.Proofs.Ythaoclocachbaaa
