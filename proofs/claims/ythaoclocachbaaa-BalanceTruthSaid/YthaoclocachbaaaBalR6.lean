/- BalanceTruth: closing stocks of masses within the intervals lie in the intervals of Stock. -/
import Derived.Test.YthaoclocachbaaaBalTr
import Derived.Test.YthaoclocachbaaaRows
import Derived.Test.YthaoclocachbaaaChecked
namespace Go.Proofs.Ythaoclocachbaaa
set_option linter.unusedVariables false
set_option linter.unusedSimpArgs false
open Go.ChangeShapes Go.WideShapes Go.ChangeAt Go.RowKit

set_option maxRecDepth 100000 in
theorem balanceTruth_lifted (os : Os) (started : os.Started) (H : Type) (enc : TypeId × Value → H) :
    ReturnsInHanded {} Try.checked os 8 .any (Rows.balanceTruthSpec.pre6 enc Try.prog Try.f8 Rows.balanceTruthRow.domain false) (Rows.balanceTruthSpec.post enc Try.prog Try.f8 false true false false) := by
  refine law_of_walk (C := Try.checked) (by kernel_rfl) started (by kernel_rfl) Try.func8
    (ChangeSpec.witness6 (enc := enc) (C := Try.checked) false ⟨#[], #[.agg #[.int .i64 0, .slice none 0 0, .slice none 0 0, .slice none 0 0], .slice none 0 0], []⟩ 8 (by kernel_rfl) (by kernel_rfl) (by kernel_rfl) (by kernel_rfl))
    (by kernel_rfl) ?_ rfl ?_ rfl Try.underlying4 ?_
  · rw [Try.params8]
    intro t ht
    simp at ht
    rcases ht with rfl | rfl
    · exact ⟨by kernel_rfl, of_decide_eq_true (by kernel_rfl)⟩
    · exact ⟨by kernel_rfl, of_decide_eq_true (by kernel_rfl)⟩
  · rw [Try.params8]
    intro ds hds
    match ds, hds with
    | [d0, d1], _ => rfl
  · intro W base args ds ps hval hA hlt
    rw [Try.params8] at hA hval
    obtain ⟨v0, vs0, d0, ds0, p0, q0, hargs, rfl, rfl, h0, r0⟩ := trodAll_cons hA
    obtain ⟨v1, vs1, d1, ds1, p1, q1, rfl, rfl, rfl, h1, r1⟩ := trodAll_cons r0
    obtain ⟨rfl, rfl, rfl⟩ := trodAll_nil r1
    obtain rfl : args = #[v0, v1] := by cases args; simp_all
    obtain ⟨n, vo, vl, vc, o, l, c, rfl, ho, hl, hc⟩ := open_bal (hval 0 25 v0 rfl rfl) h0
    obtain ⟨m, hm, qm⟩ := open_rowin (k := .i64) Try.underlying29 (show Try.prog.cellsOf 3 = 1 by kernel_rfl) (by decide) 6 (by kernel_rfl) decI encI decI_enc (hval 1 29 v1 rfl rfl) h1
    exact law_truth n ho hl hc hm

theorem balanceTruth_holds : Rows.BalanceTruthSaid :=
  OpenClaim.holds_of_wide 8 Try.f8 rfl rfl rfl rfl rfl rfl rfl ⟨rfl, rfl, rfl, rfl, rfl⟩ rfl rfl rfl rfl rfl (by kernel_rfl) Try.func8 (by kernel_rfl)
    (of_decide_eq_true (by kernel_rfl)) (by unfold Func.isWrapper; first | (rw [if_pos (by decide +kernel)]; kernel_rfl) | (rw [if_neg (by decide +kernel)]; exact ⟨rfl, rfl⟩))
    (fun os started H enc _ => balanceTruth_lifted os started H enc)
#print axioms balanceTruth_holds

end Go.Proofs.Ythaoclocachbaaa
