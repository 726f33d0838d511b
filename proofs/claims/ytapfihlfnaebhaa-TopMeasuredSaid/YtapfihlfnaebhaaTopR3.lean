/- TopMeasured: if every scale shows numbers that it could show, the net intervals and the total contain the truth, and no pair of scales is in conflict: for every input. -/
import Derived.Test.YtapfihlfnaebhaaMeaH
import Derived.Test.YtapfihlfnaebhaaLaw
import Derived.Test.YtapfihlfnaebhaaRows
import Derived.Test.YtapfihlfnaebhaaChecked
namespace Go.Proofs.Ytapfihlfnaebhaa
set_option linter.unusedVariables false
set_option linter.unusedSimpArgs false
open Go.ChangeShapes Go.WideShapes Go.ChangeAt Go.RowKit

def decS (x : List Int) : Sc := ⟨x.getD 0 0, x.getD 1 0, x.getD 2 0, x.getD 3 0, x.getD 4 0, x.getD 5 0⟩
theorem decS_enc (x : List Int) (h : x.length = 6) : encS (decS x) = x.map (Value.int .i64) := by
  obtain ⟨a, b, c, d, e, f, rfl⟩ := len6 h
  rfl

set_option maxRecDepth 100000 in
theorem topMeasured_lifted (os : Os) (started : os.Started) (H : Type) (enc : TypeId × Value → H) :
    ReturnsInHanded {} Try.checked os 5 .any (Rows.topMeasuredSpec.pre6 enc Try.prog Try.f5 Rows.topMeasuredRow.domain false) (Rows.topMeasuredSpec.post enc Try.prog Try.f5 false true false false) := by
  refine law_of_walk (C := Try.checked) (by kernel_rfl) started (by kernel_rfl) Try.func5
    (ChangeSpec.witness6 (enc := enc) (C := Try.checked) false ⟨#[], #[.slice none 0 0, .int .i64 0, .slice none 0 0], []⟩ 8 (by kernel_rfl) (by kernel_rfl) (by kernel_rfl) (by kernel_rfl))
    (by kernel_rfl) ?_ rfl ?_ rfl Try.underlying4 ?_
  · rw [Try.params5]
    intro t ht
    simp at ht
    rcases ht with rfl | rfl | rfl
    · exact ⟨by kernel_rfl, of_decide_eq_true (by kernel_rfl)⟩
    · exact ⟨by kernel_rfl, of_decide_eq_true (by kernel_rfl)⟩
    · exact ⟨by kernel_rfl, of_decide_eq_true (by kernel_rfl)⟩
  · rw [Try.params5]
    intro ds hds
    match ds, hds with
    | [d0, d1, d2], _ => rfl
  · intro W base args ds ps hval hA hlt
    rw [Try.params5] at hA hval
    obtain ⟨v0, vs0, d0, ds0, p0, q0, hargs, rfl, rfl, h0, r0⟩ := trodAll_cons hA
    obtain ⟨v1, vs1, d1, ds1, p1, q1, rfl, rfl, rfl, h1, r1⟩ := trodAll_cons r0
    obtain ⟨v2, vs2, d2, ds2, p2, q2, rfl, rfl, rfl, h2, r2⟩ := trodAll_cons r1
    obtain ⟨rfl, rfl, rfl⟩ := trodAll_nil r2
    obtain rfl : args = #[v0, v1, v2] := by cases args; simp_all
    obtain ⟨s, hs, qs⟩ := open_rowin (k := .i64) Try.underlying54 (show Try.prog.cellsOf 23 = 6 by kernel_rfl) (by decide) 6 (by kernel_rfl) decS encS decS_enc (hval 0 54 v0 rfl rfl) h0
    obtain ⟨t, rfl, ht⟩ := okWide_int1 (hval 1 3 v1 rfl rfl) Try.underlying3
    obtain ⟨l, hl, ql⟩ := open_rowin (k := .i64) Try.underlying55 (show Try.prog.cellsOf 59 = 8 by kernel_rfl) (by decide) 6 (by kernel_rfl) decL encL decL_enc (hval 2 55 v2 rfl rfl) h2
    exact law_meas hs t hl

theorem topMeasured_holds : Rows.TopMeasuredSaid :=
  OpenClaim.holds_of_wide 5 Try.f5 rfl rfl rfl rfl rfl rfl rfl ⟨rfl, rfl, rfl, rfl, rfl⟩ rfl rfl rfl rfl rfl (by kernel_rfl) Try.func5 (by kernel_rfl)
    (of_decide_eq_true (by kernel_rfl)) (by unfold Func.isWrapper; first | (rw [if_pos (by decide +kernel)]; kernel_rfl) | (rw [if_neg (by decide +kernel)]; exact ⟨rfl, rfl⟩))
    (fun os started H enc _ => topMeasured_lifted os started H enc)
#print axioms topMeasured_holds

end Go.Proofs.Ytapfihlfnaebhaa
