/- TopScaleBalance: stocks computed from shown numbers contain the true stocks, and the true masses are an assignment. -/
import Derived.Test.YtapfihlfnaebhaaTopW
import Derived.Test.YtapfihlfnaebhaaRows
import Derived.Test.YtapfihlfnaebhaaChecked
namespace Go.Proofs.Ytapfihlfnaebhaa
set_option linter.unusedVariables false
set_option linter.unusedSimpArgs false
open Go.ChangeShapes Go.WideShapes Go.ChangeAt Go.RowKit

def decI (x : List Int) : Int := x.getD 0 0
theorem decI_enc (x : List Int) (h : x.length = 1) : encI (decI x) = x.map (Value.int .i64) := by
  match x, h with
  | [a], _ => rfl
def decW (x : List Int) : Wd := ⟨x.getD 0 0, x.getD 1 0, x.getD 2 0, x.getD 3 0⟩
theorem decW_enc (x : List Int) (h : x.length = 4) : encW (decW x) = x.map (Value.int .i64) := by
  obtain ⟨a, b, c, d, rfl⟩ := len4 h
  rfl

set_option maxRecDepth 100000 in
theorem topScaleBalance_lifted (os : Os) (started : os.Started) (H : Type) (enc : TypeId × Value → H) :
    ReturnsInHanded {} Try.checked os 3 .any (Rows.topScaleBalanceSpec.pre6 enc Try.prog Try.f3 Rows.topScaleBalanceRow.domain false) (Rows.topScaleBalanceSpec.post enc Try.prog Try.f3 false true false false) := by
  refine law_of_walk (C := Try.checked) (by kernel_rfl) started (by kernel_rfl) Try.func3
    (ChangeSpec.witness6 (enc := enc) (C := Try.checked) false ⟨#[], #[.agg #[.int .i64 0, .int .i64 0, .int .i64 0, .int .i64 0, .int .i64 0, .int .i64 0], .int .i64 0, .slice none 0 0, .slice none 0 0], []⟩ 8 (by kernel_rfl) (by kernel_rfl) (by kernel_rfl) (by kernel_rfl))
    (by kernel_rfl) ?_ rfl ?_ rfl Try.underlying4 ?_
  · rw [Try.params3]
    intro t ht
    simp at ht
    rcases ht with rfl | rfl | rfl | rfl
    · exact ⟨by kernel_rfl, of_decide_eq_true (by kernel_rfl)⟩
    · exact ⟨by kernel_rfl, of_decide_eq_true (by kernel_rfl)⟩
    · exact ⟨by kernel_rfl, of_decide_eq_true (by kernel_rfl)⟩
    · exact ⟨by kernel_rfl, of_decide_eq_true (by kernel_rfl)⟩
  · rw [Try.params3]
    intro ds hds
    match ds, hds with
    | [d0, d1, d2, d3], _ => rfl
  · intro W base args ds ps hval hA hlt
    rw [Try.params3] at hA hval
    obtain ⟨v0, vs0, d0, ds0, p0, q0, hargs, rfl, rfl, h0, r0⟩ := trodAll_cons hA
    obtain ⟨v1, vs1, d1, ds1, p1, q1, rfl, rfl, rfl, h1, r1⟩ := trodAll_cons r0
    obtain ⟨v2, vs2, d2, ds2, p2, q2, rfl, rfl, rfl, h2, r2⟩ := trodAll_cons r1
    obtain ⟨v3, vs3, d3, ds3, p3, q3, rfl, rfl, rfl, h3, r3⟩ := trodAll_cons r2
    obtain ⟨rfl, rfl, rfl⟩ := trodAll_nil r3
    obtain rfl : args = #[v0, v1, v2, v3] := by cases args; simp_all
    obtain ⟨zs0, rfl, hz0, hh0⟩ := okWide_cells (k := .i64) (hval 0 23 v0 rfl rfl) (.inl ⟨_, Try.underlying23⟩) (show Try.prog.cellTypes Try.prog.depth 23 = some [3, 3, 3, 3, 3, 3] by kernel_rfl) (by intro u hu; simp at hu; subst hu; exact Try.underlying3)
    replace hz0 : zs0.length = 6 := hz0.trans (by kernel_rfl)
    obtain ⟨sa, sb, sc, sd, se, sf, rfl⟩ := len6 hz0
    obtain ⟨t, rfl, ht⟩ := okWide_int1 (hval 1 3 v1 rfl rfl) Try.underlying3
    obtain ⟨o, ho, qo⟩ := open_rowin (k := .i64) Try.underlying24 (show Try.prog.cellsOf 3 = 1 by kernel_rfl) (by decide) 6 (by kernel_rfl) decI encI decI_enc (hval 2 24 v2 rfl rfl) h2
    obtain ⟨l, hl, ql⟩ := open_rowin (k := .i64) Try.underlying25 (show Try.prog.cellsOf 34 = 4 by kernel_rfl) (by decide) 6 (by kernel_rfl) decW encW decW_enc (hval 3 25 v3 rfl rfl) h3
    exact law_top sa sb sc sd se sf t ho hl

theorem topScaleBalance_holds : Rows.TopScaleBalanceSaid :=
  OpenClaim.holds_of_wide 3 Try.f3 rfl rfl rfl rfl rfl rfl rfl ⟨rfl, rfl, rfl, rfl, rfl⟩ rfl rfl rfl rfl rfl (by kernel_rfl) Try.func3 (by kernel_rfl)
    (of_decide_eq_true (by kernel_rfl)) (by unfold Func.isWrapper; first | (rw [if_pos (by decide +kernel)]; kernel_rfl) | (rw [if_neg (by decide +kernel)]; exact ⟨rfl, rfl⟩))
    (fun os started H enc _ => topScaleBalance_lifted os started H enc)
#print axioms topScaleBalance_holds

end Go.Proofs.Ytapfihlfnaebhaa
