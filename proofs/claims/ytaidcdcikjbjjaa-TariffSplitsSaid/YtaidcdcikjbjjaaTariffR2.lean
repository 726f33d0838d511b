/- TariffSplits: the amounts of two parts of a window add up, and heavier emptyings cost no less. -/
import Derived.Test.YtaidcdcikjbjjaaTariffL
import Derived.Test.YtaidcdcikjbjjaaArgs
import Derived.Test.YtaidcdcikjbjjaaRows
import Derived.Test.YtaidcdcikjbjjaaChecked
namespace Go.Proofs.Ytaidcdcikjbjjaa
set_option linter.unusedVariables false
set_option linter.unusedSimpArgs false
open Go.ChangeShapes Go.WideShapes Go.ChangeAt Go.RowKit

set_option maxRecDepth 100000 in
theorem tariffSplits_lifted (os : Os) (started : os.Started) (H : Type) (enc : TypeId × Value → H) :
    ReturnsInHanded {} Try.checked os 9 .any (Rows.tariffSplitsSpec.pre6 enc Try.prog Try.f9 Rows.tariffSplitsRow.domain false) (Rows.tariffSplitsSpec.post enc Try.prog Try.f9 false true false false) := by
  refine law_of_walk (C := Try.checked) (by kernel_rfl) started (by kernel_rfl) Try.func9
    (ChangeSpec.witness6 (enc := enc) (C := Try.checked) false ⟨#[], #[.slice none 0 0, .agg #[.int .i64 0, .int .i64 0], .int .i64 0, .int .i64 0, .int .i64 0], []⟩ 8 (by kernel_rfl) (by kernel_rfl) (by kernel_rfl) (by kernel_rfl))
    (by kernel_rfl) ?_ rfl ?_ rfl Try.underlying4 ?_
  · rw [Try.params9]
    intro t ht
    simp at ht
    rcases ht with rfl | rfl | rfl
    · exact ⟨by kernel_rfl, of_decide_eq_true (by kernel_rfl)⟩
    · exact ⟨by kernel_rfl, of_decide_eq_true (by kernel_rfl)⟩
    · exact ⟨by kernel_rfl, of_decide_eq_true (by kernel_rfl)⟩
  · rw [Try.params9]
    intro ds hds
    match ds, hds with
    | [d0, d1, d2, d3, d4], _ => rfl
  · intro W base args ds ps hval hA hlt
    rw [Try.params9] at hA hval
    obtain ⟨v0, vs0, d0, ds0, p0, q0, hargs, rfl, rfl, h0, r0⟩ := trodAll_cons hA
    obtain ⟨v1, vs1, d1, ds1, p1, q1, rfl, rfl, rfl, h1, r1⟩ := trodAll_cons r0
    obtain ⟨v2, vs2, d2, ds2, p2, q2, rfl, rfl, rfl, h2, r2⟩ := trodAll_cons r1
    obtain ⟨v3, vs3, d3, ds3, p3, q3, rfl, rfl, rfl, h3, r3⟩ := trodAll_cons r2
    obtain ⟨v4, vs4, d4, ds4, p4, q4, rfl, rfl, rfl, h4, r4⟩ := trodAll_cons r3
    obtain ⟨rfl, rfl, rfl⟩ := trodAll_nil r4
    obtain rfl : args = #[v0, v1, v2, v3, v4] := by cases args; simp_all
    obtain ⟨l, hl, ql⟩ := open_rowin (k := .i64) Try.underlying22 (show Try.prog.cellsOf 31 = 5 by kernel_rfl) (by decide) 6 (by kernel_rfl) decT encT decT_enc (hval 0 22 v0 rfl rfl) h0
    obtain ⟨zs1, rfl, hz1, hh1⟩ := okWide_cells (k := .i64) (hval 1 44 v1 rfl rfl) (.inl ⟨_, Try.underlying44⟩) (show Try.prog.cellTypes Try.prog.depth 44 = some [3, 3] by kernel_rfl) (by intro u hu; simp at hu; subst hu; exact Try.underlying3)
    replace hz1 : zs1.length = 2 := hz1.trans (by kernel_rfl)
    obtain ⟨lo, hi, rfl⟩ := len2 hz1
    obtain ⟨m, rfl, hm⟩ := okWide_int1 (hval 2 3 v2 rfl rfl) Try.underlying3
    obtain ⟨p, rfl, hp⟩ := okWide_int1 (hval 3 3 v3 rfl rfl) Try.underlying3
    obtain ⟨q, rfl, hq⟩ := okWide_int1 (hval 4 3 v4 rfl rfl) Try.underlying3
    exact law_splits hl lo hi m p q

theorem tariffSplits_holds : Rows.TariffSplitsSaid :=
  OpenClaim.holds_of_wide 9 Try.f9 rfl rfl rfl rfl rfl rfl rfl ⟨rfl, rfl, rfl, rfl, rfl⟩ rfl rfl rfl rfl rfl (by kernel_rfl) Try.func9 (by kernel_rfl)
    (of_decide_eq_true (by kernel_rfl)) (by unfold Func.isWrapper; first | (rw [if_pos (by decide +kernel)]; kernel_rfl) | (rw [if_neg (by decide +kernel)]; exact ⟨rfl, rfl⟩))
    (fun os started H enc _ => tariffSplits_lifted os started H enc)
#print axioms tariffSplits_holds

end Go.Proofs.Ytaidcdcikjbjjaa
