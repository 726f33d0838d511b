/- VoucherTwice, VoucherPasses and VoucherNil: no voucher is redeemed twice; sums as time passes; a nil book. -/
import Derived.Test.YtbpeiljpbcgjaaaVoucherO2
import Derived.Test.YtbpeiljpbcgjaaaArgs
import Derived.Test.YtbpeiljpbcgjaaaRows
import Derived.Test.YtbpeiljpbcgjaaaChecked
namespace Go.Proofs.Ytbpeiljpbcgjaaa
set_option linter.unusedVariables false
set_option linter.unusedSimpArgs false
open Go.ChangeShapes Go.WideShapes Go.ChangeAt Go.RowKit

theorem u32_has {n : Int} (h : IntKind.u32.has n) : 0 ≤ n ∧ n < 4294967296 := by
  obtain ⟨h1, h2⟩ := h
  replace h1 : 0 ≤ n := h1
  replace h2 : n ≤ 4294967295 := h2
  omega

set_option maxRecDepth 100000 in
theorem voucherTwice_lifted (os : Os) (started : os.Started) (H : Type) (enc : TypeId × Value → H) :
    ReturnsInHanded {} Try.checked os 6 .any (Rows.voucherTwiceSpec.pre6 enc Try.prog Try.f6 Rows.voucherTwiceRow.domain false) (Rows.voucherTwiceSpec.post enc Try.prog Try.f6 false true false false) := by
  refine law_of_walk (C := Try.checked) (by kernel_rfl) started (by kernel_rfl) Try.func6
    (ChangeSpec.witness6 (enc := enc) (C := Try.checked) false ⟨#[], #[.int .u32 0, .slice none 0 0, .agg #[.int .i64 0, .int .i64 0, .int .i64 0]], []⟩ 8 (by kernel_rfl) (by kernel_rfl) (by kernel_rfl) (by kernel_rfl))
    (by kernel_rfl) ?_ rfl ?_ rfl Try.underlying4 ?_
  · rw [Try.params6]
    intro t ht
    simp at ht
    rcases ht with rfl | rfl | rfl
    · exact ⟨by kernel_rfl, of_decide_eq_true (by kernel_rfl)⟩
    · exact ⟨by kernel_rfl, of_decide_eq_true (by kernel_rfl)⟩
    · exact ⟨by kernel_rfl, of_decide_eq_true (by kernel_rfl)⟩
  · rw [Try.params6]
    intro ds hds
    match ds, hds with
    | [d0, d1, d2], _ => rfl
  · intro W base args ds ps hval hA hlt
    rw [Try.params6] at hA hval
    obtain ⟨v0, vs0, d0, ds0, p0, q0, hargs, rfl, rfl, h0, r0⟩ := trodAll_cons hA
    obtain ⟨v1, vs1, d1, ds1, p1, q1, rfl, rfl, rfl, h1, r1⟩ := trodAll_cons r0
    obtain ⟨v2, vs2, d2, ds2, p2, q2, rfl, rfl, rfl, h2, r2⟩ := trodAll_cons r1
    obtain ⟨rfl, rfl, rfl⟩ := trodAll_nil r2
    obtain rfl : args = #[v0, v1, v2] := by cases args; simp_all
    obtain ⟨n, rfl, hn⟩ := okWide_int1 (hval 0 34 v0 rfl rfl) Try.underlying34
    obtain ⟨l, hl, ql⟩ := open_rowin (k := .i64) Try.underlying35 (show Try.prog.cellsOf 42 = 4 by kernel_rfl) (by decide) 6 (by kernel_rfl) decS encS decS_enc (hval 1 35 v1 rfl rfl) h1
    obtain ⟨zs2, rfl, hz2, hh2⟩ := okWide_cells (k := .i64) (hval 2 52 v2 rfl rfl) (.inr ⟨_, _, Try.underlying52⟩) (show Try.prog.cellTypes Try.prog.depth 52 = some [3, 3, 3] by kernel_rfl) (by intro u hu; simp at hu; subst hu; exact Try.underlying3)
    replace hz2 : zs2.length = 3 := hz2.trans (by kernel_rfl)
    obtain ⟨x0, x1, x2, rfl⟩ := len3 hz2
    exact law_twice n (u32_has hn).1 (u32_has hn).2 _ l x0 x1 x2 W hl

theorem voucherTwice_holds : Rows.VoucherTwiceSaid :=
  OpenClaim.holds_of_wide 6 Try.f6 rfl rfl rfl rfl rfl rfl rfl ⟨rfl, rfl, rfl, rfl, rfl⟩ rfl rfl rfl rfl rfl (by kernel_rfl) Try.func6 (by kernel_rfl)
    (of_decide_eq_true (by kernel_rfl)) (by unfold Func.isWrapper; first | (rw [if_pos (by decide +kernel)]; kernel_rfl) | (rw [if_neg (by decide +kernel)]; exact ⟨rfl, rfl⟩))
    (fun os started H enc _ => voucherTwice_lifted os started H enc)
#print axioms voucherTwice_holds

set_option maxRecDepth 100000 in
theorem voucherPasses_lifted (os : Os) (started : os.Started) (H : Type) (enc : TypeId × Value → H) :
    ReturnsInHanded {} Try.checked os 9 .any (Rows.voucherPassesSpec.pre6 enc Try.prog Try.f9 Rows.voucherPassesRow.domain false) (Rows.voucherPassesSpec.post enc Try.prog Try.f9 false true false false) := by
  refine law_of_walk (C := Try.checked) (by kernel_rfl) started (by kernel_rfl) Try.func9
    (ChangeSpec.witness6 (enc := enc) (C := Try.checked) false ⟨#[], #[.int .u32 0, .slice none 0 0, .agg #[.int .i64 0, .int .i64 0]], []⟩ 8 (by kernel_rfl) (by kernel_rfl) (by kernel_rfl) (by kernel_rfl))
    (by kernel_rfl) ?_ rfl ?_ rfl Try.underlying4 ?_
  · rw [Try.params9]
    intro t ht
    simp at ht
    rcases ht with rfl | rfl | rfl
    · exact ⟨by kernel_rfl, of_decide_eq_true (by kernel_rfl)⟩
    · exact ⟨by kernel_rfl, of_decide_eq_true (by kernel_rfl)⟩
    · exact ⟨by kernel_rfl, of_decide_eq_true (by kernel_rfl)⟩
  · rw [Try.params9]
    intro ds hds
    match ds, hds with
    | [d0, d1, d2], _ => rfl
  · intro W base args ds ps hval hA hlt
    rw [Try.params9] at hA hval
    obtain ⟨v0, vs0, d0, ds0, p0, q0, hargs, rfl, rfl, h0, r0⟩ := trodAll_cons hA
    obtain ⟨v1, vs1, d1, ds1, p1, q1, rfl, rfl, rfl, h1, r1⟩ := trodAll_cons r0
    obtain ⟨v2, vs2, d2, ds2, p2, q2, rfl, rfl, rfl, h2, r2⟩ := trodAll_cons r1
    obtain ⟨rfl, rfl, rfl⟩ := trodAll_nil r2
    obtain rfl : args = #[v0, v1, v2] := by cases args; simp_all
    obtain ⟨n, rfl, hn⟩ := okWide_int1 (hval 0 34 v0 rfl rfl) Try.underlying34
    obtain ⟨l, hl, ql⟩ := open_rowin (k := .i64) Try.underlying35 (show Try.prog.cellsOf 42 = 4 by kernel_rfl) (by decide) 6 (by kernel_rfl) decS encS decS_enc (hval 1 35 v1 rfl rfl) h1
    obtain ⟨zs2, rfl, hz2, hh2⟩ := okWide_cells (k := .i64) (hval 2 59 v2 rfl rfl) (.inr ⟨_, _, Try.underlying59⟩) (show Try.prog.cellTypes Try.prog.depth 59 = some [3, 3] by kernel_rfl) (by intro u hu; simp at hu; subst hu; exact Try.underlying3)
    replace hz2 : zs2.length = 2 := hz2.trans (by kernel_rfl)
    obtain ⟨x0, x1, rfl⟩ := len2 hz2
    exact law_passes n (u32_has hn).1 (u32_has hn).2 _ l x0 x1 W hl

theorem voucherPasses_holds : Rows.VoucherPassesSaid :=
  OpenClaim.holds_of_wide 9 Try.f9 rfl rfl rfl rfl rfl rfl rfl ⟨rfl, rfl, rfl, rfl, rfl⟩ rfl rfl rfl rfl rfl (by kernel_rfl) Try.func9 (by kernel_rfl)
    (of_decide_eq_true (by kernel_rfl)) (by unfold Func.isWrapper; first | (rw [if_pos (by decide +kernel)]; kernel_rfl) | (rw [if_neg (by decide +kernel)]; exact ⟨rfl, rfl⟩))
    (fun os started H enc _ => voucherPasses_lifted os started H enc)
#print axioms voucherPasses_holds

set_option maxRecDepth 100000 in
theorem voucherNil_lifted (os : Os) (started : os.Started) (H : Type) (enc : TypeId × Value → H) :
    ReturnsInHanded {} Try.checked os 10 .any (Rows.voucherNilSpec.pre6 enc Try.prog Try.f10 Rows.voucherNilRow.domain false) (Rows.voucherNilSpec.post enc Try.prog Try.f10 false true false false) := by
  refine law_of_walk (C := Try.checked) (by kernel_rfl) started (by kernel_rfl) Try.func10
    (ChangeSpec.witness6 (enc := enc) (C := Try.checked) false ⟨#[], #[.agg #[.int .i64 0, .int .i64 0, .int .i64 0, .int .i64 0]], []⟩ 8 (by kernel_rfl) (by kernel_rfl) (by kernel_rfl) (by kernel_rfl))
    (by kernel_rfl) ?_ rfl ?_ rfl Try.underlying4 ?_
  · rw [Try.params10]
    intro t ht
    simp at ht
    subst ht
    exact ⟨by kernel_rfl, of_decide_eq_true (by kernel_rfl)⟩
  · rw [Try.params10]
    intro ds hds
    match ds, hds with
    | [d0], _ => rfl
  · intro W base args ds ps hval hA hlt
    rw [Try.params10] at hA hval
    obtain ⟨v0, vs0, d0, ds0, p0, q0, hargs, rfl, rfl, h0, r0⟩ := trodAll_cons hA
    obtain ⟨rfl, rfl, rfl⟩ := trodAll_nil r0
    obtain rfl : args = #[v0] := by cases args; simp_all
    obtain ⟨zs0, rfl, hz0, hh0⟩ := okWide_cells (k := .i64) (hval 0 61 v0 rfl rfl) (.inr ⟨_, _, Try.underlying61⟩) (show Try.prog.cellTypes Try.prog.depth 61 = some [3, 3, 3, 3] by kernel_rfl) (by intro u hu; simp at hu; subst hu; exact Try.underlying3)
    replace hz0 : zs0.length = 4 := hz0.trans (by kernel_rfl)
    obtain ⟨x0, x1, x2, x3, rfl⟩ := len4 hz0
    exact law_nil x0 x1 x2 x3 W

theorem voucherNil_holds : Rows.VoucherNilSaid :=
  OpenClaim.holds_of_wide 10 Try.f10 rfl rfl rfl rfl rfl rfl rfl ⟨rfl, rfl, rfl, rfl, rfl⟩ rfl rfl rfl rfl rfl (by kernel_rfl) Try.func10 (by kernel_rfl)
    (of_decide_eq_true (by kernel_rfl)) (by unfold Func.isWrapper; first | (rw [if_pos (by decide +kernel)]; kernel_rfl) | (rw [if_neg (by decide +kernel)]; exact ⟨rfl, rfl⟩))
    (fun os started H enc _ => voucherNil_lifted os started H enc)
#print axioms voucherNil_holds

end Go.Proofs.Ytbpeiljpbcgjaaa
