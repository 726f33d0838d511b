/- CalibrateConflicts: the conflicts of any pairs; CalibrateTimes: whether any scale needs calibration, and until when it does not. -/
import Derived.Test.YtpjdoopcjdbefaaCalO
import Derived.Test.YtpjdoopcjdbefaaRows
import Derived.Test.YtpjdoopcjdbefaaChecked
namespace Go.Proofs.Ytpjdoopcjdbefaa
set_option linter.unusedVariables false
set_option linter.unusedSimpArgs false
open Go.ChangeShapes Go.WideShapes Go.ChangeAt Go.RowKit

def decS (x : List Int) : Sc := ⟨x.getD 0 0, x.getD 1 0, x.getD 2 0, x.getD 3 0, x.getD 4 0, x.getD 5 0⟩
theorem decS_enc (x : List Int) (h : x.length = 6) : encS (decS x) = x.map (Value.int .i64) := by
  obtain ⟨a, b, c, d, e, f, rfl⟩ := len6 h
  rfl
def decQ (x : List Int) : Pr := ⟨x.getD 0 0, x.getD 1 0, x.getD 2 0, x.getD 3 0, x.getD 4 0⟩
theorem decQ_enc (x : List Int) (h : x.length = 5) : encQ (decQ x) = x.map (Value.int .i64) := by
  obtain ⟨a, b, c, d, e, rfl⟩ := len5 h
  rfl

set_option maxRecDepth 100000 in
theorem calibrateConflicts_lifted (os : Os) (started : os.Started) (H : Type) (enc : TypeId × Value → H) :
    ReturnsInHanded {} Try.checked os 3 .any (Rows.calibrateConflictsSpec.pre6 enc Try.prog Try.f3 Rows.calibrateConflictsRow.domain false) (Rows.calibrateConflictsSpec.post enc Try.prog Try.f3 false true false false) := by
  refine law_of_walk (C := Try.checked) (by kernel_rfl) started (by kernel_rfl) Try.func3
    (ChangeSpec.witness6 (enc := enc) (C := Try.checked) false ⟨#[], #[.slice none 0 0, .slice none 0 0], []⟩ 8 (by kernel_rfl) (by kernel_rfl) (by kernel_rfl) (by kernel_rfl))
    (by kernel_rfl) ?_ rfl ?_ rfl Try.underlying4 ?_
  · rw [Try.params3]
    intro t ht
    simp at ht
    rcases ht with rfl | rfl
    · exact ⟨by kernel_rfl, of_decide_eq_true (by kernel_rfl)⟩
    · exact ⟨by kernel_rfl, of_decide_eq_true (by kernel_rfl)⟩
  · rw [Try.params3]
    intro ds hds
    match ds, hds with
    | [d0, d1], _ => rfl
  · intro W base args ds ps hval hA hlt
    rw [Try.params3] at hA hval
    obtain ⟨v0, vs0, d0, ds0, p0, q0, hargs, rfl, rfl, h0, r0⟩ := trodAll_cons hA
    obtain ⟨v1, vs1, d1, ds1, p1, q1, rfl, rfl, rfl, h1, r1⟩ := trodAll_cons r0
    obtain ⟨rfl, rfl, rfl⟩ := trodAll_nil r1
    obtain rfl : args = #[v0, v1] := by cases args; simp_all
    obtain ⟨s, hs, qs⟩ := open_rowin (k := .i64) Try.underlying22 (show Try.prog.cellsOf 32 = 6 by kernel_rfl) (by decide) 6 (by kernel_rfl) decS encS decS_enc (hval 0 22 v0 rfl rfl) h0
    obtain ⟨l, hl, ql⟩ := open_rowin (k := .i64) Try.underlying23 (show Try.prog.cellsOf 44 = 5 by kernel_rfl) (by decide) 6 (by kernel_rfl) decQ encQ decQ_enc (hval 1 23 v1 rfl rfl) h1
    exact law_conf hs hl

theorem calibrateConflicts_holds : Rows.CalibrateConflictsSaid :=
  OpenClaim.holds_of_wide 3 Try.f3 rfl rfl rfl rfl rfl rfl rfl ⟨rfl, rfl, rfl, rfl, rfl⟩ rfl rfl rfl rfl rfl (by kernel_rfl) Try.func3 (by kernel_rfl)
    (of_decide_eq_true (by kernel_rfl)) (by unfold Func.isWrapper; first | (rw [if_pos (by decide +kernel)]; kernel_rfl) | (rw [if_neg (by decide +kernel)]; exact ⟨rfl, rfl⟩))
    (fun os started H enc _ => calibrateConflicts_lifted os started H enc)
#print axioms calibrateConflicts_holds

set_option maxRecDepth 100000 in
theorem calibrateTimes_lifted (os : Os) (started : os.Started) (H : Type) (enc : TypeId × Value → H) :
    ReturnsInHanded {} Try.checked os 9 .any (Rows.calibrateTimesSpec.pre6 enc Try.prog Try.f9 Rows.calibrateTimesRow.domain false) (Rows.calibrateTimesSpec.post enc Try.prog Try.f9 false true false false) := by
  refine law_of_walk (C := Try.checked) (by kernel_rfl) started (by kernel_rfl) Try.func9
    (ChangeSpec.witness6 (enc := enc) (C := Try.checked) false ⟨#[], #[.agg #[.int .i64 0, .int .i64 0, .int .i64 0, .int .i64 0, .int .i64 0, .int .i64 0], .int .i64 0, .int .i64 0], []⟩ 8 (by kernel_rfl) (by kernel_rfl) (by kernel_rfl) (by kernel_rfl))
    (by kernel_rfl) ?_ rfl ?_ rfl Try.underlying4 ?_
  · rw [Try.params9]
    intro t ht
    simp at ht
    rcases ht with rfl | rfl
    · exact ⟨by kernel_rfl, of_decide_eq_true (by kernel_rfl)⟩
    · exact ⟨by kernel_rfl, of_decide_eq_true (by kernel_rfl)⟩
  · rw [Try.params9]
    intro ds hds
    match ds, hds with
    | [d0, d1, d2], _ => rfl
  · intro W base args ds ps hval hA hlt
    rw [Try.params9] at hA hval
    obtain ⟨v0, vs0, d0, ds0, p0, q0, hargs, rfl, rfl, h0, r0⟩ := trodAll_cons hA
    obtain ⟨v1, vs1, d1, ds1, p1, q1, rfl, rfl, rfl, h1, r1⟩ := trodAll_cons r0
    obtain ⟨v2, vs2, d2, ds2, p2, q2, rfl, rfl, rfl, h2, r2⟩ := trodAll_cons r1
    obtain ⟨rfl, rfl, rfl⟩ := trodAll_nil r2
    obtain rfl : args = #[v0, v1, v2] := by cases args; simp_all
    obtain ⟨zs0, rfl, hz0, hh0⟩ := okWide_cells (k := .i64) (hval 0 32 v0 rfl rfl) (.inl ⟨_, Try.underlying32⟩) (show Try.prog.cellTypes Try.prog.depth 32 = some [3, 3, 3, 3, 3, 3] by kernel_rfl) (by intro u hu; simp at hu; subst hu; exact Try.underlying3)
    replace hz0 : zs0.length = 6 := hz0.trans (by kernel_rfl)
    obtain ⟨sa, sb, sc, sd, se, sf, rfl⟩ := len6 hz0
    obtain ⟨t, rfl, ht⟩ := okWide_int1 (hval 1 3 v1 rfl rfl) Try.underlying3
    obtain ⟨lim, rfl, hlim⟩ := okWide_int1 (hval 2 3 v2 rfl rfl) Try.underlying3
    exact law_times ⟨sa, sb, sc, sd, se, sf⟩ t lim

theorem calibrateTimes_holds : Rows.CalibrateTimesSaid :=
  OpenClaim.holds_of_wide 9 Try.f9 rfl rfl rfl rfl rfl rfl rfl ⟨rfl, rfl, rfl, rfl, rfl⟩ rfl rfl rfl rfl rfl (by kernel_rfl) Try.func9 (by kernel_rfl)
    (of_decide_eq_true (by kernel_rfl)) (by unfold Func.isWrapper; first | (rw [if_pos (by decide +kernel)]; kernel_rfl) | (rw [if_neg (by decide +kernel)]; exact ⟨rfl, rfl⟩))
    (fun os started H enc _ => calibrateTimes_lifted os started H enc)
#print axioms calibrateTimes_holds

end Go.Proofs.Ytpjdoopcjdbefaa
