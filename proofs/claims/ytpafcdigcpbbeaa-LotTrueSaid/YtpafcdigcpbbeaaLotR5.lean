/- LotTrue: if every lot and every part has a true mass within its interval, what is left of a lot lies in the interval of Left: for every input. -/
import Derived.Test.YtpafcdigcpbbeaaLotTw
import Derived.Test.YtpafcdigcpbbeaaRows
import Derived.Test.YtpafcdigcpbbeaaLaw
import Derived.Test.YtpafcdigcpbbeaaChecked
namespace Go.Proofs.Ytpafcdigcpbbeaa
set_option linter.unusedVariables false
set_option linter.unusedSimpArgs false
open Go.ChangeShapes Go.WideShapes Go.ChangeAt Go.RowKit

theorem u8_bd {n : Int} (h : IntKind.u8.has n) : 0 ≤ n ∧ n ≤ 255 := by
  have h1 : (0 : Int) ≤ n := h.1
  have h2 : n ≤ 255 := h.2
  exact ⟨h1, h2⟩
theorem u16_bd {n : Int} (h : IntKind.u16.has n) : 0 ≤ n ∧ n ≤ 65535 := by
  have h1 : (0 : Int) ≤ n := h.1
  have h2 : n ≤ 65535 := h.2
  exact ⟨h1, h2⟩
def decG (x : List Int) : Gv := ⟨x.getD 0 0, x.getD 1 0, x.getD 2 0, x.getD 3 0, x.getD 4 0, x.getD 5 0⟩
theorem decG_enc (x : List Int) (h : x.length = 6) : encG (decG x) = x.map (Value.int .u16) := by
  obtain ⟨a, b, c, d, e, f, rfl⟩ := len6 h
  rfl
theorem decG_ok {l : List Gv} (q : ∀ a ∈ l, ∃ x : List Int, x.length = 6 ∧ (∀ z ∈ x, IntKind.u16.has z) ∧ a = decG x) : ∀ g ∈ l, GvOk g := fun g hg => by
  obtain ⟨x, hx, hz, rfl⟩ := q g hg
  obtain ⟨a, b, c, d, e, f, rfl⟩ := len6 hx
  exact ⟨u16_bd (hz a (by simp)), u16_bd (hz b (by simp)), u16_bd (hz c (by simp)), u16_bd (hz d (by simp)), u16_bd (hz e (by simp)), u16_bd (hz f (by simp))⟩

set_option maxRecDepth 100000 in
theorem lotTrue_lifted (os : Os) (started : os.Started) (H : Type) (enc : TypeId × Value → H) :
    ReturnsInHanded {} Try.checked os 8 .any (Rows.lotTrueSpec.pre6 enc Try.prog Try.f8 Rows.lotTrueRow.domain false) (Rows.lotTrueSpec.post enc Try.prog Try.f8 false true false false) := by
  refine law_of_walk (C := Try.checked) (by kernel_rfl) started (by kernel_rfl) Try.func8
    (ChangeSpec.witness6 (enc := enc) (C := Try.checked) false ⟨#[], #[.slice none 0 0, .int .u8 0], []⟩ 8 (by kernel_rfl) (by kernel_rfl) (by kernel_rfl) (by kernel_rfl))
    (by kernel_rfl) ?_ rfl ?_ rfl Try.underlying4 ?_
  · rw [Try.params8]
    intro t ht
    simp at ht
    rcases ht with rfl | rfl
    · exact ⟨by kernel_rfl, of_decide_eq_true (by kernel_rfl)⟩
    · exact ⟨by kernel_rfl, of_decide_eq_true (by kernel_rfl)⟩
  · rw [Try.params8]
    intro ds hds
    match ds, hds with
    | [d0, d1], _ => rfl
  · intro W base args ds ps hval hA hlt
    rw [Try.params8] at hA hval
    obtain ⟨v0, vs0, d0, ds0, p0, q0, hargs, rfl, rfl, h0, r0⟩ := trodAll_cons hA
    obtain ⟨v1, vs1, d1, ds1, p1, q1, rfl, rfl, rfl, h1, r1⟩ := trodAll_cons r0
    obtain ⟨rfl, rfl, rfl⟩ := trodAll_nil r1
    obtain rfl : args = #[v0, v1] := by cases args; simp_all
    obtain ⟨n, hn, qn⟩ := open_rowin (k := .u16) Try.underlying48 (show Try.prog.cellsOf 50 = 6 by kernel_rfl) (by decide) 6 (by kernel_rfl) decG encG decG_enc (hval 0 48 v0 rfl rfl) h0
    obtain ⟨a, rfl, ha⟩ := okWide_int1 (hval 1 5 v1 rfl rfl) Try.underlying5
    exact law_true hn (decG_ok qn) a (u8_bd ha)

theorem lotTrue_holds : Rows.LotTrueSaid :=
  OpenClaim.holds_of_wide 8 Try.f8 rfl rfl rfl rfl rfl rfl rfl ⟨rfl, rfl, rfl, rfl, rfl⟩ rfl rfl rfl rfl rfl (by kernel_rfl) Try.func8 (by kernel_rfl)
    (of_decide_eq_true (by kernel_rfl)) (by unfold Func.isWrapper; first | (rw [if_pos (by decide +kernel)]; kernel_rfl) | (rw [if_neg (by decide +kernel)]; exact ⟨rfl, rfl⟩))
    (fun os started H enc _ => lotTrue_lifted os started H enc)
#print axioms lotTrue_holds

end Go.Proofs.Ytpafcdigcpbbeaa
