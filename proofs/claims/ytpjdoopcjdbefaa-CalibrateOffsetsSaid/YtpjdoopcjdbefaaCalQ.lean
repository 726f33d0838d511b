/- The plain law of the moments at which a scale needs calibration. No program in sight. -/
import Derived.Test.YtpjdoopcjdbefaaScaleP
namespace Go.Proofs.Ytpjdoopcjdbefaa
set_option linter.unusedVariables false
set_option linter.unusedSimpArgs false

theorem bnd_zero (c d e f t : Int) : bnd c d e f 0 t = c + e * begun f t := by
  unfold bnd
  rw [Int.zero_mul]
  omega
/-- Up to the last moment the error is at most the limit. -/
theorem until_ok {c e f limit t : Int} (he : 1 ≤ e) (ht : t ≤ f + (limit - c) / e * 86400) : c + e * begun f t ≤ limit := by
  have h1 : begun f t ≤ (limit - c) / e := by unfold begun; omega
  have h2 : e * begun f t ≤ e * ((limit - c) / e) := Int.mul_le_mul_of_nonneg_left h1 (by omega)
  have h3 := Int.mul_ediv_self_le (x := limit - c) (k := e) (by omega)
  omega
/-- One second later it is greater. -/
theorem until_next {c e f limit : Int} (he : 1 ≤ e) : limit < c + e * begun f (f + (limit - c) / e * 86400 + 1) := by
  have h1 : begun f (f + (limit - c) / e * 86400 + 1) = (limit - c) / e + 1 := by unfold begun; omega
  have h3 := Int.lt_mul_ediv_self_add (x := limit - c) (k := e) (by omega)
  rw [h1, Int.mul_add]
  omega
theorem until_base {c f limit t : Int} (hc : c ≤ limit) : c + 0 * begun f t ≤ limit := by omega

end Go.Proofs.Ytpjdoopcjdbefaa
