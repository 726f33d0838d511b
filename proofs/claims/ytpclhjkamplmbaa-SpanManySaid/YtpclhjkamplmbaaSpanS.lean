/- Lemmas that the laws of intervals share; the plain law of members. -/
import Derived.Test.YtpclhjkamplmbaaSpanR
import Derived.Test.YtpclhjkamplmbaaSpanJ
import Derived.Test.YtpclhjkamplmbaaSpanQ
import Derived.Test.YtpclhjkamplmbaaLaw
import Derived.Test.YtpclhjkamplmbaaRows
import Derived.Test.YtpclhjkamplmbaaChecked
namespace Go.Proofs.Ytpclhjkamplmbaa
set_option linter.unusedVariables false
set_option linter.unusedSimpArgs false
open Go.ChangeShapes Go.WideShapes Go.ChangeAt Go.RowKit

theorem len1 {α : Type} {l : List α} (h : l.length = 1) : ∃ a, l = [a] := match l, h with | [a], _ => ⟨a, rfl⟩
def decP (x : List Int) : Sp := ⟨x.getD 0 0, x.getD 1 0⟩
theorem decP_enc : ∀ x : List Int, x.length = 2 → encP (decP x) = x.map (Value.int .i64)
  | [_, _], _ => rfl
theorem calls2 {P : Program} {f : FuncId} {args : Array Value} {w : World} {S T : Sp} {E F : Int} (h : Calls P f args w fun e w' => e = .returned (.tuple #[.agg #[.int .i64 (S).lo, .int .i64 (S).hi], .int .i64 (E)]) ∧ Below w.heap.size w w') (h1 : E = F) (h2 : S = T) :
    Calls P f args w fun e w' => e = .returned (.tuple #[.agg #[.int .i64 (T).lo, .int .i64 (T).hi], .int .i64 (F)]) ∧ Below w.heap.size w w' := by
  subst h1 h2; exact h
theorem common_no {a b : Sp} (h : sval a = false ∨ sval b = false) : rmeetE a b = 1 ∧ rhullE a b = 1 := by
  unfold rmeetE rhullE
  have : ¬ (sval a = true ∧ sval b = true) := by rcases h with h | h <;> simp [h]
  rw [if_neg this, if_neg this]
  exact ⟨rfl, rfl⟩
theorem common_yes {a b : Sp} (va : sval a = true) (vb : sval b = true) (x : Int) : rhullE a b = 0 ∧ ((rmeetE a b = 0 ∧ hasV (rmeetS a b) x = (hasV a x && hasV b x)) ∨ (rmeetE a b = 10 ∧ (hasV a x && hasV b x) = false)) ∧
    ((hasV a x || hasV b x) = true → hasV (rhullS a b) x = true) ∧ ((rhullS a b).lo = a.lo ∨ (rhullS a b).lo = b.lo) ∧ ((rhullS a b).hi = a.hi ∨ (rhullS a b).hi = b.hi) := by
  have h : sval a = true ∧ sval b = true := ⟨va, vb⟩
  obtain ⟨a1, a2, a3⟩ := sval_true va
  obtain ⟨b1, b2, b3⟩ := sval_true vb
  unfold rmeetE rhullE rmeetS rhullS
  rw [if_pos h, if_pos h, if_pos h, if_pos h]
  have m : (rmS a b).lo = maxi a.lo b.lo ∧ (rmS a b).hi = mini a.hi b.hi ∧ (rhS a b).lo = mini a.lo b.lo ∧ (rhS a b).hi = maxi a.hi b.hi := ⟨rfl, rfl, rfl, rfl⟩
  obtain ⟨m1, m2, m3, m4⟩ := m
  have q1 : maxi a.lo b.lo = a.lo ∧ b.lo ≤ a.lo ∧ mini a.lo b.lo = b.lo ∨ maxi a.lo b.lo = b.lo ∧ a.lo ≤ b.lo ∧ mini a.lo b.lo = a.lo := by unfold maxi mini; split <;> omega
  have q2 : maxi a.hi b.hi = a.hi ∧ b.hi ≤ a.hi ∧ mini a.hi b.hi = b.hi ∨ maxi a.hi b.hi = b.hi ∧ a.hi ≤ b.hi ∧ mini a.hi b.hi = a.hi := by unfold maxi mini; split <;> omega
  refine ⟨rfl, ?_, ?_, by omega, by omega⟩
  · by_cases hg : (rmS a b).lo > (rmS a b).hi
    · rw [if_pos hg, if_pos hg]
      refine .inr ⟨rfl, ?_⟩
      rw [Bool.eq_false_iff]
      simp only [ne_eq, Bool.and_eq_true, hasV_iff]
      omega
    · rw [if_neg hg, if_neg hg]
      refine .inl ⟨rfl, ?_⟩
      rw [Bool.eq_iff_iff]
      simp only [Bool.and_eq_true, hasV_iff, sval_iff]
      omega
  · simp only [Bool.or_eq_true, hasV_iff, sval_iff]
    omega
theorem sound_add {a b : Sp} {x y : Int} (hx : hasV a x = true) (hy : hasV b y = true) : (raddE a b = 0 → hasV (raddS a b) (x + y) = true) ∧ (rsubE a b = 0 → hasV (rsubS a b) (x - y) = true) := by
  have h1 := hasV_iff.1 hx
  have h2 := hasV_iff.1 hy
  have h : sval a = true ∧ sval b = true := ⟨h1.1, h2.1⟩
  unfold raddE rsubE raddS rsubS
  rw [if_pos h, if_pos h, if_pos h, if_pos h]
  constructor
  · intro he
    have hv := resE_iff.1 he
    rw [resS_of hv, hasV_iff]
    refine ⟨hv, ?_, ?_⟩ <;> dsimp only <;> omega
  · intro he
    have hv := resE_iff.1 he
    rw [resS_of hv, hasV_iff]
    refine ⟨hv, ?_, ?_⟩ <;> dsimp only <;> omega
theorem maxi_ge {a b : Int} (h : b ≤ a) : maxi a b = a := by unfold maxi; split <;> omega
theorem exact_add {a b : Sp} {z : Int} (he : raddE a b = 0) (h : hasV (raddS a b) z = true) : sval a = true ∧ sval b = true ∧ -140737488355328 ≤ z ∧ z ≤ 140737488355328 ∧ hasV a (maxi a.lo (z - b.hi)) = true ∧ hasV b (z - maxi a.lo (z - b.hi)) = true := by
  by_cases hv : sval a = true ∧ sval b = true
  · unfold raddE at he; unfold raddS at h
    rw [if_pos hv] at he h
    have hv2 := resE_iff.1 he
    rw [resS_of hv2, hasV_iff] at h
    have a1 := sval_iff.1 hv.1
    have b1 := sval_iff.1 hv.2
    have s1 := sval_iff.1 hv2
    dsimp only at h s1
    refine ⟨hv.1, hv.2, by omega, by omega, ?_, ?_⟩
    · rw [hasV_iff]; refine ⟨hv.1, ?_⟩; unfold maxi; split <;> omega
    · rw [hasV_iff]; refine ⟨hv.2, ?_⟩; unfold maxi; split <;> omega
  · unfold raddE at he; rw [if_neg hv] at he; omega
theorem exact_sub {a b : Sp} {z : Int} (he : rsubE a b = 0) (h : hasV (rsubS a b) z = true) : sval a = true ∧ sval b = true ∧ -140737488355328 ≤ z ∧ z ≤ 140737488355328 ∧ hasV a (maxi a.lo (z + b.lo)) = true ∧ hasV b (maxi a.lo (z + b.lo) - z) = true := by
  by_cases hv : sval a = true ∧ sval b = true
  · unfold rsubE at he; unfold rsubS at h
    rw [if_pos hv] at he h
    have hv2 := resE_iff.1 he
    rw [resS_of hv2, hasV_iff] at h
    have a1 := sval_iff.1 hv.1
    have b1 := sval_iff.1 hv.2
    have s1 := sval_iff.1 hv2
    dsimp only at h s1
    refine ⟨hv.1, hv.2, by omega, by omega, ?_, ?_⟩
    · rw [hasV_iff]; refine ⟨hv.1, ?_⟩; unfold maxi; split <;> omega
    · rw [hasV_iff]; refine ⟨hv.2, ?_⟩; unfold maxi; split <;> omega
  · unfold rsubE at he; rw [if_neg hv] at he; omega

end Go.Proofs.Ytpclhjkamplmbaa
