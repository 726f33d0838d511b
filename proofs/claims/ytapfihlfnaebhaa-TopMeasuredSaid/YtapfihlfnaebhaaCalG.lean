/- Contracts: the number of ones; the bit of a scale. -/
import Derived.Test.YtapfihlfnaebhaaProg
import Derived.Test.YtapfihlfnaebhaaCalB
import Derived.Test.YtapfihlfnaebhaaArgs
namespace Go.Proofs.Ytapfihlfnaebhaa
set_option linter.unusedVariables false
set_option linter.unusedSimpArgs false
open Go.RowKit

theorem ones_lt {v : Nat} (h : v < 65536) : ones1 v < 131072 ∧ ones2 (ones1 v) < 262144 ∧ ones3 (ones2 (ones1 v)) < 524288 := by
  have h1 : ones1 v ≤ 98303 := by
    have a := Nat.and_le_left (n := v / 2) (m := 6148914691236517205)
    have b := Nat.and_le_left (n := v) (m := 6148914691236517205)
    unfold ones1; omega
  have h2 : ones2 (ones1 v) ≤ 131072 := by
    have a := Nat.and_le_left (n := ones1 v / 4) (m := 3689348814741910323)
    have b := Nat.and_le_left (n := ones1 v) (m := 3689348814741910323)
    unfold ones2; omega
  have h3 : ones3 (ones2 (ones1 v)) ≤ 163840 := by
    have a := Nat.and_le_left (n := ones2 (ones1 v) / 16 + ones2 (ones1 v)) (m := 1085102592571150095)
    unfold ones3; omega
  omega
theorem wrap_u64n {a : Nat} (h : a < 18446744073709551616) : IntKind.u64.wrap (a : Int) = a := by
  simp [IntKind.wrap, IntKind.bits, IntKind.signed]; omega
theorem step1 {v : Nat} (h : v < 18446744073709551616 / 4) (k m : Nat) (hm : m < 18446744073709551616) (hk : 1 ≤ k) : IntKind.u64.wrap (bits .and .u64 ((v : Int) / (k : Int)) (m : Int) + bits .and .u64 (v : Int) (m : Int)) = (((v / k &&& m) + (v &&& m) : Nat) : Int) := by
  have e : ((v : Int) / (k : Int)) = ((v / k : Nat) : Int) := by simp
  have hd : v / k ≤ v := Nat.div_le_self _ _
  rw [e, u64_and (by omega) hm, u64_and (by omega) hm, ← Int.natCast_add]
  have a := Nat.and_le_left (n := v / k) (m := m)
  have b := Nat.and_le_left (n := v) (m := m)
  exact wrap_u64n (by omega)
theorem step3 {v : Nat} (h : v < 18446744073709551616 / 4) : bits .and .u64 (IntKind.u64.wrap ((v : Int) / 16 + (v : Int))) 1085102592571150095 = ((ones3 v : Nat) : Int) := by
  have e : ((v : Int) / 16 + (v : Int)) = ((v / 16 + v : Nat) : Int) := by simp
  rw [e, wrap_u64n (by omega)]
  exact u64_and (b := 1085102592571150095) (by omega) (by decide)
theorem step4 {v : Nat} (h : v < 18446744073709551616 / 4) (k : Nat) : IntKind.u64.wrap ((v : Int) + (v : Int) / (k : Int)) = ((v + v / k : Nat) : Int) := by
  have e : ((v : Int) + (v : Int) / (k : Int)) = ((v + v / k : Nat) : Int) := by simp
  have := Nat.div_le_self v k
  rw [e, wrap_u64n (by omega)]
set_option maxHeartbeats 1000000 in
theorem ones64_any (v : Nat) (h : v < 65536) (w : World) : Calls Try.prog 72 #[.int .u64 (v : Int)] w fun e w' => e = .returned (.int .i64 (ones v : Nat)) ∧ w' = w := by
  obtain ⟨l1, l2, l3⟩ := ones_lt h
  have e1 : IntKind.u64.wrap (bits .and .u64 ((v : Int) / 2) 6148914691236517205 + bits .and .u64 (v : Int) 6148914691236517205) = ((ones1 v : Nat) : Int) := step1 (by omega) 2 6148914691236517205 (by decide) (by decide)
  have e2 : IntKind.u64.wrap (bits .and .u64 ((ones1 v : Nat) / 4 : Int) 3689348814741910323 + bits .and .u64 ((ones1 v : Nat) : Int) 3689348814741910323) = ((ones2 (ones1 v) : Nat) : Int) := step1 (by omega) 4 3689348814741910323 (by decide) (by decide)
  have e3 := step3 (v := ones2 (ones1 v)) (by omega)
  have e3' : bits .and .u64 (((ones2 (ones1 v) : Nat) : Int) / 16 + ((ones2 (ones1 v) : Nat) : Int)) 1085102592571150095 = ((ones3 (ones2 (ones1 v)) : Nat) : Int) := by
    have := wrap_u64n (a := ones2 (ones1 v) / 16 + ones2 (ones1 v)) (by omega)
    rw [← e3, show ((ones2 (ones1 v) : Nat) : Int) / 16 + ((ones2 (ones1 v) : Nat) : Int) = ((ones2 (ones1 v) / 16 + ones2 (ones1 v) : Nat) : Int) by simp, this]
  have e4 : IntKind.u64.wrap (((ones3 (ones2 (ones1 v)) : Nat) : Int) + ((ones3 (ones2 (ones1 v)) : Nat) : Int) / 256) = ((ones4 (ones3 (ones2 (ones1 v))) : Nat) : Int) := step4 (by omega) 256
  have l4 : ones4 (ones3 (ones2 (ones1 v))) < 1048576 := by
    have := Nat.div_le_self (ones3 (ones2 (ones1 v))) 256
    unfold ones4; omega
  have e5 : IntKind.u64.wrap (((ones4 (ones3 (ones2 (ones1 v))) : Nat) : Int) + ((ones4 (ones3 (ones2 (ones1 v))) : Nat) : Int) / 65536) = ((ones5 (ones4 (ones3 (ones2 (ones1 v)))) : Nat) : Int) := step4 (by omega) 65536
  have l5 : ones5 (ones4 (ones3 (ones2 (ones1 v)))) < 2097152 := by
    have := Nat.div_le_self (ones4 (ones3 (ones2 (ones1 v)))) 65536
    unfold ones5; omega
  have e6 : IntKind.u64.wrap (((ones5 (ones4 (ones3 (ones2 (ones1 v)))) : Nat) : Int) + ((ones5 (ones4 (ones3 (ones2 (ones1 v)))) : Nat) : Int) / 4294967296) = ((ones6 (ones5 (ones4 (ones3 (ones2 (ones1 v))))) : Nat) : Int) := step4 (by omega) 4294967296
  have l6 : ones6 (ones5 (ones4 (ones3 (ones2 (ones1 v))))) < 4194304 := by
    have := Nat.div_le_self (ones5 (ones4 (ones3 (ones2 (ones1 v))))) 4294967296
    unfold ones6; omega
  have e7 : IntKind.i64.wrap ((ones6 (ones5 (ones4 (ones3 (ones2 (ones1 v))))) : Nat) : Int) = ((ones6 (ones5 (ones4 (ones3 (ones2 (ones1 v))))) : Nat) : Int) := wrap_i64n (by omega)
  have e8 : bits .and .i64 ((ones6 (ones5 (ones4 (ones3 (ones2 (ones1 v))))) : Nat) : Int) 127 = ((ones v : Nat) : Int) := i64_and (b := 127) (by omega) (by decide)
  generalize ones v = R at *
  generalize ones6 (ones5 (ones4 (ones3 (ones2 (ones1 v))))) = A6 at *
  generalize ones5 (ones4 (ones3 (ones2 (ones1 v)))) = A5 at *
  generalize ones4 (ones3 (ones2 (ones1 v))) = A4 at *
  generalize ones3 (ones2 (ones1 v)) = A3 at *
  generalize ones2 (ones1 v) = A2 at *
  generalize ones1 v = A1 at *
  go_enter Try.func72, Try.ntmps72
  go_wp2_with fail
  go_ret
  refine ⟨?_, rfl⟩
  first | rfl | (simp [e1, e2, e3, e3', e4, e5, e6, e7, e8]; done)
set_option maxHeartbeats 1000000 in
theorem ones0_any (v : Nat) (h : v < 65536) (w : World) : Calls Try.prog 55 #[.int .u64 (v : Int)] w fun e w' => e = .returned (.int .i64 (ones v : Nat)) ∧ w' = w := by
  have ho := fun w => ones64_any v h w
  go_enter Try.func55, Try.ntmps55
  go_wp2_with fail
  refine (ho _).mono ?_
  rintro e w1 ⟨rfl, rfl⟩
  go_wp2_with fail
  go_ret
  exact ⟨rfl, rfl⟩
/-- The bit of the scale i among n. -/
theorem bit_any {w : World} {b : Nat} (n i : Nat) (h : i < n) (hn : n ≤ 16) (hc : w.cell? ⟨b, 0, none⟩ = some (.int .i64 (n : Int))) : Calls Try.prog 54 #[.int .i64 (i : Int), .pointer (some ⟨b, 0, none⟩)] w fun e w' => e = .returned (.int .i64 (2 ^ (n - 1 - i) : Nat)) ∧ w' = w := by
  obtain ⟨d, hd⟩ : ∃ d : Nat, d = n - 1 - i := ⟨_, rfl⟩
  have h1 : (n : Int) - 1 - i = d := by omega
  have h2 : (0 : Int) ≤ d ∧ (d : Int) ≤ 16 := by omega
  rw [← hd]
  have hp : (2 : Nat) ^ d ≤ 2 ^ 16 := Nat.pow_le_pow_right (by omega) (by omega)
  obtain ⟨h3, h4⟩ := h2
  have h5 : (0 : Int) ≤ (n : Int) - 1 := by omega
  have h6 : (n : Int) ≤ 16 := by omega
  go_enter Try.func54, Try.ntmps54
  go_wp2_with fail
  go_ret
  refine ⟨?_, rfl⟩
  have e : (2 : Int) ^ (n - 1 - i) = ((2 ^ d : Nat) : Int) := by rw [← hd]; simp
  have e2 : wrap64 ((2 ^ d : Nat) : Int) = ((2 ^ d : Nat) : Int) := by
    have hp' : (2 : Nat) ^ d ≤ 65536 := hp
    generalize (2 : Nat) ^ d = x at *
    unfold wrap64; omega
  rw [e, e2]
  rfl

end Go.Proofs.Ytapfihlfnaebhaa
