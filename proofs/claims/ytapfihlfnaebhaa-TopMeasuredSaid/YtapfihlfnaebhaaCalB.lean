/- Bits: the number of ones as the library computes it; the program's sets of bits. No program in sight. -/
import Derived.Test.YtapfihlfnaebhaaCalP
import Derived.WalkKit
namespace Go.Proofs.Ytapfihlfnaebhaa
set_option linter.unusedVariables false
set_option linter.unusedSimpArgs false
open Go

/-- The number of ones of a small number, as the library computes it. -/
def ones1 (x : Nat) : Nat := (x / 2 &&& 6148914691236517205) + (x &&& 6148914691236517205)
def ones2 (x : Nat) : Nat := (x / 4 &&& 3689348814741910323) + (x &&& 3689348814741910323)
def ones3 (x : Nat) : Nat := (x / 16 + x) &&& 1085102592571150095
def ones4 (x : Nat) : Nat := x + x / 256
def ones5 (x : Nat) : Nat := x + x / 65536
def ones6 (x : Nat) : Nat := x + x / 4294967296
def ones (x : Nat) : Nat := ones6 (ones5 (ones4 (ones3 (ones2 (ones1 x))))) &&& 127
/-- All numbers from b on, 2 ^ d of them, have c ones and those of their last d bits. -/
def onesAll : Nat → Nat → Nat → Bool
  | 0, b, c => Nat.beq (ones b) c
  | d + 1, b, c => onesAll d b c && onesAll d (b + 2 ^ d) (c + 1)
/-- The ones among the last d bits. -/
def pc : Nat → Nat → Nat
  | 0, _ => 0
  | d + 1, v => (if v.testBit d = true then 1 else 0) + pc d v
theorem onesAll_at : ∀ d b c v, onesAll d b c = true → v < 2 ^ d → ones (b + v) = c + pc d v
  | 0, b, c, v, h, hv => by
    obtain rfl : v = 0 := by simpa using hv
    exact Nat.eq_of_beq_eq_true h
  | d + 1, b, c, v, h, hv => by
    rw [onesAll, Bool.and_eq_true] at h
    rw [pc]
    rw [Nat.pow_succ] at hv
    by_cases hd : v < 2 ^ d
    · have hb : v.testBit d = false := Nat.testBit_lt_two_pow hd
      rw [hb, if_neg (by simp), Nat.zero_add]
      exact onesAll_at d b c v h.1 hd
    · have hb : v.testBit d = true := by
        rw [Nat.testBit_eq_decide_div_mod_eq]
        have : v / 2 ^ d = 1 := Nat.div_eq_of_lt_le (by omega) (by omega)
        rw [this]; rfl
      rw [hb, if_pos rfl]
      have hpc : ∀ m, m ≤ d → pc m v = pc m (v - 2 ^ d) := by
        intro m
        induction m with
        | zero => intro _; rfl
        | succ m ih =>
          intro hm
          rw [pc, pc, ih (by omega)]
          have e : v = 2 ^ d + (v - 2 ^ d) := by omega
          have : v.testBit m = (v - 2 ^ d).testBit m := by
            conv => lhs; rw [e]
            rw [Nat.testBit_two_pow_add_gt (by omega)]
          rw [this]
      have := onesAll_at d (b + 2 ^ d) (c + 1) (v - 2 ^ d) h.2 (by omega)
      rw [hpc d (Nat.le_refl _)]
      rw [show b + v = b + 2 ^ d + (v - 2 ^ d) by omega, this]
      omega
set_option maxRecDepth 1000000 in
theorem onesAll_16 : onesAll 16 0 0 = true := by decide +kernel
theorem ones_pc {v : Nat} (h : v < 65536) : ones v = pc 16 v := by
  have := onesAll_at 16 0 0 v onesAll_16 h
  simpa using this
theorem pc_small {n v : Nat} (h : v < 2 ^ n) : ∀ m, n ≤ m → pc m v = pc n v := by
  intro m
  induction m with
  | zero => intro hm; obtain rfl : n = 0 := by omega
            rfl
  | succ m ih =>
    intro hm
    by_cases e : n = m + 1
    · rw [e]
    · rw [pc, Nat.testBit_lt_two_pow (Nat.lt_of_lt_of_le h (Nat.pow_le_pow_right (by omega) (by omega))), if_neg (by simp), Nat.zero_add]
      exact ih (by omega)
/-- The members of a set, first element at the highest bit, are its ones. -/
theorem mems_pc {n v : Nat} : ∀ m s, s + m = n → (mems (setP n v) s m).length = pc m v
  | 0, _, _ => rfl
  | m + 1, s, h => by
    have ih := mems_pc (n := n) (v := v) m (s + 1) (by omega)
    unfold mems pc
    have e : setP n v s = v.testBit m := by unfold setP; congr 1; omega
    rw [e, ← ih]
    cases v.testBit m
    · simp
    · simp; omega
theorem ones_mems {n v : Nat} (hn : n ≤ 16) (h : v < 2 ^ n) : ones v = (mems (setP n v) 0 n).length := by
  have h16 : v < 65536 := Nat.lt_of_lt_of_le h (Nat.le_trans (Nat.pow_le_pow_right (by omega) hn) (by decide))
  rw [mems_pc n 0 (by omega), ones_pc h16, pc_small h 16 hn]

/-! ### The operators on ints and on words that are not negative -/
theorem i64_nat {a : Nat} (h : a < 9223372036854775808) : (BitVec.ofInt 64 (a : Int)) = BitVec.ofNat 64 a := by rw [BitVec.ofInt_natCast]
theorem wrap_i64n {a : Nat} (h : a < 9223372036854775808) : IntKind.i64.wrap (a : Int) = a := by
  simp [IntKind.wrap, IntKind.bits, IntKind.signed]; omega
theorem i64_and {a b : Nat} (ha : a < 9223372036854775808) (hb : b < 9223372036854775808) : bits .and .i64 (a : Int) (b : Int) = ((a &&& b : Nat) : Int) := by
  show IntKind.i64.wrap ((BitVec.ofInt 64 (a : Int) &&& BitVec.ofInt 64 (b : Int)).toNat : Int) = _
  rw [BitVec.toNat_and, i64_nat ha, i64_nat hb, BitVec.toNat_ofNat, BitVec.toNat_ofNat, Nat.mod_eq_of_lt (by omega), Nat.mod_eq_of_lt (by omega)]
  exact wrap_i64n (Nat.lt_of_le_of_lt Nat.and_le_left ha)
theorem i64_or {a b : Nat} (ha : a < 9223372036854775808) (hb : b < 9223372036854775808) : bits .or .i64 (a : Int) (b : Int) = ((a ||| b : Nat) : Int) := by
  show IntKind.i64.wrap ((BitVec.ofInt 64 (a : Int) ||| BitVec.ofInt 64 (b : Int)).toNat : Int) = _
  rw [BitVec.toNat_or, i64_nat ha, i64_nat hb, BitVec.toNat_ofNat, BitVec.toNat_ofNat, Nat.mod_eq_of_lt (by omega), Nat.mod_eq_of_lt (by omega)]
  exact wrap_i64n (show _ < 2 ^ 63 from Nat.or_lt_two_pow (by omega) (by omega))
theorem u64_and {a b : Nat} (ha : a < 18446744073709551616) (hb : b < 18446744073709551616) : bits .and .u64 (a : Int) (b : Int) = ((a &&& b : Nat) : Int) := by
  have h : a &&& b < 18446744073709551616 := Nat.lt_of_le_of_lt Nat.and_le_left ha
  show IntKind.u64.wrap ((BitVec.ofInt 64 (a : Int) &&& BitVec.ofInt 64 (b : Int)).toNat : Int) = _
  rw [BitVec.toNat_and, BitVec.ofInt_natCast, BitVec.ofInt_natCast, BitVec.toNat_ofNat, BitVec.toNat_ofNat, Nat.mod_eq_of_lt (by omega), Nat.mod_eq_of_lt (by omega)]
  simp [IntKind.wrap, IntKind.bits, IntKind.signed]; omega

end Go.Proofs.Ytapfihlfnaebhaa
