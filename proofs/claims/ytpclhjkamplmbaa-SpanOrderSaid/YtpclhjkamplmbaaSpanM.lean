/- Contracts: parts of numbers and of intervals. -/
import Derived.Test.YtpclhjkamplmbaaSpanA
import Derived.BigQuiet
namespace Go.Proofs.Ytpclhjkamplmbaa
set_option linter.unusedVariables false
set_option linter.unusedSimpArgs false
open Go.RowKit

theorem w64 {n : Int} (h1 : -9223372036854775808 ≤ n) (h2 : n ≤ 9223372036854775807) : wrap64 n = n := by
  unfold wrap64; omega
theorem mul_bd {q n d M : Int} (hn : 0 ≤ n) (hnd : n ≤ d) (h1 : -M ≤ d * q) (h2 : d * q ≤ M) (hM : 0 ≤ M) : -M ≤ q * n ∧ q * n ≤ M := by
  rw [Int.mul_comm] at h1 h2
  by_cases hq : 0 ≤ q
  · have a := Int.mul_le_mul_of_nonneg_left hnd hq
    have b := Int.mul_nonneg hq hn
    omega
  · have a := Int.mul_le_mul_of_nonpos_left (show q ≤ 0 by omega) hnd
    have b := Int.mul_nonneg (show 0 ≤ -q by omega) hn
    rw [Int.neg_mul] at b
    omega
theorem q_bd {q d M : Int} (hd : 1 ≤ d) (hM : 0 ≤ M) (h1 : -M ≤ d * q) (h2 : d * q ≤ M) : -M ≤ q ∧ q ≤ M := by
  by_cases hq : 0 ≤ q
  · have a := Int.mul_le_mul_of_nonneg_right hd hq
    omega
  · have a := Int.mul_le_mul_of_nonneg_right hd (show 0 ≤ -q by omega)
    simp only [Int.mul_neg, Int.one_mul] at a
    omega
/-- What the program reckons. -/
theorem part_is {x n d q r : Int} (h1 : -70368744177664 ≤ x) (h2 : x ≤ 70368744177664) (h3 : 1 ≤ d) (h4 : d ≤ 1073741824) (h5 : 0 ≤ n) (h6 : n ≤ d) (h : x = d * q + r) (hr : 0 ≤ r) (hr2 : r < d) :
    wrap64 (wrap64 (q * n) + wrap64 ((wrap64 (r * n)).tdiv d)) = dn x n d ∧ ((wrap64 (r * n)).tmod d == 0) = exa x n d := by
  obtain ⟨e1, e2⟩ := part_math (n := n) h3 h
  have b1 := mul_bd (q := q) (M := 70369817919488) h5 h6 (by omega) (by omega) (by omega)
  have b2 : 0 ≤ r * n := Int.mul_nonneg hr h5
  have b3 : r * n ≤ 1073741824 * 1073741824 := Int.mul_le_mul (by omega) (by omega) h5 (by omega)
  have b4 : 0 ≤ r * n / d := Int.ediv_nonneg b2 (by omega)
  have b5 : r * n / d ≤ r * n := Int.ediv_le_self _ b2
  rw [w64 (n := r * n) (by omega) (by omega), Int.tdiv_eq_ediv_of_nonneg b2, Int.tmod_eq_emod_of_nonneg b2, w64 (n := q * n) (by omega) (by omega), w64 (n := r * n / d) (by omega) (by omega), w64 (by omega) (by omega), e1, e2]
  exact ⟨rfl, by unfold exa; rw [Bool.eq_iff_iff]; simp⟩
theorem part_tr {x n d : Int} (h1 : -70368744177664 ≤ x) (h2 : x ≤ 70368744177664) (h3 : 1 ≤ d) (h4 : d ≤ 1073741824) (h5 : 0 ≤ n) (h6 : n ≤ d) :
    (x.tmod d < 0 → wrap64 (wrap64 (wrap64 (x.tdiv d - 1) * n) + wrap64 ((wrap64 (wrap64 (x.tmod d + d) * n)).tdiv d)) = dn x n d ∧ ((wrap64 (wrap64 (x.tmod d + d) * n)).tmod d == 0) = exa x n d) ∧
    (0 ≤ x.tmod d → wrap64 (wrap64 (x.tdiv d * n) + wrap64 ((wrap64 (x.tmod d * n)).tdiv d)) = dn x n d ∧ ((wrap64 (x.tmod d * n)).tmod d == 0) = exa x n d) := by
  have hx := Int.mul_tdiv_add_tmod x d
  have m1 := Int.tmod_lt_of_pos x (show 0 < d by omega)
  have m2 : -d < x.tmod d := by
    have := Int.tmod_lt_of_pos (-x) (show 0 < d by omega)
    rw [Int.neg_tmod] at this
    omega
  generalize x.tdiv d = q at *
  generalize x.tmod d = r at *
  constructor
  · intro hr
    have hq := q_bd (q := q) (M := 70369817919488) h3 (by omega) (by omega) (by omega)
    rw [w64 (n := q - 1) (by omega) (by omega), w64 (n := r + d) (by omega) (by omega)]
    exact part_is h1 h2 h3 h4 h5 h6 (by rw [Int.mul_sub]; omega) (by omega) (by omega)
  · intro hr
    exact part_is h1 h2 h3 h4 h5 h6 (by omega) hr m1
theorem ret_int {k : IntKind} {a b : Int} (h : a = b) : Ending.returned (.int k a) = .returned (.int k b) := by rw [h]

theorem down_any (x n d : Int) (w : World) (h1 : -70368744177664 ≤ x) (h2 : x ≤ 70368744177664) (h3 : 1 ≤ d) (h4 : d ≤ 1073741824) (h5 : 0 ≤ n) (h6 : n ≤ d) :
    Calls Try.prog 32 #[.int .i64 x, .int .i64 n, .int .i64 d] w fun e w' => e = .returned (.int .i64 (dn x n d)) ∧ Below w.heap.size w w' := by
  obtain ⟨k1, k2⟩ := part_tr h1 h2 h3 h4 h5 h6
  have K1 := Lib.hid k1
  have K2 := Lib.hid k2
  clear k1 k2
  by_cases hc : x.tmod d < 0
  · go_enter Try.func32, Try.ntmps32
    go_wp2_with fail
    go_ret
    exact ⟨ret_int (K1.out hc).1, Below.refl _ _⟩
  · have hc' : 0 ≤ x.tmod d := by omega
    clear hc
    go_enter Try.func32, Try.ntmps32
    go_wp2_with fail
    go_ret
    exact ⟨ret_int (K2.out hc').1, Below.refl _ _⟩
theorem up_any (x n d : Int) (w : World) (h1 : -70368744177664 ≤ x) (h2 : x ≤ 70368744177664) (h3 : 1 ≤ d) (h4 : d ≤ 1073741824) (h5 : 0 ≤ n) (h6 : n ≤ d) :
    Calls Try.prog 33 #[.int .i64 x, .int .i64 n, .int .i64 d] w fun e w' => e = .returned (.int .i64 (up x n d)) ∧ Below w.heap.size w w' := by
  have hd := fun w => down_any (-x) n d w (by omega) (by omega) h3 h4 h5 h6
  have hb := dn_bd (x := -x) 70368744177664 (by omega) h3 h5 h6 (by omega) (by omega)
  unfold up
  generalize dn (-x) n d = y at *
  go_enter Try.func33, Try.ntmps33
  go_wp2_with fail
  refine (hd _).mono ?_
  rintro e w1 ⟨rfl, hb1⟩
  go_wp2_with fail
  go_ret
  exact ⟨rfl, hb1⟩
theorem below_drewN {w : World} : ∀ n, Below w.heap.size w (w.drewN n) := by
  intro n
  induction n with
  | zero => exact Below.refl _ _
  | succ n ih => exact ih.drew

theorem part1_any (x n d : Int) (w : World) (h1 : -70368744177664 ≤ x) (h2 : x ≤ 70368744177664) (h3 : 1 ≤ d) (h4 : d ≤ 1073741824) (h5 : 0 ≤ n) (h6 : n ≤ d) :
    Calls Try.prog 41 #[.int .i64 x, .int .i64 n, .int .i64 d] w fun e w' => e = .returned (.tuple #[.int .i64 (dn x n d), .bool (exa x n d)]) ∧ Below w.heap.size w w' := by
  obtain ⟨k1, k2⟩ := part_tr h1 h2 h3 h4 h5 h6
  have K1 := Lib.hid k1
  have K2 := Lib.hid k2
  clear k1 k2
  by_cases hc : x.tmod d < 0
  · go_enter Try.func41, Try.ntmps41
    go_wp2_with fail
    go_quiet (fail)
    go_wp2_with fail
    go_quiet (fail)
    go_wp2_with fail
    refine bodyPost_ret (v := .tuple #[.int .i64 (dn x n d), .bool (exa x n d)]) ?_ rfl ⟨rfl, (below_drewN _).trans ((below_drewN _).mono (below_drewN _).size)⟩
    simp only [results, Try.results41]
    go_simp
    exact ⟨(K1.out hc).1, (K1.out hc).2⟩
  · have hc' : 0 ≤ x.tmod d := by omega
    clear hc
    go_enter Try.func41, Try.ntmps41
    go_wp2_with fail
    go_quiet (fail)
    go_wp2_with fail
    go_quiet (fail)
    go_wp2_with fail
    refine bodyPost_ret (v := .tuple #[.int .i64 (dn x n d), .bool (exa x n d)]) ?_ rfl ⟨rfl, (below_drewN _).trans ((below_drewN _).mono (below_drewN _).size)⟩
    simp only [results, Try.results41]
    go_simp
    exact ⟨(K2.out hc').1, (K2.out hc').2⟩

end Go.Proofs.Ytpclhjkamplmbaa
