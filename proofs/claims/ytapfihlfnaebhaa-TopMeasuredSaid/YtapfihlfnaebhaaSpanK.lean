/- The plain law of intervals, second part: parts, members, orders. No program in sight. -/
import Derived.Test.YtapfihlfnaebhaaSpanP
namespace Go.Proofs.Ytapfihlfnaebhaa
set_option linter.unusedVariables false
set_option linter.unusedSimpArgs false

/-- x * n / d, rounded down; whether that is exact; rounded up. -/
def dn (x n d : Int) : Int := x * n / d
def exa (x n d : Int) : Bool := decide (x * n % d = 0)
def up (x n d : Int) : Int := -dn (-x) n d
theorem part_math {x n d q r : Int} (hd : 1 ≤ d) (h : x = d * q + r) : q * n + r * n / d = dn x n d ∧ r * n % d = x * n % d := by
  have e : x * n = r * n + d * (q * n) := by rw [h, Int.add_mul, Int.mul_assoc]; omega
  unfold dn
  rw [e, Int.add_mul_ediv_left _ _ (by omega), Int.add_mul_emod_self_left]
  exact ⟨by omega, rfl⟩
theorem up_is {x n d : Int} (hd : 1 ≤ d) : up x n d = if exa x n d = true then dn x n d else dn x n d + 1 := by
  unfold up dn exa
  rw [Int.neg_mul]
  generalize x * n = y
  have h1 := Int.mul_ediv_add_emod y d
  have h2 := Int.emod_nonneg y (show d ≠ 0 by omega)
  have h3 := Int.emod_lt_of_pos y (show 0 < d by omega)
  by_cases h : y % d = 0
  · rw [if_pos (decide_eq_true h)]
    have e : -y = 0 + d * (-(y / d)) := by rw [Int.mul_neg]; omega
    rw [e, Int.add_mul_ediv_left _ _ (by omega)]
    simp
  · rw [if_neg (by simpa using h)]
    have e : -y = (d - y % d) + d * (-(y / d) - 1) := by rw [Int.mul_sub, Int.mul_neg]; omega
    rw [e, Int.add_mul_ediv_left _ _ (by omega), Int.ediv_eq_zero_of_lt (by omega) (by omega)]
    omega
theorem dn_mono {x y n d : Int} (hd : 1 ≤ d) (hn : 0 ≤ n) (h : x ≤ y) : dn x n d ≤ dn y n d := Int.ediv_le_ediv (by omega) (Int.mul_le_mul_of_nonneg_right h hn)
theorem up_mono {x y n d : Int} (hd : 1 ≤ d) (hn : 0 ≤ n) (h : x ≤ y) : up x n d ≤ up y n d := by
  have := dn_mono (x := -y) (y := -x) hd hn (by omega)
  unfold up; omega
theorem dn_up {x n d : Int} (hd : 1 ≤ d) : dn x n d ≤ up x n d := by
  rw [up_is hd]; split <;> omega
theorem dn_bd {x n d : Int} (M : Int) (hM : 0 ≤ M) (hd : 1 ≤ d) (hn : 0 ≤ n) (hnd : n ≤ d) (h1 : -M ≤ x) (h2 : x ≤ M) : -M ≤ dn x n d ∧ dn x n d ≤ M := by
  unfold dn
  constructor
  · rw [Int.le_ediv_iff_mul_le (by omega)]
    have a1 : -M * n ≤ x * n := Int.mul_le_mul_of_nonneg_right h1 hn
    have a2 : M * n ≤ M * d := Int.mul_le_mul_of_nonneg_left hnd hM
    rw [Int.neg_mul] at a1 ⊢
    omega
  · have a1 : x * n ≤ M * n := Int.mul_le_mul_of_nonneg_right h2 hn
    have a2 : M * n ≤ M * d := Int.mul_le_mul_of_nonneg_left hnd hM
    have : x * n / d ≤ M * d / d := Int.ediv_le_ediv (by omega) (by omega)
    rwa [Int.mul_ediv_cancel _ (by omega)] at this

def hasV (s : Sp) (x : Int) : Bool := sval s && decide (s.lo ≤ x ∧ x ≤ s.hi)
theorem hasV_iff {s : Sp} {x : Int} : hasV s x = true ↔ sval s = true ∧ s.lo ≤ x ∧ x ≤ s.hi := by simp [hasV]
theorem sval_iff {s : Sp} : sval s = true ↔ -70368744177664 ≤ s.lo ∧ s.lo ≤ s.hi ∧ s.hi ≤ 70368744177664 := by simp [sval]
def pOK (s : Sp) (n d : Int) : Prop := sval s = true ∧ 1 ≤ d ∧ d ≤ 1073741824 ∧ 0 ≤ n ∧ n ≤ d
instance (s : Sp) (n d : Int) : Decidable (pOK s n d) := by unfold pOK; infer_instance
def partE (s : Sp) (n d : Int) : Int := if pOK s n d then 0 else 1
def partS (s : Sp) (n d : Int) : Sp := if pOK s n d then ⟨dn s.lo n d, up s.hi n d⟩ else sp0
def widE (s : Sp) (b : Int) : Int := if sval s = true ∧ 0 ≤ b ∧ b ≤ 70368744177664 then resE ⟨s.lo - b, s.hi + b⟩ else 1
def widS (s : Sp) (b : Int) : Sp := if sval s = true ∧ 0 ≤ b ∧ b ≤ 70368744177664 then resS ⟨s.lo - b, s.hi + b⟩ else sp0
theorem sound_part {s : Sp} {x n d : Int} (h : partE s n d = 0) (hx : hasV s x = true) : hasV (partS s n d) (dn x n d) = true ∧ hasV (partS s n d) (up x n d) = true := by
  have hp : pOK s n d := by
    unfold partE at h; split at h
    · assumption
    · cases h
  obtain ⟨hv, h1, h2, h3, h4⟩ := hp
  obtain ⟨v1, v2, v3⟩ := sval_iff.1 hv
  obtain ⟨_, x1, x2⟩ := hasV_iff.1 hx
  have m1 := dn_mono h1 h3 x1
  have m2 := up_mono h1 h3 x2
  have m3 := dn_up (x := x) (n := n) h1
  have b1 := dn_bd (x := s.lo) 70368744177664 (by omega) h1 h3 h4 (by omega) (by omega)
  have b2 := dn_bd (x := -s.hi) 70368744177664 (by omega) h1 h3 h4 (by omega) (by omega)
  have b3 : up s.hi n d = -dn (-s.hi) n d := rfl
  have e : partS s n d = ⟨dn s.lo n d, up s.hi n d⟩ := by
    unfold partS; rw [if_pos ⟨hv, h1, h2, h3, h4⟩]
  rw [e]
  constructor
  · rw [hasV_iff, sval_iff]; dsimp only; omega
  · rw [hasV_iff, sval_iff]; dsimp only; omega

theorem resE_iff {s : Sp} : resE s = 0 ↔ sval s = true := by
  unfold resE; split <;> simp_all
theorem resS_of {s : Sp} (h : sval s = true) : resS s = s := by unfold resS; rw [if_pos h]

/-! ### Lists -/
theorem endsV_sum (l : List Sp) : ∀ o : Sp, endsV plus plus o l = ⟨o.lo + (l.map Sp.lo).sum, o.hi + (l.map Sp.hi).sum⟩ := by
  induction l with
  | nil => intro o; simp [endsV]
  | cons s l ih =>
    intro o
    have e : endsV plus plus o (s :: l) = endsV plus plus ⟨plus o.lo s.lo, plus o.hi s.hi⟩ l := rfl
    rw [e, ih]
    simp [plus, Int.add_assoc]
theorem endsV_rot (l : List Sp) (k : Nat) : endsV plus plus sp0 (l.drop k ++ l.take k) = endsV plus plus sp0 l := by
  rw [endsV_sum, endsV_sum]
  simp only [List.map_append, List.sum_append]
  have e1 : (l.map Sp.lo).sum = ((l.take k).map Sp.lo).sum + ((l.drop k).map Sp.lo).sum := by rw [← List.sum_append, ← List.map_append, List.take_append_drop]
  have e2 : (l.map Sp.hi).sum = ((l.take k).map Sp.hi).sum + ((l.drop k).map Sp.hi).sum := by rw [← List.sum_append, ← List.map_append, List.take_append_drop]
  rw [e1, e2]
  simp only [Sp.mk.injEq]
  omega
theorem allV_append (a b : List Sp) : allV (a ++ b) = (allV a && allV b) := by unfold allV; exact List.all_append
theorem allV_rot (l : List Sp) (k : Nat) : allV (l.drop k ++ l.take k) = allV l := by
  rw [allV_append, Bool.and_comm, ← allV_append, List.take_append_drop]
def sumE (l : List Sp) : Int := if l.length > 65536 then 8 else if allV l = true then resE (endsV plus plus sp0 l) else 1
def sumS (l : List Sp) : Sp := if l.length > 65536 then sp0 else if allV l = true then resS (endsV plus plus sp0 l) else sp0
theorem sum_rot (l : List Sp) (k : Nat) : sumE (l.drop k ++ l.take k) = sumE l ∧ sumS (l.drop k ++ l.take k) = sumS l := by
  have hl : (l.drop k ++ l.take k).length = l.length := by simp; omega
  unfold sumE sumS
  rw [hl, allV_rot, endsV_rot]
  exact ⟨rfl, rfl⟩
theorem sumE_iff {l : List Sp} : sumE l = 0 ↔ l.length ≤ 65536 ∧ allV l = true ∧ sval (endsV plus plus sp0 l) = true := by
  unfold sumE
  by_cases h : l.length > 65536
  · rw [if_pos h]; simp; omega
  · rw [if_neg h]
    by_cases h2 : allV l = true
    · rw [if_pos h2, resE_iff]; simp [h2]; omega
    · rw [if_neg h2]; simp [h2]
theorem sumS_of {l : List Sp} (h : sumE l = 0) : sumS l = endsV plus plus sp0 l := by
  obtain ⟨h1, h2, h3⟩ := sumE_iff.1 h
  unfold sumS
  rw [if_neg (by omega), if_pos h2, resS_of h3]
theorem sum_two {l : List Sp} {k : Nat} (h : sumE l = 0) (h1 : sumE (l.take k) = 0) (h2 : sumE (l.drop k) = 0) :
    sval (sumS (l.take k)) = true ∧ sval (sumS (l.drop k)) = true ∧ (⟨(sumS (l.take k)).lo + (sumS (l.drop k)).lo, (sumS (l.take k)).hi + (sumS (l.drop k)).hi⟩ : Sp) = sumS l ∧ sval (sumS l) = true := by
  rw [sumS_of h, sumS_of h1, sumS_of h2]
  refine ⟨(sumE_iff.1 h1).2.2, (sumE_iff.1 h2).2.2, ?_, (sumE_iff.1 h).2.2⟩
  rw [endsV_sum, endsV_sum, endsV_sum]
  have e1 : (l.map Sp.lo).sum = ((l.take k).map Sp.lo).sum + ((l.drop k).map Sp.lo).sum := by rw [← List.sum_append, ← List.map_append, List.take_append_drop]
  have e2 : (l.map Sp.hi).sum = ((l.take k).map Sp.hi).sum + ((l.drop k).map Sp.hi).sum := by rw [← List.sum_append, ← List.map_append, List.take_append_drop]
  rw [e1, e2]
  simp [sp0]

end Go.Proofs.Ytapfihlfnaebhaa
