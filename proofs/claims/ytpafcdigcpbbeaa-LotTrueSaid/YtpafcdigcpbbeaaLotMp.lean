/- The plain law of LotMany: so many lots of one gram, and one made of them. No program in sight. -/
import Derived.Test.YtpafcdigcpbbeaaLotS
namespace Go.Proofs.Ytpafcdigcpbbeaa
set_option linter.unusedVariables false
set_option linter.unusedSimpArgs false
open Go

def mnL (i : Nat) : Lv := ⟨i + 1, 0, 1, 1, .slice none 0 0, []⟩
def mnP (i : Nat) : Pt := ⟨i + 1, 1, 1⟩
def ptsM (M : Nat) : List Pt := (List.range M).map mnP
def madeL (M : Nat) (pv : Value) : Lv := ⟨1000, 0, 0, 100, pv, ptsM M⟩
def lotsM (N : Nat) : List Lv := (List.range N).map mnL
def LM (N M : Nat) (pv : Value) : List Lv := lotsM N ++ [madeL M pv]
theorem ptsM_succ (M : Nat) : ptsM (M + 1) = ptsM M ++ [mnP M] := by unfold ptsM; rw [List.range_succ, List.map_append]; rfl
theorem lotsM_succ (N : Nat) : lotsM (N + 1) = lotsM N ++ [mnL N] := by unfold lotsM; rw [List.range_succ, List.map_append]; rfl
theorem ptsM_len (M : Nat) : (ptsM M).length = M := by simp [ptsM]
theorem lotsM_len (N : Nat) : (lotsM N).length = N := by simp [lotsM]
section
variable {N M : Nat} {pv : Value}
theorem LM_len : (LM N M pv).length = N + 1 := by simp [LM, lotsM_len]
theorem LM_at {k : Nat} (h : k < N) : (LM N M pv).getD k lv0 = mnL k := by
  unfold LM
  rw [List.getD_eq_getElem?_getD, List.getElem?_append_left (by rw [lotsM_len]; exact h)]
  simp [lotsM, h]
theorem LM_last : (LM N M pv).getD N lv0 = madeL M pv := by
  unfold LM
  rw [List.getD_eq_getElem?_getD, List.getElem?_append_right (by rw [lotsM_len]; exact Nat.le_refl _), lotsM_len, Nat.sub_self]
  rfl
theorem ptsM_at {k : Nat} (h : k < M) : (ptsM M).getD k pt0 = mnP k := by
  rw [List.getD_eq_getElem?_getD]; simp [ptsM, h]
theorem LM_kn {k : Nat} (hk : k ≤ N) (y : Int) : (kn (LM N M pv) k y).isSome = true ↔ 1 ≤ y ∧ y ≤ k := by
  rw [kn_some]
  constructor
  · rintro ⟨j, h1, h2⟩
    rw [LM_at (by omega)] at h2
    unfold mnL at h2
    dsimp only at h2
    omega
  · rintro ⟨h1, h2⟩
    refine ⟨(y - 1).toNat, by omega, ?_⟩
    rw [LM_at (by omega)]
    unfold mnL
    dsimp only
    omega
theorem mn_one {K : Int → Bool} {k : Nat} (hk : k < 512) : oneE K (mnL k) = 0 := by
  have h1 : headE (mnL k) = 0 := by
    unfold headE mnL
    dsimp only
    rw [if_neg (by omega), if_neg (by omega), if_neg (by simp [mOk]), if_neg (by simp)]
  unfold oneE
  rw [h1, if_neg (by simp)]
  simp [mnL, firstE, dupP, balE]
theorem LM_lots (hN : N ≤ 512) : ∀ k, k ≤ N → lotsE (LM N M pv) k = 0
  | 0, _ => rfl
  | k + 1, hk => by
    unfold lotsE
    rw [LM_lots hN k (by omega), if_neg (by simp), LM_at (by omega)]
    exact mn_one (by omega)
theorem sums_M : ∀ M, sumLo (ptsM M) = M ∧ sumHi (ptsM M) = M
  | 0 => ⟨rfl, rfl⟩
  | M + 1 => by
    obtain ⟨h1, h2⟩ := sums_M M
    unfold sumLo sumHi at *
    rw [ptsM_succ, List.foldl_append, List.foldl_append, h1, h2]
    simp [mnP]
theorem dup_M : ∀ k, k ≤ M → dupP (ptsM M) k = false
  | 0, _ => rfl
  | k + 1, hk => by
    unfold dupP
    rw [dup_M k (by omega), Bool.false_or, ptsM_at (by omega), ← Bool.not_eq_true, seenP_iff]
    rintro ⟨j, h1, h2⟩
    rw [ptsM_at (by omega)] at h2
    unfold mnP at h2
    dsimp only at h2
    omega
theorem made_one {K : Int → Bool} (hM : M ≤ 10) (hK : ∀ i, i < M → K ((i : Int) + 1) = true) : oneE K (madeL M pv) = if M > 8 then 8 else 0 := by
  have h1 : headE (madeL M pv) = if M > 8 then 8 else 0 := by
    unfold headE madeL
    dsimp only
    rw [if_neg (by omega), if_neg (by omega), if_neg (by simp [mOk]), ptsM_len]
  unfold oneE
  by_cases h : M > 8
  · rw [h1, if_pos h, if_pos (by decide)]
  · rw [h1, if_neg h, if_neg (by simp)]
    have h2 : firstE (ptE K) (madeL M pv).parts = 0 := firstE_zero fun p hp => by
      obtain ⟨i, hi, rfl⟩ := List.mem_map.1 (show p ∈ (List.range M).map mnP from hp)
      rw [ptE_ok]
      exact ⟨hK i (List.mem_range.1 hi), by simp [mnP, mOk]⟩
    rw [h2, if_neg (by simp), show (madeL M pv).parts = ptsM M from rfl, ptsM_len, dup_M M (Nat.le_refl _), if_neg (by simp)]
    obtain ⟨s1, s2⟩ := sums_M M
    unfold balE madeL
    dsimp only
    rw [s1, s2, if_neg (by omega)]
theorem LM_nodup (hN : N ≤ 511) : nodup (LM N M pv) (N + 1) = true := by
  have h1 : ∀ k, k ≤ N → nodup (LM N M pv) k = true := by
    intro k
    induction k with
    | zero => intro _; rfl
    | succ k ih =>
      intro hk
      unfold nodup
      rw [ih (by omega), Bool.true_and, LM_at (by omega)]
      have : ¬ (kn (LM N M pv) k (mnL k).id).isSome = true := fun h => by
        have := (LM_kn (by omega) _).1 h
        unfold mnL at this
        dsimp only at this
        omega
      simpa using this
  unfold nodup
  rw [h1 N (Nat.le_refl _), Bool.true_and, LM_last]
  have : ¬ (kn (LM N M pv) N (madeL M pv).id).isSome = true := fun h => by
    have := (LM_kn (Nat.le_refl _) _).1 h
    unfold madeL at this
    dsimp only at this
    omega
  simpa using this
theorem tkP_M (y : Int) : ∀ M, (tkP y sp0 (ptsM M)).lo = if 1 ≤ y ∧ y ≤ M then 1 else 0
  | 0 => by rw [if_neg (by omega)]; rfl
  | M + 1 => by
    have ih := tkP_M y M
    unfold tkP at *
    rw [ptsM_succ, List.foldl_append]
    show (addP y ((ptsM M).foldl (addP y) sp0) (mnP M)).lo = _
    have hs : ∀ s, addP y s (mnP M) = if ((M : Int) + 1) = y then ⟨s.lo + 1, s.hi + 1⟩ else s := fun s => rfl
    rw [hs]
    by_cases e : ((M : Int) + 1) = y
    · rw [if_pos e]
      dsimp only
      rw [ih, if_neg (by omega), if_pos (by omega)]; rfl
    · rw [if_neg e, ih]
      by_cases e2 : 1 ≤ y ∧ y ≤ M
      · rw [if_pos e2, if_pos (by omega)]
      · rw [if_neg e2, if_neg (by omega)]
theorem LM_tk (y : Int) : (tk (LM N M pv) y).lo = if 1 ≤ y ∧ y ≤ M then 1 else 0 := by
  have h1 : tk (lotsM N) y = sp0 := by
    induction N with
    | zero => rfl
    | succ N ih =>
      unfold tk at *
      rw [lotsM_succ, List.foldl_append, ih]; rfl
  have h2 : tk (LM N M pv) y = tkP y sp0 (ptsM M) := by
    unfold LM
    unfold tk at *
    rw [List.foldl_append, h1]; rfl
  rw [h2, tkP_M]
theorem LM_over : ∀ k, k ≤ N + 1 → overE (LM N M pv) k = 0
  | 0, _ => rfl
  | k + 1, hk => by
    unfold overE
    rw [LM_over k (by omega), if_neg (by simp), LM_tk]
    by_cases e : k < N
    · rw [LM_at e]
      unfold mnL
      dsimp only
      rw [if_neg (by split <;> omega)]
    · obtain rfl : k = N := by omega
      rw [LM_last]
      unfold madeL
      dsimp only
      rw [if_neg (by split <;> omega)]
theorem LM_chk (hN : N ≤ 514) (hM : M ≤ 10) (hMN : M ≤ N) : chkL (LM N M pv) = if N + 1 > 512 ∨ M > 8 then 8 else 0 := by
  unfold chkL
  rw [LM_len]
  by_cases h1 : N + 1 > 512
  · rw [if_pos h1, if_pos (.inl h1)]
  · rw [if_neg h1]
    have hl : lotsE (LM N M pv) (N + 1) = if M > 8 then 8 else 0 := by
      unfold lotsE
      rw [LM_lots (by omega) N (Nat.le_refl _), if_neg (by simp), LM_last]
      exact made_one hM fun i hi => (LM_kn (Nat.le_refl _) _).2 (by omega)
    by_cases h2 : M > 8
    · rw [hl, if_pos h2, if_pos (by decide), if_pos (.inr h2)]
    · rw [hl, if_neg h2, if_neg (by simp), LM_nodup (by omega), if_neg (by simp), LM_over _ (Nat.le_refl _), if_neg (by omega)]
end

end Go.Proofs.Ytpafcdigcpbbeaa
