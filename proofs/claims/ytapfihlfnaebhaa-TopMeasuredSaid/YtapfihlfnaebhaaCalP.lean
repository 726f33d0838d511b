/- The plain law of suspects: the smallest sets that meet all conflicts, in the order of the program and in that of the reference. No program in sight. -/
namespace Go.Proofs.Ytapfihlfnaebhaa
set_option linter.unusedVariables false
set_option linter.unusedSimpArgs false

/-- The members of a set among the first n numbers from s on. -/
def mems (S : Nat → Bool) : Nat → Nat → List Nat
  | _, 0 => []
  | s, n + 1 => if S s = true then s :: mems S (s + 1) n else mems S (s + 1) n
/-- The set as a number whose highest bit is the first element. -/
def numR (S : Nat → Bool) : Nat → Nat → Nat
  | _, 0 => 0
  | s, n + 1 => (if S s = true then 2 ^ n else 0) + numR S (s + 1) n
theorem numR_lt (S : Nat → Bool) : ∀ n s, numR S s n < 2 ^ n
  | 0, s => by simp [numR]
  | n + 1, s => by
    have := numR_lt S n (s + 1)
    simp only [numR, Nat.pow_succ]
    split <;> omega
/-- The lexicographic order of lists of the same length. -/
def lexL : List Nat → List Nat → Bool
  | x :: a, y :: b => if x ≠ y then decide (x < y) else lexL a b
  | _, _ => false
def lessL (a b : List Nat) : Bool := if a.length ≠ b.length then decide (a.length < b.length) else lexL a b
theorem mems_ge (S : Nat → Bool) : ∀ n s, ∀ x ∈ mems S s n, s ≤ x
  | 0, s, x, h => by simp [mems] at h
  | n + 1, s, x, h => by
    unfold mems at h
    split at h
    · rcases List.mem_cons.1 h with rfl | h
      · exact Nat.le_refl _
      · have := mems_ge S n (s + 1) x h; omega
    · have := mems_ge S n (s + 1) x h; omega
/-- Of two sets with the same number of members, the lexicographically less one is the greater number. -/
theorem lex_num (S T : Nat → Bool) : ∀ n s, (mems S s n).length = (mems T s n).length → (lexL (mems S s n) (mems T s n) = true ↔ numR T s n < numR S s n)
  | 0, s, _ => by simp [mems, numR, lexL]
  | n + 1, s, h => by
    have ih := lex_num S T n (s + 1)
    have hS := numR_lt S n (s + 1)
    have hT := numR_lt T n (s + 1)
    unfold mems at h ⊢
    unfold numR
    by_cases c1 : S s = true <;> by_cases c2 : T s = true
    · rw [if_pos c1, if_pos c2] at *
      rw [if_pos c1, if_pos c2]
      simp only [List.length_cons, Nat.add_right_cancel_iff] at h
      unfold lexL
      rw [if_neg (by simp), ih h]
      omega
    · rw [if_pos c1, if_neg c2] at *
      rw [if_pos c1, if_neg c2]
      have hlt : numR T (s + 1) n < 2 ^ n + numR S (s + 1) n := by omega
      constructor
      · intro _; omega
      · intro _
        cases hm : mems T (s + 1) n with
        | nil => rw [hm] at h; simp at h
        | cons y b =>
          have := mems_ge T n (s + 1) y (by rw [hm]; simp)
          unfold lexL
          rw [if_pos (by omega)]
          exact decide_eq_true (by omega)
    · rw [if_neg c1, if_pos c2] at *
      rw [if_neg c1, if_pos c2]
      constructor
      · intro hl
        cases hm : mems S (s + 1) n with
        | nil => rw [hm] at h; simp at h
        | cons y b =>
          have := mems_ge S n (s + 1) y (by rw [hm]; simp)
          rw [hm] at hl
          unfold lexL at hl
          rw [if_pos (by omega)] at hl
          have := of_decide_eq_true hl
          omega
      · intro _; omega
    · rw [if_neg c1, if_neg c2] at *
      rw [if_neg c1, if_neg c2]
      rw [ih h]
      omega

/-! ### The program's search, from the greatest number down -/
def stepP (cov : Nat → Bool) (cnt : Nat → Nat) (v best : Nat) : Nat := if cov v = true ∧ cnt v < cnt best then v else best
/-- The best set behind the first j sets. -/
def scanP (cov : Nat → Bool) (cnt : Nat → Nat) (N : Nat) : Nat → Nat
  | 0 => N - 1
  | j + 1 => stepP cov cnt (N - 1 - j) (scanP cov cnt N j)
theorem scanP_min {cov : Nat → Bool} {cnt : Nat → Nat} {N : Nat} (hN : 1 ≤ N) (h0 : cov (N - 1) = true) : ∀ j, j ≤ N →
    scanP cov cnt N j < N ∧ (j = 0 ∨ N - j ≤ scanP cov cnt N j) ∧ cov (scanP cov cnt N j) = true ∧ (j = 0 → scanP cov cnt N j = N - 1) ∧
      ∀ v, N - j ≤ v → v < N → cov v = true → ¬ (cnt v < cnt (scanP cov cnt N j) ∨ (cnt v = cnt (scanP cov cnt N j) ∧ scanP cov cnt N j < v))
  | 0, _ => ⟨by simp [scanP]; omega, .inl rfl, h0, fun _ => rfl, fun v h1 h2 => by omega⟩
  | j + 1, hj => by
    obtain ⟨i1, i2, i3, i4, i5⟩ := scanP_min (cov := cov) (cnt := cnt) hN h0 j (by omega)
    rw [scanP]
    generalize scanP cov cnt N j = b at *
    unfold stepP
    by_cases hc : cov (N - 1 - j) = true ∧ cnt (N - 1 - j) < cnt b
    · rw [if_pos hc]
      refine ⟨by omega, .inr (by omega), hc.1, fun h => by omega, fun v h1 h2 h3 => ?_⟩
      by_cases hv : v = N - 1 - j
      · subst hv; omega
      · have := i5 v (by omega) h2 h3
        omega
    · rw [if_neg hc]
      refine ⟨i1, .inr (by omega), i3, fun h => by omega, fun v h1 h2 h3 => ?_⟩
      by_cases hv : v = N - 1 - j
      · subst hv
        have : ¬ cnt (N - 1 - j) < cnt b := fun hl => hc ⟨h3, hl⟩
        rcases Nat.eq_zero_or_pos j with hz | hz
        · have := i4 hz
          subst hz
          omega
        · omega
      · exact i5 v (by omega) h2 h3

/-! ### The order of lists -/
theorem lexL_irrefl : ∀ a : List Nat, lexL a a = false
  | [] => rfl
  | x :: a => by unfold lexL; rw [if_neg (by simp)]; exact lexL_irrefl a
theorem lexL_total : ∀ a b : List Nat, a.length = b.length → lexL a b = false → lexL b a = false → a = b
  | [], [], _, _, _ => rfl
  | [], y :: b, h, _, _ => by simp at h
  | x :: a, [], h, _, _ => by simp at h
  | x :: a, y :: b, h, h1, h2 => by
    unfold lexL at h1 h2
    by_cases e : x = y
    · subst e
      rw [if_neg (by simp)] at h1 h2
      rw [lexL_total a b (by simpa using h) h1 h2]
    · rw [if_pos e] at h1
      rw [if_pos (Ne.symm e)] at h2
      have h1' := of_decide_eq_false h1
      have h2' := of_decide_eq_false h2
      omega
theorem lessL_total {a b : List Nat} (h1 : lessL a b = false) (h2 : lessL b a = false) : a = b := by
  unfold lessL at h1 h2
  by_cases e : a.length = b.length
  · rw [if_neg (by simpa using e)] at h1
    rw [if_neg (by simpa using e.symm)] at h2
    exact lexL_total a b e h1 h2
  · rw [if_pos e] at h1
    rw [if_pos (Ne.symm e)] at h2
    have h1' := of_decide_eq_false h1
    have h2' := of_decide_eq_false h2
    omega
theorem lessL_irrefl (a : List Nat) : lessL a a = false := by
  unfold lessL; rw [if_neg (by simp)]; exact lexL_irrefl a
theorem lexL_trans : ∀ a b c : List Nat, lexL a b = true → lexL b c = true → lexL a c = true
  | [], _, _, h, _ => by simp [lexL] at h
  | x :: a, [], _, h, _ => by simp [lexL] at h
  | x :: a, y :: b, [], _, h => by simp [lexL] at h
  | x :: a, y :: b, z :: c, h1, h2 => by
    unfold lexL at h1 h2 ⊢
    by_cases e1 : x = y
    · subst e1
      rw [if_neg (by simp)] at h1
      by_cases e2 : x = z
      · subst e2
        rw [if_neg (by simp)] at h2 ⊢
        exact lexL_trans a b c h1 h2
      · rw [if_pos e2] at h2 ⊢; exact h2
    · rw [if_pos e1] at h1
      have h1' := of_decide_eq_true h1
      by_cases e2 : y = z
      · subst e2
        rw [if_pos e1]; exact h1
      · rw [if_pos e2] at h2
        have h2' := of_decide_eq_true h2
        rw [if_pos (by omega)]
        exact decide_eq_true (by omega)
theorem lexL_len : ∀ a b : List Nat, lexL a b = true → True := fun _ _ _ => trivial
theorem lessL_trans {a b c : List Nat} (h1 : lessL a b = true) (h2 : lessL b c = true) : lessL a c = true := by
  unfold lessL at *
  by_cases e1 : a.length = b.length
  · rw [if_neg (by simpa using e1)] at h1
    by_cases e2 : b.length = c.length
    · rw [if_neg (by simpa using e2)] at h2
      rw [if_neg (by simpa using e1.trans e2)]
      exact lexL_trans a b c h1 h2
    · rw [if_pos e2] at h2
      rw [if_pos (by omega)]
      have := of_decide_eq_true h2
      exact decide_eq_true (by omega)
  · rw [if_pos e1] at h1
    have h1' := of_decide_eq_true h1
    by_cases e2 : b.length = c.length
    · rw [if_pos (by omega)]
      exact decide_eq_true (by omega)
    · rw [if_pos e2] at h2
      have := of_decide_eq_true h2
      rw [if_pos (by omega)]
      exact decide_eq_true (by omega)

/-! ### The reference's search, from the empty set up -/
def stepR (cov : Nat → Bool) (mem : Nat → List Nat) (v : Nat) (b : Option (List Nat)) : Option (List Nat) :=
  if cov v = true then (match b with | none => some (mem v) | some x => if lessL (mem v) x = true then some (mem v) else some x) else b
def scanR (cov : Nat → Bool) (mem : Nat → List Nat) : Nat → Option (List Nat)
  | 0 => none
  | k + 1 => stepR cov mem k (scanR cov mem k)
theorem scanR_min {cov : Nat → Bool} {mem : Nat → List Nat} : ∀ k, (scanR cov mem k = none → ∀ v, v < k → cov v = false) ∧
    ∀ x, scanR cov mem k = some x → (∃ u, u < k ∧ cov u = true ∧ x = mem u) ∧ ∀ v, v < k → cov v = true → lessL (mem v) x = false
  | 0 => ⟨fun _ v h => absurd h (Nat.not_lt_zero _), fun x h => by cases h⟩
  | k + 1 => by
    obtain ⟨i1, i2⟩ := scanR_min (cov := cov) (mem := mem) k
    rw [scanR]
    unfold stepR
    cases hc : cov k with
    | false =>
      rw [if_neg (by simp)]
      refine ⟨fun h v hv => ?_, fun x h => ?_⟩
      · by_cases e : v = k
        · subst e; exact hc
        · exact i1 h v (by omega)
      · obtain ⟨⟨u, hu, hcu, hx⟩, h2⟩ := i2 x h
        refine ⟨⟨u, by omega, hcu, hx⟩, fun v hv hcv => ?_⟩
        by_cases e : v = k
        · subst e; rw [hc] at hcv; cases hcv
        · exact h2 v (by omega) hcv
    | true =>
      rw [if_pos rfl]
      cases hb : scanR cov mem k with
      | none =>
        refine ⟨fun h => (by cases h), fun x h => ?_⟩
        injection h with h
        subst h
        refine ⟨⟨k, by omega, hc, rfl⟩, fun v hv hcv => ?_⟩
        by_cases e : v = k
        · subst e; exact lessL_irrefl _
        · have := i1 hb v (by omega); rw [this] at hcv; cases hcv
      | some y =>
        obtain ⟨⟨u, hu, hcu, hy⟩, h2⟩ := i2 y hb
        dsimp only
        by_cases hl : lessL (mem k) y = true
        · rw [if_pos hl]
          refine ⟨fun h => (by cases h), fun x h => ?_⟩
          injection h with h
          subst h
          refine ⟨⟨k, by omega, hc, rfl⟩, fun v hv hcv => ?_⟩
          by_cases e : v = k
          · subst e; exact lessL_irrefl _
          · rw [Bool.eq_false_iff]
            intro hvk
            have := lessL_trans hvk hl
            rw [h2 v (by omega) hcv] at this; cases this
        · rw [if_neg hl]
          refine ⟨fun h => (by cases h), fun x h => ?_⟩
          injection h with h
          subst h
          refine ⟨⟨u, by omega, hcu, hy⟩, fun v hv hcv => ?_⟩
          by_cases e : v = k
          · subst e; exact Bool.eq_false_iff.2 hl
          · exact h2 v (by omega) hcv

/-! ### Sets of bits, in both orders -/
def setP (n v : Nat) : Nat → Bool := fun i => v.testBit (n - 1 - i)
def setR (v : Nat) : Nat → Bool := fun i => v.testBit i
theorem mems_congr {S T : Nat → Bool} : ∀ n s, (∀ i, s ≤ i → i < s + n → S i = T i) → mems S s n = mems T s n
  | 0, _, _ => rfl
  | n + 1, s, h => by
    unfold mems
    rw [h s (Nat.le_refl _) (by omega), mems_congr n (s + 1) fun i h1 h2 => h i (by omega) (by omega)]
theorem numR_bits {v : Nat} {S : Nat → Bool} : ∀ m s, (∀ i, s ≤ i → i < s + m → S i = v.testBit (s + m - 1 - i)) → numR S s m = v % 2 ^ m
  | 0, s, _ => by simp [numR, Nat.mod_one]
  | m + 1, s, h => by
    have ih := numR_bits (v := v) (S := S) m (s + 1) fun i h1 h2 => by rw [h i (by omega) (by omega)]; congr 1; omega
    have hs := h s (Nat.le_refl _) (by omega)
    rw [show s + (m + 1) - 1 - s = m by omega] at hs
    unfold numR
    rw [ih, hs, Nat.pow_succ, Nat.mod_mul, Nat.testBit_eq_decide_div_mod_eq]
    rcases Nat.mod_two_eq_zero_or_one (v / 2 ^ m) with e | e
    · rw [e]; simp
    · rw [e]; simp; omega
theorem numR_setP {n v : Nat} (h : v < 2 ^ n) : numR (setP n v) 0 n = v := by
  rw [numR_bits (v := v) n 0 fun i _ h2 => by unfold setP; congr 1; omega, Nat.mod_eq_of_lt h]
theorem bits_of : ∀ (m : Nat) (T : Nat → Bool), ∃ v, v < 2 ^ m ∧ ∀ i, i < m → v.testBit i = T i
  | 0, T => ⟨0, by simp, fun v hv => absurd hv (Nat.not_lt_zero _)⟩
  | m + 1, T => by
    obtain ⟨s, hs, hv⟩ := bits_of m fun v => T (v + 1)
    refine ⟨2 * s + (if T 0 = true then 1 else 0), ?_, fun v hlt => ?_⟩
    · rw [Nat.pow_succ]; split <;> omega
    · cases v with
      | zero =>
        rw [Nat.testBit_zero]
        cases T 0 <;> simp <;> omega
      | succ v =>
        rw [Nat.testBit_succ]
        have : (2 * s + (if T 0 = true then 1 else 0)) / 2 = s := by split <;> omega
        rw [this]
        exact hv v (by omega)
/-- Every conflict has a scale of the set. -/
def covS (C : List (Nat × Nat)) (S : Nat → Bool) : Bool := C.all fun p => S p.1 || S p.2
theorem covS_congr {n : Nat} {C : List (Nat × Nat)} (hC : ∀ p ∈ C, p.1 < n ∧ p.2 < n) {S T : Nat → Bool} (h : ∀ i, i < n → S i = T i) : covS C S = covS C T := by
  induction C with
  | nil => rfl
  | cons p C ih =>
    have hp := hC p (by simp)
    have := ih fun q hq => hC q (by simp [hq])
    unfold covS at this ⊢
    rw [List.all_cons, List.all_cons, this, h _ hp.1, h _ hp.2]
def bestP (n : Nat) (C : List (Nat × Nat)) : Nat := scanP (fun v => covS C (setP n v)) (fun v => (mems (setP n v) 0 n).length) (2 ^ n) (2 ^ n)
def bestR (n : Nat) (C : List (Nat × Nat)) : Option (List Nat) := scanR (fun v => covS C (setR v)) (fun v => mems (setR v) 0 n) (2 ^ n)
/-- Both searches find the same set. -/
theorem best_same {n : Nat} {C : List (Nat × Nat)} (hC : ∀ p ∈ C, p.1 < n ∧ p.2 < n) : bestR n C = some (mems (setP n (bestP n C)) 0 n) ∧ covS C (setP n (bestP n C)) = true ∧ bestP n C < 2 ^ n ∧
    ∀ S : Nat → Bool, covS C S = true → lessL (mems S 0 n) (mems (setP n (bestP n C)) 0 n) = false := by
  have hpos : 1 ≤ 2 ^ n := Nat.one_le_two_pow
  have hall : covS C (setP n (2 ^ n - 1)) = true := by
    refine List.all_eq_true.2 fun p hp => ?_
    have := hC p hp
    unfold setP
    rw [Nat.testBit_two_pow_sub_one, decide_eq_true (by omega)]
    rfl
  obtain ⟨p1, _, p3, _, p5⟩ := scanP_min (cov := fun v => covS C (setP n v)) (cnt := fun v => (mems (setP n v) 0 n).length) hpos hall (2 ^ n) (Nat.le_refl _)
  change bestP n C < 2 ^ n at p1
  change covS C (setP n (bestP n C)) = true at p3
  have hmin : ∀ S : Nat → Bool, covS C S = true → lessL (mems S 0 n) (mems (setP n (bestP n C)) 0 n) = false := by
    intro S hS
    obtain ⟨v, hv, hb⟩ := bits_of n fun i => S (n - 1 - i)
    have hset : ∀ i, i < n → setP n v i = S i := fun i hi => by
      unfold setP
      rw [hb _ (by omega)]
      congr 1; omega
    have hm : mems S 0 n = mems (setP n v) 0 n := mems_congr n 0 fun i _ h2 => (hset i (by omega)).symm
    have hcv : covS C (setP n v) = true := by rw [covS_congr hC hset]; exact hS
    have hnb := p5 v (by omega) hv hcv
    change ¬ ((mems (setP n v) 0 n).length < (mems (setP n (bestP n C)) 0 n).length ∨ ((mems (setP n v) 0 n).length = (mems (setP n (bestP n C)) 0 n).length ∧ bestP n C < v)) at hnb
    rw [hm, Bool.eq_false_iff]
    intro hl
    unfold lessL at hl
    by_cases e : (mems (setP n v) 0 n).length = (mems (setP n (bestP n C)) 0 n).length
    · rw [if_neg (by simpa using e), lex_num _ _ n 0 e, numR_setP hv, numR_setP p1] at hl
      exact hnb (.inr ⟨e, hl⟩)
    · rw [if_pos e] at hl
      exact hnb (.inl (of_decide_eq_true hl))
  refine ⟨?_, p3, p1, hmin⟩
  obtain ⟨r1, r2⟩ := scanR_min (cov := fun v => covS C (setR v)) (mem := fun v => mems (setR v) 0 n) (2 ^ n)
  obtain ⟨u, hu, hb⟩ := bits_of n (setP n (bestP n C))
  have hcu : covS C (setR u) = true := by rw [covS_congr (S := setR u) (T := setP n (bestP n C)) hC fun i hi => (show setR u i = _ from hb i hi)]; exact p3
  have hmu : mems (setR u) 0 n = mems (setP n (bestP n C)) 0 n := mems_congr n 0 fun i _ h2 => hb i (by omega)
  unfold bestR
  cases hx : scanR (fun v => covS C (setR v)) (fun v => mems (setR v) 0 n) (2 ^ n) with
  | none => have := r1 hx u hu; rw [hcu] at this; cases this
  | some x =>
    obtain ⟨⟨y, hy, hcy, hxy⟩, h2⟩ := r2 x hx
    have e1 := h2 u hu hcu
    rw [hmu] at e1
    have e2 := hmin (setR y) hcy
    rw [← hxy] at e2
    rw [lessL_total e2 e1]

end Go.Proofs.Ytapfihlfnaebhaa
