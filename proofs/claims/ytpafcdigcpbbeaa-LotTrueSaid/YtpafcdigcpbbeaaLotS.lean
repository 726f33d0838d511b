/- The plain law of origins: which lots are reached from a lot through its parts. No program in sight. -/
import Derived.Test.YtpafcdigcpbbeaaLotF
namespace Go.Proofs.Ytpafcdigcpbbeaa
set_option linter.unusedVariables false
set_option linter.unusedSimpArgs false
open Go

/-- The index of an ID. -/
def ixL (L : List Lv) (y : Int) : Nat := ((kn L L.length y).getD 0).toNat
/-- The parts of a lot, by their indices. -/
def pk (L : List Lv) (i : Nat) : List Nat := (L.getD i lv0).parts.map fun p => ixL L p.lot
inductive Rch (L : List Lv) : Nat → Nat → Prop
  | refl (i : Nat) : Rch L i i
  | step {i k j : Nat} : k ∈ pk L i → Rch L k j → Rch L i j
section
variable {L : List Lv} {i j k a b c : Nat}
theorem Rch.trans (h : Rch L a b) (k : Rch L b c) : Rch L a c := by
  induction h with
  | refl => exact k
  | step h1 _ ih => exact .step h1 (ih k)
theorem Rch.last (h : Rch L a b) : a = b ∨ ∃ q, Rch L a q ∧ b ∈ pk L q := by
  induction h with
  | refl => exact .inl rfl
  | @step i k j h1 h2 ih =>
    rcases ih with rfl | ⟨q, h3, h4⟩
    · exact .inr ⟨i, .refl _, h1⟩
    · exact .inr ⟨q, .step h1 h3, h4⟩
theorem Rch.head (h : Rch L a b) : a = b ∨ ∃ q, q ∈ pk L a ∧ Rch L q b := by
  cases h with
  | refl => exact .inl rfl
  | step h1 h2 => exact .inr ⟨_, h1, h2⟩
theorem part_ix (h : chkL L = 0) (hi : i < L.length) {p : Pt} (hp : p ∈ (L.getD i lv0).parts) : ∃ k, k < i ∧ kn L L.length p.lot = some (k : Int) ∧ (L.getD k lv0).id = p.lot := by
  obtain ⟨ok1, ok2, ok3, ok4⟩ := chkL_ok h
  have h1 := ((oneE_ok (lotsE_at ok2 i hi).2).2.1 p hp).1
  obtain ⟨k, hk, he⟩ := kn_some.1 h1
  exact ⟨k, hk, by rw [← he]; exact kn_uniq ok3 (by omega), he⟩
theorem ixL_part (h : chkL L = 0) (hi : i < L.length) {p : Pt} (hp : p ∈ (L.getD i lv0).parts) : ixL L p.lot < i ∧ kn L L.length p.lot = some (ixL L p.lot : Int) ∧ (L.getD (ixL L p.lot) lv0).id = p.lot := by
  obtain ⟨k, h1, h2, h3⟩ := part_ix h hi hp
  have : ixL L p.lot = k := by unfold ixL; rw [h2]; simp
  rw [this]; exact ⟨h1, h2, h3⟩
theorem ixL_at (h : chkL L = 0) (hi : i < L.length) : ixL L (L.getD i lv0).id = i := by
  unfold ixL; rw [kn_uniq (chkL_ok h).2.2.1 hi]; simp
theorem pk_lt (h : chkL L = 0) (hi : i < L.length) (hk : k ∈ pk L i) : k < i := by
  obtain ⟨p, hp, rfl⟩ := List.mem_map.1 hk
  exact (ixL_part h hi hp).1
theorem Rch.le (h : chkL L = 0) (hr : Rch L i j) : i < L.length → j ≤ i := by
  induction hr with
  | refl => intro _; exact Nat.le_refl _
  | @step i k j h1 h2 ih =>
    intro hi
    have := pk_lt h hi h1
    have := ih (by omega)
    omega
/-- Whether a lot is reached. -/
def rF (L : List Lv) : Nat → Nat → Nat → Bool
  | 0, i, j => decide (i = j)
  | f + 1, i, j => decide (i = j) || (pk L i).any fun k => rF L f k j
theorem rF_iff (h : chkL L = 0) : ∀ {f i : Nat}, i ≤ f → i < L.length → ∀ {j : Nat}, rF L f i j = true ↔ Rch L i j
  | 0, i, h0, hi, j => by
    obtain rfl : i = 0 := by omega
    unfold rF
    rw [decide_eq_true_iff]
    refine ⟨fun e => e ▸ .refl _, fun hr => ?_⟩
    have := hr.le h hi
    omega
  | f + 1, i, h0, hi, j => by
    unfold rF
    rw [Bool.or_eq_true, decide_eq_true_iff, List.any_eq_true]
    constructor
    · rintro (rfl | ⟨k, hk, hr⟩)
      · exact .refl _
      · have := pk_lt h hi hk
        exact .step hk ((rF_iff h (by omega) (by omega)).1 hr)
    · intro hr
      rcases hr.head with rfl | ⟨q, hq, hr⟩
      · exact .inl rfl
      · have := pk_lt h hi hq
        exact .inr ⟨q, hq, (rF_iff h (by omega) (by omega)).2 hr⟩
def rB (L : List Lv) (i j : Nat) : Bool := rF L i i j
theorem rB_iff (h : chkL L = 0) (hi : i < L.length) : rB L i j = true ↔ Rch L i j := rF_iff h (Nat.le_refl _) hi
end

/-- The IDs of the lots of a kind among the first k. -/
def selK (f : Nat → Bool) (L : List Lv) (k : Nat) : List Int := ((List.range k).filter f).map fun j => (L.getD j lv0).id
theorem selK_succ (f : Nat → Bool) (L : List Lv) (k : Nat) : selK f L (k + 1) = selK f L k ++ (if f k = true then [(L.getD k lv0).id] else []) := by
  unfold selK
  rw [List.range_succ, List.filter_append, List.map_append]
  cases h : f k <;> simp [h]
theorem selK_congr {f g : Nat → Bool} {L : List Lv} : ∀ {k : Nat}, (∀ i, i < k → f i = g i) → selK f L k = selK g L k
  | 0, _ => rfl
  | k + 1, h => by rw [selK_succ, selK_succ, selK_congr fun i hi => h i (by omega), h k (by omega)]
theorem selK_len (f : Nat → Bool) (L : List Lv) : ∀ k, (selK f L k).length ≤ k
  | 0 => Nat.le_refl _
  | k + 1 => by
    have := selK_len f L k
    rw [selK_succ, List.length_append]
    split <;> simp <;> omega
def orgF (L : List Lv) (i j : Nat) : Bool := rB L i j && decide ((L.getD j lv0).parts.length = 0)
def useF (L : List Lv) (i j : Nat) : Bool := !decide (j = i) && rB L j i
def orgL (L : List Lv) (i : Nat) : List Int := selK (orgF L i) L L.length
def useL (L : List Lv) (i : Nat) : List Int := selK (useF L i) L L.length
def orgV (L : List Lv) (id : Int) : List Int := if lefE L id = 0 then orgL L (ixL L id) else []
def useV (L : List Lv) (id : Int) : List Int := if lefE L id = 0 then useL L (ixL L id) else []

/-! ### Visits -/
/-- What was seen below an index has its parts seen too. -/
def Cl (L : List Lv) (i : Nat) (S : Nat → Bool) : Prop := ∀ j, j < i → S j = true → ∀ k ∈ pk L j, S k = true
theorem Cl.rch {L : List Lv} {n : Nat} {S : Nat → Bool} (h : chkL L = 0) (hn : n ≤ L.length) (hc : Cl L n S) {i j : Nat} (hr : Rch L i j) : i < n → S i = true → S j = true := by
  induction hr with
  | refl => intro _ h; exact h
  | @step i k j h1 _ ih =>
    intro hi hs
    have := pk_lt h (by omega) h1
    exact ih (by omega) (hc i hi hs k h1)
/-- What is seen behind the first m parts of lot i. -/
def seenV (L : List Lv) (i : Nat) (S : Nat → Bool) (m : Nat) (j : Nat) : Bool := S j || decide (j = i) || ((pk L i).take m).any fun k => rB L k j
theorem seenV_zero {L : List Lv} {i : Nat} {S : Nat → Bool} (j : Nat) : seenV L i S 0 j = if j = i then true else S j := by
  unfold seenV
  by_cases e : j = i <;> simp [e]
theorem seenV_succ {L : List Lv} {i m k : Nat} {S : Nat → Bool} (hk : (pk L i)[m]? = some k) (j : Nat) : seenV L i S (m + 1) j = (seenV L i S m j || rB L k j) := by
  unfold seenV
  rw [List.take_add_one, hk, List.any_append]
  simp [Bool.or_assoc]
theorem seenV_all {L : List Lv} {i : Nat} {S : Nat → Bool} (h : chkL L = 0) (hi : i < L.length) (j : Nat) : seenV L i S (pk L i).length j = (S j || rB L i j) := by
  rw [Bool.eq_iff_iff]
  unfold seenV
  rw [List.take_length, Bool.or_eq_true, Bool.or_eq_true, Bool.or_eq_true, decide_eq_true_iff, List.any_eq_true, rB_iff h hi]
  constructor
  · rintro ((h1 | rfl) | ⟨k, hk, hr⟩)
    · exact .inl h1
    · exact .inr (.refl _)
    · have := pk_lt h hi hk
      exact .inr (.step hk ((rB_iff h (by omega)).1 hr))
  · rintro (h1 | hr)
    · exact .inl (.inl h1)
    · rcases hr.head with rfl | ⟨q, hq, hr⟩
      · exact .inl (.inr rfl)
      · have := pk_lt h hi hq
        exact .inr ⟨q, hq, (rB_iff h (by omega)).2 hr⟩
theorem seenV_cl {L : List Lv} {i : Nat} {S : Nat → Bool} (h : chkL L = 0) (hi : i < L.length) (hc : Cl L i S) (m : Nat) : Cl L i (seenV L i S m) := by
  intro j hj hs k hk
  unfold seenV at hs ⊢
  rw [Bool.or_eq_true, Bool.or_eq_true, decide_eq_true_iff, List.any_eq_true] at hs ⊢
  rcases hs with (h1 | h1) | ⟨q, hq, hr⟩
  · exact .inl (.inl (hc j hj h1 k hk))
  · omega
  · have := pk_lt h hi (List.mem_of_mem_take hq)
    refine .inr ⟨q, hq, (rB_iff h (by omega)).2 (((rB_iff h (by omega)).1 hr).trans (.step hk (.refl _)))⟩
theorem Cl.le {L : List Lv} {i k : Nat} {S : Nat → Bool} (h : Cl L i S) (hk : k ≤ i) : Cl L k S := fun j hj => h j (by omega)
/-- A lot that was seen already. -/
theorem seen_done {L : List Lv} {i : Nat} {S : Nat → Bool} (h : chkL L = 0) (hi : i < L.length) (hc : Cl L (i + 1) S) (hs : S i = true) (j : Nat) : (S j || rB L i j) = S j := by
  cases hj : rB L i j with
  | false => simp
  | true => rw [hc.rch h hi ((rB_iff h hi).1 hj) (by omega) hs]; rfl
theorem cl_new {L : List Lv} {i : Nat} {S : Nat → Bool} (h : chkL L = 0) (hi : i < L.length) (hc : Cl L i S) : Cl L (i + 1) (fun j => S j || rB L i j) := by
  intro j hj hs k hk
  dsimp only at hs ⊢
  rw [Bool.or_eq_true] at hs ⊢
  rcases hs with h1 | h1
  · by_cases e : j = i
    · subst e; exact .inr ((rB_iff h hi).2 (.step hk (.refl _)))
    · exact .inl (hc j (by omega) h1 k hk)
  · exact .inr ((rB_iff h hi).2 (((rB_iff h hi).1 h1).trans (.step hk (.refl _))))

end Go.Proofs.Ytpafcdigcpbbeaa
