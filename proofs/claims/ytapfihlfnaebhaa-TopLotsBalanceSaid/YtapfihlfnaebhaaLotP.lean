/- The plain law of lots: errors, what is known, what is taken. No program in sight. -/
import Derived.Test.YtapfihlfnaebhaaKit
import Derived.Test.YtapfihlfnaebhaaBalP
namespace Go.Proofs.Ytapfihlfnaebhaa
set_option linter.unusedVariables false
set_option linter.unusedSimpArgs false
open Go

structure Pt where
  lot : Int
  lo : Int
  hi : Int
/-- A lot, with the value that its parts are. -/
structure Lv where
  id : Int
  mat : Int
  lo : Int
  hi : Int
  pv : Value
  parts : List Pt
def lv0 : Lv := ⟨0, 0, 0, 0, .slice none 0 0, []⟩
instance : Inhabited Lv := ⟨lv0⟩
def pt0 : Pt := ⟨0, 0, 0⟩
def mOk (lo hi : Int) : Bool := decide (0 ≤ lo ∧ lo ≤ hi ∧ hi ≤ 70368744177664)
theorem mOk_iff {lo hi : Int} : mOk lo hi = true ↔ 0 ≤ lo ∧ lo ≤ hi ∧ hi ≤ 70368744177664 := by simp [mOk]
/-- Which IDs the first k lots have, and the last index of each. -/
def kn (l : List Lv) : Nat → Int → Option Int
  | 0 => fun _ => none
  | k + 1 => fun y => if y = (l.getD k lv0).id then some (k : Int) else kn l k y
/-- How many they are. -/
def ks (l : List Lv) : Nat → Nat
  | 0 => 0
  | k + 1 => if (kn l k (l.getD k lv0).id).isSome = true then ks l k else ks l k + 1
/-- No ID twice among the first k. -/
def nodup (l : List Lv) : Nat → Bool
  | 0 => true
  | k + 1 => nodup l k && !(kn l k (l.getD k lv0).id).isSome
theorem ks_le (l : List Lv) : ∀ k, ks l k ≤ k ∧ (ks l k = k ↔ nodup l k = true)
  | 0 => by simp [ks, nodup]
  | k + 1 => by
    obtain ⟨h1, h2⟩ := ks_le l k
    unfold ks nodup
    cases h : (kn l k (l.getD k lv0).id).isSome with
    | true => rw [if_pos rfl]; refine ⟨by omega, ?_⟩; simp; omega
    | false => rw [if_neg (by simp)]; refine ⟨by omega, ?_⟩; simp [← h2]
theorem kn_some {l : List Lv} {y : Int} : ∀ {k : Nat}, (kn l k y).isSome = true ↔ ∃ j, j < k ∧ (l.getD j lv0).id = y
  | 0 => by simp [kn]
  | k + 1 => by
    have ih := kn_some (l := l) (y := y) (k := k)
    unfold kn
    by_cases h : y = (l.getD k lv0).id
    · rw [if_pos h]
      exact ⟨fun _ => ⟨k, by omega, h.symm⟩, fun _ => rfl⟩
    · rw [if_neg h, ih]
      constructor
      · rintro ⟨j, h1, h2⟩; exact ⟨j, by omega, h2⟩
      · rintro ⟨j, h1, h2⟩
        refine ⟨j, ?_, h2⟩
        rcases Nat.lt_or_eq_of_le (Nat.le_of_lt_succ h1) with h3 | rfl
        · exact h3
        · exact absurd h2.symm h
theorem kn_at {l : List Lv} {y : Int} {i : Int} : ∀ {k : Nat}, kn l k y = some i → ∃ j : Nat, j < k ∧ i = j ∧ (l.getD j lv0).id = y
  | 0, h => by simp [kn] at h
  | k + 1, h => by
    unfold kn at h
    split at h
    · rename_i hy
      exact ⟨k, by omega, (Option.some.inj h).symm, hy.symm⟩
    · obtain ⟨j, h1, h2, h3⟩ := kn_at h
      exact ⟨j, by omega, h2, h3⟩
theorem nodup_at {l : List Lv} : ∀ {k : Nat}, nodup l k = true → ∀ i j, i < k → j < k → (l.getD i lv0).id = (l.getD j lv0).id → i = j
  | 0, _, i, _, h, _, _ => absurd h (Nat.not_lt_zero _)
  | k + 1, h, i, j, hi, hj, he => by
    unfold nodup at h
    rw [Bool.and_eq_true] at h
    have hn : ∀ m, m < k → (l.getD m lv0).id ≠ (l.getD k lv0).id := fun m hm hme => by
      have := kn_some.2 ⟨m, hm, hme⟩
      rw [this] at h; simp at h
    rcases Nat.lt_or_eq_of_le (Nat.le_of_lt_succ hi) with h1 | rfl
    · rcases Nat.lt_or_eq_of_le (Nat.le_of_lt_succ hj) with h2 | rfl
      · exact nodup_at h.1 i j h1 h2 he
      · exact absurd he (hn i h1)
    · rcases Nat.lt_or_eq_of_le (Nat.le_of_lt_succ hj) with h2 | rfl
      · exact absurd he.symm (hn j h2)
      · rfl
/-- Where an ID is known without doubt. -/
theorem kn_uniq {l : List Lv} {k j : Nat} (h : nodup l k = true) (hj : j < k) : kn l k (l.getD j lv0).id = some (j : Int) := by
  have hs := (kn_some (l := l) (k := k) (y := (l.getD j lv0).id)).2 ⟨j, hj, rfl⟩
  obtain ⟨i, hi⟩ := Option.isSome_iff_exists.1 hs
  obtain ⟨m, h1, rfl, h3⟩ := kn_at hi
  rw [hi, nodup_at h m j h1 hj h3]

/-! ### Errors of a lot -/
def ptE (K : Int → Bool) (p : Pt) : Int := if K p.lot = false then 7 else if mOk p.lo p.hi = false then 1 else 0
theorem ptE_ok {K : Int → Bool} {p : Pt} : ptE K p = 0 ↔ K p.lot = true ∧ mOk p.lo p.hi = true := by
  unfold ptE
  cases K p.lot <;> cases mOk p.lo p.hi <;> simp
def sumLo (ps : List Pt) : Int := ps.foldl (fun a p => a + p.lo) 0
def sumHi (ps : List Pt) : Int := ps.foldl (fun a p => a + p.hi) 0
theorem sumLo_take {ps : List Pt} {k : Nat} {p : Pt} (h : ps[k]? = some p) : sumLo (ps.take (k + 1)) = sumLo (ps.take k) + p.lo := by
  unfold sumLo; rw [List.take_add_one, h]; simp
theorem sumHi_take {ps : List Pt} {k : Nat} {p : Pt} (h : ps[k]? = some p) : sumHi (ps.take (k + 1)) = sumHi (ps.take k) + p.hi := by
  unfold sumHi; rw [List.take_add_one, h]; simp
theorem sumP_bd {ps : List Pt} (h : ∀ p ∈ ps, mOk p.lo p.hi = true) : ∀ k, k ≤ ps.length → 0 ≤ sumLo (ps.take k) ∧ sumLo (ps.take k) ≤ sumHi (ps.take k) ∧ sumHi (ps.take k) ≤ 70368744177664 * k
  | 0, _ => by simp [sumLo, sumHi]
  | k + 1, hk => by
    have ih := sumP_bd h k (by omega)
    have hp : ps[k]? = some (ps[k]'(by omega)) := List.getElem?_eq_getElem (by omega)
    have := mOk_iff.1 (h _ (List.getElem_mem (show k < ps.length by omega)))
    rw [sumLo_take hp, sumHi_take hp]
    omega
/-- Which lots the first k parts are of. -/
def seenP (ps : List Pt) : Nat → Int → Bool
  | 0 => fun _ => false
  | k + 1 => fun y => if y = (ps.getD k pt0).lot then true else seenP ps k y
def dupP (ps : List Pt) : Nat → Bool
  | 0 => false
  | k + 1 => dupP ps k || seenP ps k (ps.getD k pt0).lot
theorem seenP_iff {ps : List Pt} {y : Int} : ∀ {k : Nat}, seenP ps k y = true ↔ ∃ j, j < k ∧ (ps.getD j pt0).lot = y
  | 0 => by simp [seenP]
  | k + 1 => by
    have ih := seenP_iff (ps := ps) (y := y) (k := k)
    unfold seenP
    by_cases h : y = (ps.getD k pt0).lot
    · rw [if_pos h]
      exact ⟨fun _ => ⟨k, by omega, h.symm⟩, fun _ => rfl⟩
    · rw [if_neg h, ih]
      constructor
      · rintro ⟨j, h1, h2⟩; exact ⟨j, by omega, h2⟩
      · rintro ⟨j, h1, h2⟩
        refine ⟨j, ?_, h2⟩
        rcases Nat.lt_or_eq_of_le (Nat.le_of_lt_succ h1) with h3 | rfl
        · exact h3
        · exact absurd h2.symm h
def balE (x : Lv) : Int := if x.parts ≠ [] ∧ (sumHi x.parts < x.lo ∨ sumLo x.parts > x.hi) then 16 else 0
def headE (x : Lv) : Int := if x.id < 1 ∨ x.id > 1000000 then 1 else if x.mat < 0 ∨ x.mat ≥ 16 then 21 else if mOk x.lo x.hi = false then 1 else if x.parts.length > 8 then 8 else 0
def oneE (K : Int → Bool) (x : Lv) : Int := if headE x ≠ 0 then headE x else if firstE (ptE K) x.parts ≠ 0 then firstE (ptE K) x.parts else if dupP x.parts x.parts.length = true then 6 else balE x
/-- The first error of the first k lots. -/
def lotsE (l : List Lv) : Nat → Int
  | 0 => 0
  | k + 1 => if lotsE l k ≠ 0 then lotsE l k else oneE (fun y => (kn l k y).isSome) (l.getD k lv0)
theorem lotsE_stop {l : List Lv} {k : Nat} (h0 : lotsE l k = 0) (h : oneE (fun y => (kn l k y).isSome) (l.getD k lv0) ≠ 0) : ∀ n, k < n → lotsE l n = oneE (fun y => (kn l k y).isSome) (l.getD k lv0)
  | 0, hn => absurd hn (Nat.not_lt_zero _)
  | n + 1, hn => by
    unfold lotsE
    by_cases e : n = k
    · subst e; rw [if_neg (by simpa using h0)]
    · have := lotsE_stop h0 h n (by omega)
      rw [if_pos (by rw [this]; exact h), this]

/-! ### What is taken -/
def addP (y : Int) (s : Sp) (p : Pt) : Sp := if p.lot = y then ⟨s.lo + p.lo, s.hi + p.hi⟩ else s
def tkP (y : Int) (s : Sp) (ps : List Pt) : Sp := ps.foldl (addP y) s
def tk (l : List Lv) (y : Int) : Sp := l.foldl (fun s x => tkP y s x.parts) sp0
theorem tkP_take (y : Int) (s : Sp) {ps : List Pt} {k : Nat} {p : Pt} (h : ps[k]? = some p) : tkP y s (ps.take (k + 1)) = addP y (tkP y s (ps.take k)) p := by
  unfold tkP; rw [List.take_add_one, h]; simp
theorem tk_take (y : Int) {l : List Lv} {k : Nat} {x : Lv} (h : l[k]? = some x) : tk (l.take (k + 1)) y = tkP y (tk (l.take k) y) x.parts := by
  unfold tk; rw [List.take_add_one, h]; simp
/-- The first lot that has to give more than it can contain. -/
def overE (l : List Lv) : Nat → Int
  | 0 => 0
  | k + 1 => if overE l k ≠ 0 then overE l k else if (tk l (l.getD k lv0).id).lo > (l.getD k lv0).hi then 16 else 0
def chkL (l : List Lv) : Int := if l.length > 512 then 8 else if lotsE l l.length ≠ 0 then lotsE l l.length else if nodup l l.length = false then 6 else overE l l.length

end Go.Proofs.Ytapfihlfnaebhaa
