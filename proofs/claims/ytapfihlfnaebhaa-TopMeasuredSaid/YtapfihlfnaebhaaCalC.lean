/- The plain law of conflicts: errors, the list of conflicts, and that a pair whose scales could show their numbers for one mass is none. No program in sight. -/
import Derived.Test.YtapfihlfnaebhaaScaleQ
import Derived.Test.YtapfihlfnaebhaaBalP
import Derived.Test.YtapfihlfnaebhaaCalP
namespace Go.Proofs.Ytapfihlfnaebhaa
set_option linter.unusedVariables false
set_option linter.unusedSimpArgs false

structure Sc where
  a : Int
  b : Int
  c : Int
  d : Int
  e : Int
  f : Int
def sc0 : Sc := ⟨0, 0, 0, 0, 0, 0⟩
structure Pr where
  a : Int
  b : Int
  sa : Int
  sb : Int
  tm : Int
def pr0 : Pr := ⟨0, 0, 0, 0, 0⟩
def chkS (s : Sc) : Int := chk s.a s.b s.c s.d s.e s.f
def trnS (s : Sc) (n t : Int) : Int := trn s.a s.b s.c s.d s.e s.f n t
noncomputable def loS (s : Sc) (n t : Int) : Int := trlo s.a s.b s.c s.d s.e s.f n t
noncomputable def hiS (s : Sc) (n t : Int) : Int := trhi s.a s.b s.c s.d s.e s.f n t
def cldS (s : Sc) (m n t : Int) : Bool := cld s.a s.b s.c s.d s.e s.f m n t
/-- The error of a pair. -/
def prE (S : List Sc) (p : Pr) : Int :=
  if p.a < 0 ∨ p.a ≥ S.length ∨ p.b < 0 ∨ p.b ≥ S.length then 7 else if p.a = p.b then 6 else
  if trnS (S.getD p.a.toNat sc0) p.sa p.tm ≠ 0 then trnS (S.getD p.a.toNat sc0) p.sa p.tm else trnS (S.getD p.b.toNat sc0) p.sb p.tm
/-- Whether a pair is a conflict. -/
noncomputable def prC (S : List Sc) (p : Pr) : Bool :=
  decide (hiS (S.getD p.a.toNat sc0) p.sa p.tm < loS (S.getD p.b.toNat sc0) p.sb p.tm) || decide (hiS (S.getD p.b.toNat sc0) p.sb p.tm < loS (S.getD p.a.toNat sc0) p.sa p.tm)
def conE (S : List Sc) (l : List Pr) : Int := if S.length > 16 then 8 else if firstE chkS S ≠ 0 then firstE chkS S else if l.length > 64 then 8 else firstE (prE S) l
/-- The indices of the conflicts among the first k pairs. -/
noncomputable def conTo (S : List Sc) (l : List Pr) : Nat → List Nat
  | 0 => []
  | k + 1 => if prC S (l.getD k pr0) = true then conTo S l k ++ [k] else conTo S l k
noncomputable def conL (S : List Sc) (l : List Pr) : List Nat := if conE S l = 0 then conTo S l l.length else []
theorem conTo_mem {S : List Sc} {l : List Pr} : ∀ {k i : Nat}, i ∈ conTo S l k → i < k ∧ prC S (l.getD i pr0) = true
  | 0, i, h => by simp [conTo] at h
  | k + 1, i, h => by
    unfold conTo at h
    split at h
    · rename_i hc
      rcases List.mem_append.1 h with h | h
      · have := conTo_mem h; exact ⟨by omega, this.2⟩
      · simp at h; subst h; exact ⟨by omega, hc⟩
    · have := conTo_mem h; exact ⟨by omega, this.2⟩
/-- What a list without errors meets. -/
theorem conE_ok {S : List Sc} {l : List Pr} (h : conE S l = 0) : S.length ≤ 16 ∧ (∀ s ∈ S, chkS s = 0) ∧ l.length ≤ 64 ∧ ∀ p ∈ l, prE S p = 0 := by
  unfold conE at h
  split at h
  · omega
  split at h
  · rename_i h2; exact absurd h h2
  split at h
  · omega
  rename_i h1 h2 h3
  exact ⟨by omega, firstE_mem (by simpa using h2), by omega, firstE_mem h⟩
theorem prE_ok {S : List Sc} {p : Pr} (h : prE S p = 0) : 0 ≤ p.a ∧ p.a < S.length ∧ 0 ≤ p.b ∧ p.b < S.length ∧ p.a ≠ p.b ∧ trnS (S.getD p.a.toNat sc0) p.sa p.tm = 0 ∧ trnS (S.getD p.b.toNat sc0) p.sb p.tm = 0 := by
  unfold prE at h
  split at h
  · omega
  split at h
  · omega
  split at h
  · rename_i h3; exact absurd h h3
  rename_i h1 h2 h3
  exact ⟨by omega, by omega, by omega, by omega, h2, by simpa using h3, h⟩
/-- A pair whose scales could both show their numbers for one mass is no conflict. -/
theorem no_conflict {S : List Sc} {p : Pr} (h : prE S p = 0) {m : Int} (h1 : cldS (S.getD p.a.toNat sc0) m p.sa p.tm = true) (h2 : cldS (S.getD p.b.toNat sc0) m p.sb p.tm = true) : prC S p = false := by
  obtain ⟨_, _, _, _, _, t1, t2⟩ := prE_ok h
  obtain ⟨_, _, _, _, _, s1, _⟩ := sound_ok (m := m) t1
  obtain ⟨_, _, _, _, _, s2, _⟩ := sound_ok (m := m) t2
  unfold cldS at h1 h2
  rw [h1] at s1
  rw [h2] at s2
  have s1 := s1.symm
  have s2 := s2.symm
  simp only [Bool.and_eq_true, decide_eq_true_eq] at s1 s2
  unfold prC loS hiS
  rw [decide_eq_false (by omega), decide_eq_false (by omega)]
  rfl

end Go.Proofs.Ytapfihlfnaebhaa
