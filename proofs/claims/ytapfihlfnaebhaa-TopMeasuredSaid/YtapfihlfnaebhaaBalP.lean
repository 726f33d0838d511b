/- The plain law of balances: checks, stocks, assignments. No program in sight. -/
import Derived.Test.YtapfihlfnaebhaaSpanK
namespace Go.Proofs.Ytapfihlfnaebhaa
set_option linter.unusedVariables false
set_option linter.unusedSimpArgs false

structure Tr where
  frm : Int
  to : Int
  mass : Sp
  deriving DecidableEq
def tr0 : Tr := ⟨0, 0, sp0⟩

def opOk (s : Sp) : Bool := sval s && decide (0 ≤ s.lo)
theorem opOk_iff {s : Sp} : opOk s = true ↔ 0 ≤ s.lo ∧ s.lo ≤ s.hi ∧ s.hi ≤ 70368744177664 := by
  simp [opOk, sval]; omega
def trE (n : Int) (t : Tr) : Int := if t.frm < 0 ∨ t.frm ≥ n ∨ t.to < 0 ∨ t.to ≥ n then 7 else if t.frm = t.to ∨ opOk t.mass = false then 1 else 0
theorem trE_iff {n : Int} {t : Tr} : trE n t = 0 ↔ 0 ≤ t.frm ∧ t.frm < n ∧ 0 ≤ t.to ∧ t.to < n ∧ t.frm ≠ t.to ∧ opOk t.mass = true := by
  unfold trE
  by_cases h1 : t.frm < 0 ∨ t.frm ≥ n ∨ t.to < 0 ∨ t.to ≥ n
  · rw [if_pos h1]; constructor
    · intro h; omega
    · intro h; omega
  · rw [if_neg h1]
    by_cases h2 : t.frm = t.to ∨ opOk t.mass = false
    · rw [if_pos h2]; constructor
      · intro h; omega
      · rintro ⟨_, _, _, _, h3, h4⟩
        rcases h2 with h2 | h2
        · exact absurd h2 h3
        · rw [h2] at h4; cases h4
    · rw [if_neg h2]; constructor
      · intro _
        refine ⟨by omega, by omega, by omega, by omega, fun h => h2 (.inl h), ?_⟩
        cases h : opOk t.mass
        · exact absurd (.inr h) h2
        · rfl
      · intro _; rfl
/-- The first error of a list. -/
def firstE {α : Type} (f : α → Int) : List α → Int
  | [] => 0
  | x :: l => if f x ≠ 0 then f x else firstE f l
theorem firstE_take {α : Type} (f : α → Int) : ∀ {l : List α} {k : Nat} {x : α}, l[k]? = some x → firstE f (l.take k) = 0 → firstE f (l.take (k + 1)) = f x
  | [], k, x, h, _ => by simp at h
  | y :: l, 0, x, h, _ => by
    obtain rfl : y = x := by simpa using h
    by_cases hy : f y = 0 <;> simp [firstE, hy]
  | y :: l, k + 1, x, h, h0 => by
    simp only [List.take_succ_cons, firstE] at h0 ⊢
    split at h0
    · contradiction
    · rename_i hy
      rw [if_neg hy]
      exact firstE_take f (by simpa using h) h0
theorem firstE_stop {α : Type} (f : α → Int) : ∀ {l : List α} {k : Nat} {x : α}, l[k]? = some x → firstE f (l.take k) = 0 → f x ≠ 0 → firstE f l = f x
  | [], k, x, h, _, _ => by simp at h
  | y :: l, 0, x, h, _, hx => by
    obtain rfl : y = x := by simpa using h
    simp [firstE, hx]
  | y :: l, k + 1, x, h, h0, hx => by
    simp only [List.take_succ_cons, firstE] at h0 ⊢
    split at h0
    · contradiction
    · rename_i hy
      rw [if_neg hy]
      exact firstE_stop f (by simpa using h) h0 hx
theorem firstE_mem {α : Type} {f : α → Int} {l : List α} (h : firstE f l = 0) : ∀ x ∈ l, f x = 0 := by
  induction l with
  | nil => intro x hx; simp at hx
  | cons y l ih =>
    simp only [firstE] at h
    split at h
    · contradiction
    · rename_i hy
      intro x hx
      rcases List.mem_cons.1 hx with rfl | hx
      · simpa using hy
      · exact ih h x hx
theorem firstE_zero {α : Type} {f : α → Int} {l : List α} (h : ∀ x ∈ l, f x = 0) : firstE f l = 0 := by
  induction l with
  | nil => rfl
  | cons y l ih =>
    simp only [firstE]
    rw [if_neg (by simp [h y (by simp)])]
    exact ih fun x hx => h x (by simp [hx])

def bchk (n : Int) (o : List Sp) (l : List Tr) : Int :=
  if n < 1 ∨ n > 8 ∨ (o.length : Int) ≠ n then 1 else if o.all opOk = false then 1 else if l.length > 64 then 8 else firstE (trE n) l
def bchkA (n : Int) (o : List Sp) (l : List Tr) (c : List Sp) : Int :=
  if bchk n o l ≠ 0 then bchk n o l else if (c.length : Int) ≠ n then 1 else if allV c = false then 1 else 0
/-- What a valid balance meets. -/
structure BOk (n : Int) (o : List Sp) (l : List Tr) : Prop where
  n1 : 1 ≤ n
  n8 : n ≤ 8
  len : (o.length : Int) = n
  op : ∀ s ∈ o, opOk s = true
  few : l.length ≤ 64
  tr : ∀ t ∈ l, trE n t = 0
theorem bchk_ok {n : Int} {o : List Sp} {l : List Tr} (h : bchk n o l = 0) : BOk n o l := by
  unfold bchk at h
  split at h
  · omega
  split at h
  · omega
  split at h
  · omega
  rename_i h1 h2 h3
  have h2 : o.all opOk = true := by simpa using h2
  exact ⟨by omega, by omega, by omega, List.all_eq_true.1 h2, by omega, firstE_mem h⟩
theorem bchkA_ok {n : Int} {o : List Sp} {l : List Tr} {c : List Sp} (h : bchkA n o l c = 0) : bchk n o l = 0 ∧ (c.length : Int) = n ∧ allV c = true := by
  unfold bchkA at h
  split at h
  · contradiction
  split at h
  · omega
  split at h
  · omega
  rename_i h1 h2 h3
  exact ⟨by simpa using h1, by simpa using h2, by simpa using h3⟩

/-! ### Stocks -/
/-- One transfer seen from node i. -/
def stepS (t : Tr) (i : Nat) (s : Sp) : Sp :=
  if t.to = i then (if t.frm = i then ⟨s.lo + t.mass.lo - t.mass.hi, s.hi + t.mass.hi - t.mass.lo⟩ else ⟨s.lo + t.mass.lo, s.hi + t.mass.hi⟩)
  else if t.frm = i then ⟨s.lo - t.mass.hi, s.hi - t.mass.lo⟩ else s
def nodeS (l : List Tr) (i : Nat) (s : Sp) : Sp := l.foldl (fun s t => stepS t i s) s
theorem nodeS_take {l : List Tr} {k : Nat} {t : Tr} (h : l[k]? = some t) (i : Nat) (s : Sp) : nodeS (l.take (k + 1)) i s = stepS t i (nodeS (l.take k) i s) := by
  unfold nodeS
  rw [List.take_add_one, h]
  simp
theorem nodeS_bd {n : Int} {l : List Tr} (h : ∀ t ∈ l, trE n t = 0) (i : Nat) (s : Sp) (hs : opOk s = true) (k : Nat) (hk : k ≤ l.length) :
    -(70368744177664 * k) ≤ (nodeS (l.take k) i s).lo ∧ (nodeS (l.take k) i s).lo ≤ 70368744177664 * (k + 1) ∧ -(70368744177664 * k) ≤ (nodeS (l.take k) i s).hi ∧ (nodeS (l.take k) i s).hi ≤ 70368744177664 * (k + 1) := by
  have hs' := opOk_iff.1 hs
  induction k with
  | zero => simp [nodeS]; omega
  | succ k ih =>
    have ih := ih (by omega)
    have hx : l[k]? = some (l[k]'(by omega)) := List.getElem?_eq_getElem (by omega)
    generalize l[k]'(by omega) = t at hx
    have ht := trE_iff.1 (h t (List.mem_of_getElem? hx))
    have hm := opOk_iff.1 ht.2.2.2.2.2
    rw [nodeS_take hx]
    generalize nodeS (l.take k) i s = a at *
    unfold stepS
    (repeat' split) <;> (try dsimp only) <;> omega
/-- The stocks. -/
def stkL (o : List Sp) (l : List Tr) : List Sp := (List.range o.length).map fun i => nodeS l i (o.getD i sp0)
theorem stkL_len (o : List Sp) (l : List Tr) : (stkL o l).length = o.length := by simp [stkL]
theorem stkL_get (o : List Sp) (l : List Tr) {i : Nat} (h : i < o.length) : (stkL o l)[i]? = some (nodeS l i (o.getD i sp0)) := by simp [stkL, h]
theorem stkL_nil (o : List Sp) : stkL o [] = o := by
  refine List.ext_getElem (by simp [stkL]) fun i h1 h2 => ?_
  simp [stkL, nodeS, h2]
theorem stkL_step {n : Int} {o : List Sp} {l : List Tr} {k : Nat} {t : Tr} (h : l[k]? = some t) (ht : trE n t = 0) (hn : (o.length : Int) = n) :
    stkL o (l.take (k + 1)) = ((stkL o (l.take k)).set t.to.toNat ⟨(nodeS (l.take k) t.to.toNat (o.getD t.to.toNat sp0)).lo + t.mass.lo, (nodeS (l.take k) t.to.toNat (o.getD t.to.toNat sp0)).hi + t.mass.hi⟩).set t.frm.toNat
      ⟨(nodeS (l.take k) t.frm.toNat (o.getD t.frm.toNat sp0)).lo - t.mass.hi, (nodeS (l.take k) t.frm.toNat (o.getD t.frm.toNat sp0)).hi - t.mass.lo⟩ := by
  obtain ⟨h1, h2, h3, h4, h5, _⟩ := trE_iff.1 ht
  refine List.ext_getElem (by simp [stkL]) fun i hi _ => ?_
  have hi' : i < o.length := by simpa [stkL] using hi
  simp only [List.getElem_set, stkL, List.getElem_map, List.getElem_range]
  rw [nodeS_take h]
  unfold stepS
  by_cases c1 : t.frm.toNat = i
  · rw [if_pos c1, if_neg (by omega), if_pos (by omega), c1]
  · rw [if_neg c1]
    by_cases c2 : t.to.toNat = i
    · rw [if_pos c2, if_pos (by omega), if_neg (by omega), c2]
    · rw [if_neg c2, if_neg (by omega), if_neg (by omega)]
def stkE (n : Int) (o : List Sp) (l : List Tr) : Int := if bchk n o l ≠ 0 then bchk n o l else if allV (stkL o l) = true then 0 else 2
def stkV (n : Int) (o : List Sp) (l : List Tr) : List Sp := if stkE n o l = 0 then stkL o l else []

/-! ### Assignments -/
def mstep (n : Nat) (i : Nat) (ms : List Int) (s : Int) (k : Nat) (t : Tr) : Int :=
  if t.to = i then (if t.frm = i then s + ms.getD (n + k) 0 - ms.getD (n + k) 0 else s + ms.getD (n + k) 0) else if t.frm = i then s - ms.getD (n + k) 0 else s
/-- The stock of node i behind the first k transfers of exact masses. -/
def nodeM (n : Nat) (l : List Tr) (ms : List Int) (i : Nat) : Nat → Int
  | 0 => ms.getD i 0
  | k + 1 => mstep n i ms (nodeM n l ms i k) k (l.getD k tr0)
/-- The first k opening stocks, transfers, closing stocks lie inside. -/
def openIn (o : List Sp) (ms : List Int) (k : Nat) : Bool := (List.range k).all fun i => hasV (o.getD i sp0) (ms.getD i 0)
def movesIn (n : Nat) (l : List Tr) (ms : List Int) (k : Nat) : Bool := (List.range k).all fun i => hasV (l.getD i tr0).mass (ms.getD (n + i) 0)
def closeIn (n : Nat) (l : List Tr) (c : List Sp) (ms : List Int) (k : Nat) : Bool := (List.range k).all fun i => hasV (c.getD i sp0) (nodeM n l ms i l.length)
theorem all_succ (f : Nat → Bool) (k : Nat) : (List.range (k + 1)).all f = ((List.range k).all f && f k) := by
  rw [List.range_succ, List.all_append]; simp
theorem all_le {f : Nat → Bool} {j k : Nat} (h : j ≤ k) (hk : (List.range k).all f = true) : (List.range j).all f = true := by
  rw [List.all_eq_true] at *
  exact fun x hx => hk x (List.mem_range.2 (Nat.lt_of_lt_of_le (List.mem_range.1 hx) h))
theorem all_stop {f : Nat → Bool} {j k : Nat} (h : j < k) (hj : f j = false) : (List.range k).all f = false := by
  rw [Bool.eq_false_iff]
  intro hk
  have := List.all_eq_true.1 hk j (List.mem_range.2 h)
  rw [hj] at this; cases this
def holdsB (n : Int) (o : List Sp) (l : List Tr) (c : List Sp) (ms : List Int) : Bool :=
  decide (bchkA n o l c = 0) && (decide ((ms.length : Int) = n + l.length) && (openIn o ms o.length && (movesIn o.length l ms l.length && closeIn o.length l c ms o.length)))

end Go.Proofs.Ytapfihlfnaebhaa
