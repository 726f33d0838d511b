/- The plain law of tariffs: which versions are valid, which one is valid on a day, and the items of bills. No program in sight. -/
import Init
namespace Go.Proofs.Ytaidcdcikjbjjaa
set_option linter.unusedVariables false
set_option linter.unusedSimpArgs false

/-- A version of a tariff. -/
structure Tf where
  frm : Int
  base : Int
  empty : Int
  kilo : Int
  free : Int
/-- An item of a bill. -/
structure Itm where
  kind : Int
  ref : Int
  cnt : Int
  price : Int
  amt : Int
  deriving DecidableEq

def within (a b c : Int) : Bool := decide (a ≤ b) && decide (b ≤ c)
def tuse (t : Tf) : Bool := within 0 t.base 100000 && within 0 t.empty 100000 && within 0 t.kilo 100000 && within 0 t.free 1000
def tok (t : Tf) : Bool := within 0 t.frm 36524 && tuse t
def tf0 : Tf := ⟨0, 0, 0, 0, 0⟩
/-- The first k versions are in order. -/
def ordTo (l : List Tf) : Nat → Bool
  | 0 => true
  | 1 => true
  | k + 2 => ordTo l (k + 1) && decide ((l.getD k tf0).frm < (l.getD (k + 1) tf0).frm)
def okTo (l : List Tf) (k : Nat) : Bool := (l.take k).all tok
def tchk (l : List Tf) : Int := if l.length = 0 then 10 else if l.length > 8 then 8 else if okTo l l.length = false then 1 else if ordTo l l.length = false then 9 else 0

theorem okTo_succ {l : List Tf} {k : Nat} (h : k < l.length) : okTo l (k + 1) = (okTo l k && tok (l.getD k tf0)) := by
  unfold okTo
  rw [List.take_succ_eq_append_getElem h, List.all_append]
  simp [h]
theorem okTo_le {l : List Tf} {j k : Nat} (hjk : j ≤ k) (h : okTo l k = true) : okTo l j = true := by
  unfold okTo at *
  rw [List.all_eq_true] at *
  exact fun x hx => h x (List.take_subset_take_left l hjk hx)
theorem ordTo_le {l : List Tf} : ∀ {k j : Nat}, j ≤ k → ordTo l k = true → ordTo l j = true := by
  intro k
  induction k with
  | zero => intro j hj h; obtain rfl : j = 0 := by omega
            exact h
  | succ k ih =>
    intro j hj h
    by_cases he : j = k + 1
    · subst he; exact h
    · refine ih (by omega) ?_
      cases k with
      | zero => rfl
      | succ k => simp only [ordTo, Bool.and_eq_true] at h; exact h.1
theorem ordTo_lt {l : List Tf} {n : Nat} (h : ordTo l n = true) : ∀ {i j : Nat}, i < j → j < n → (l.getD i tf0).frm < (l.getD j tf0).frm := by
  intro i j
  induction j with
  | zero => intro h1; omega
  | succ j ih =>
    intro h1 h2
    have hs := ordTo_le (show j + 2 ≤ n by omega) h
    simp only [ordTo, Bool.and_eq_true, decide_eq_true_eq] at hs
    by_cases he : i = j
    · subst he; exact hs.2
    · have := ih (by omega) (by omega)
      omega

/-- What a valid list of versions meets. -/
structure TOk (l : List Tf) : Prop where
  pos : 0 < l.length
  len : l.length ≤ 8
  ok : ∀ i, i < l.length → tok (l.getD i tf0) = true
  ord : ∀ i j, i < j → j < l.length → (l.getD i tf0).frm < (l.getD j tf0).frm
theorem tchk_ok {l : List Tf} (h : tchk l = 0) : TOk l := by
  unfold tchk at h
  split at h
  · omega
  split at h
  · omega
  split at h
  · omega
  split at h
  · omega
  rename_i h1 h2 h3 h4
  have h3 : okTo l l.length = true := by simpa using h3
  have h4 : ordTo l l.length = true := by simpa using h4
  refine ⟨by omega, by omega, fun i hi => ?_, fun i j => ordTo_lt h4⟩
  have := okTo_le (show i + 1 ≤ l.length by omega) h3
  rw [okTo_succ hi, Bool.and_eq_true] at this
  exact this.2
theorem tok_bd {t : Tf} (h : tok t = true) : 0 ≤ t.frm ∧ t.frm ≤ 36524 ∧ 0 ≤ t.base ∧ t.base ≤ 100000 ∧ 0 ≤ t.empty ∧ t.empty ≤ 100000 ∧ 0 ≤ t.kilo ∧ t.kilo ≤ 100000 ∧ 0 ≤ t.free ∧ t.free ≤ 1000 := by
  simp [tok, tuse, within] at h
  omega

/-! ### The version of a day -/
/-- The last of the first k versions that has begun on the day, or -1. -/
def lastTo (l : List Tf) (d : Int) : Nat → Int
  | 0 => -1
  | k + 1 => if (l.getD k tf0).frm ≤ d then k else lastTo l d k
theorem lastTo_bd (l : List Tf) (d : Int) (k : Nat) : -1 ≤ lastTo l d k ∧ lastTo l d k < k := by
  induction k with
  | zero => simp [lastTo]
  | succ k ih => simp only [lastTo]; split <;> omega
/-- Downwards: if none from k on has begun, the last one is among the first k. -/
theorem lastTo_down {l : List Tf} {d : Int} {k : Nat} : ∀ n, (∀ i, k ≤ i → i < k + n → d < (l.getD i tf0).frm) → lastTo l d (k + n) = lastTo l d k := by
  intro n
  induction n with
  | zero => intro _; rfl
  | succ n ih =>
    intro h
    rw [← Nat.add_assoc, lastTo, if_neg (by have := h (k + n) (by omega) (by omega); omega)]
    exact ih fun i h1 h2 => h i h1 (by omega)
theorem lastTo_none {l : List Tf} {d : Int} : ∀ {k : Nat}, lastTo l d k = -1 ↔ ∀ i, i < k → d < (l.getD i tf0).frm := by
  intro k
  induction k with
  | zero => simp [lastTo]
  | succ k ih =>
    simp only [lastTo]
    split
    · rename_i h
      constructor
      · intro h1; omega
      · intro h1; have := h1 k (by omega); omega
    · rename_i h
      rw [ih]
      constructor
      · intro h1 i hi
        by_cases he : i = k
        · subst he; omega
        · exact h1 i (by omega)
      · exact fun h1 i hi => h1 i (by omega)
theorem lastTo_spec {l : List Tf} {d : Int} {k : Nat} {i : Nat} (h : lastTo l d k = i) : i < k ∧ (l.getD i tf0).frm ≤ d ∧ ∀ j, i < j → j < k → d < (l.getD j tf0).frm := by
  induction k with
  | zero => simp [lastTo] at h <;> omega
  | succ k ih =>
    simp only [lastTo] at h
    split at h
    · rename_i hk
      obtain rfl : k = i := by omega
      exact ⟨by omega, hk, fun j h1 h2 => by omega⟩
    · obtain ⟨h1, h2, h3⟩ := ih h
      refine ⟨by omega, h2, fun j h4 h5 => ?_⟩
      by_cases he : j = k
      · subst he; omega
      · exact h3 j h4 (by omega)
def atE (l : List Tf) (d : Int) : Int := if tchk l ≠ 0 then tchk l else if d < 0 ∨ d > 36524 then 1 else if lastTo l d l.length = -1 then 7 else 0
def atV (l : List Tf) (d : Int) : Int := if atE l d = 0 then lastTo l d l.length else 0
/-- In an ordered list nothing has begun exactly if the first one has not. -/
theorem none_iff {l : List Tf} (h : TOk l) (d : Int) : lastTo l d l.length = -1 ↔ d < (l.getD 0 tf0).frm := by
  rw [lastTo_none]
  constructor
  · exact fun h1 => h1 0 h.pos
  · intro h1 i hi
    by_cases he : i = 0
    · subst he; exact h1
    · have := h.ord 0 i (by omega) hi
      omega

/-! ### The kilograms that are charged, and the items of an emptying -/
def wok (lo hi : Int) : Bool := decide (0 ≤ lo) && decide (lo ≤ hi) && decide (hi ≤ 1073741824)
def wE (t : Tf) (lo hi : Int) : Int := if tuse t = true ∧ wok lo hi = true then 0 else 1
def wV (t : Tf) (lo hi : Int) : Int := if wE t lo hi = 0 then (if lo / 1000 - t.free < 0 then 0 else lo / 1000 - t.free) else 0
def itE (t : Tf) (id lo hi : Int) : Int := if wE t lo hi = 0 ∧ within 1 id 1000000 = true then 0 else 1
def itL (t : Tf) (id lo hi : Int) : List Itm :=
  if itE t id lo hi = 0 then ⟨2, id, 1, t.empty, t.empty⟩ :: (if wV t lo hi > 0 then [⟨3, id, wV t lo hi, t.kilo, wV t lo hi * t.kilo⟩] else []) else []

/-! ### The base items of a window of days -/
def endOf (l : List Tf) (b : Int) (i : Nat) : Int := if i + 1 < l.length then (if b < (l.getD (i + 1) tf0).frm then b else (l.getD (i + 1) tf0).frm) else b
def dOf (l : List Tf) (a b : Int) (i : Nat) : Int := endOf l b i - (if a < (l.getD i tf0).frm then (l.getD i tf0).frm else a)
def itemAt (l : List Tf) (a b : Int) (i : Nat) : List Itm := if dOf l a b i > 0 then [⟨1, i, dOf l a b i, (l.getD i tf0).base, dOf l a b i * (l.getD i tf0).base⟩] else []
def itemsTo (l : List Tf) (a b : Int) : Nat → List Itm
  | 0 => []
  | k + 1 => itemsTo l a b k ++ itemAt l a b k
def bE (l : List Tf) (a b : Int) : Int := if tchk l ≠ 0 then tchk l else if a < 0 ∨ a > b ∨ b > 36525 then 1 else if a < b ∧ a < (l.getD 0 tf0).frm then 7 else 0
def bL (l : List Tf) (a b : Int) : List Itm := if bE l a b = 0 then itemsTo l a b l.length else []

/-- How many of the days from a to a + n - 1 belong to version i: as the reference counts. -/
def cntTo (l : List Tf) (i : Nat) (a : Int) : Nat → Int
  | 0 => 0
  | n + 1 => cntTo l i a n + (if (l.getD i tf0).frm ≤ a + n ∧ (i + 1 = l.length ∨ a + n < (l.getD (i + 1) tf0).frm) then 1 else 0)
theorem cntTo_eq {l : List Tf} (h : TOk l) {i : Nat} (hi : i < l.length) (a : Int) (n : Nat) : cntTo l i a n = if dOf l a (a + n) i > 0 then dOf l a (a + n) i else 0 := by
  have ho : i + 1 < l.length → (l.getD i tf0).frm < (l.getD (i + 1) tf0).frm := fun h1 => h.ord i (i + 1) (by omega) h1
  induction n with
  | zero =>
    simp only [cntTo, dOf, endOf]
    by_cases h1 : i + 1 < l.length
    · have := ho h1
      simp only [h1, if_true]
      split <;> split <;> split <;> omega
    · simp only [h1, if_false]
      split <;> split <;> omega
  | succ n ih =>
    simp only [cntTo, ih, dOf, endOf]
    by_cases h1 : i + 1 < l.length
    · have := ho h1
      have h2 : ¬ (i + 1 = l.length) := by omega
      simp only [h1, if_true, h2, false_or]
      generalize (l.getD i tf0).frm = f at *
      generalize (l.getD (i + 1) tf0).frm = g at *
      have e : a + ((n + 1 : Nat) : Int) = a + n + 1 := by omega
      rw [e]
      by_cases c1 : a < f <;> by_cases c2 : a + ↑n < g <;> by_cases c3 : a + ↑n + 1 < g <;> by_cases c4 : f ≤ a + ↑n <;> simp only [c1, c2, c3, c4, if_true, if_false, and_true, and_false, true_and, false_and] <;> (repeat' split) <;> omega
    · have h2 : i + 1 = l.length := by omega
      simp only [h1, if_false, h2, true_or, and_true]
      have e : a + ((n + 1 : Nat) : Int) = a + n + 1 := by omega
      rw [e]
      (repeat' split) <;> omega

end Go.Proofs.Ytaidcdcikjbjjaa
