/- The plain law of intervals. No program in sight. -/
import Init
namespace Go.Proofs.Ytapfihlfnaebhaa
set_option linter.unusedVariables false
set_option linter.unusedSimpArgs false

structure Sp where
  lo : Int
  hi : Int
  deriving DecidableEq
def sp0 : Sp := ⟨0, 0⟩
def sval (s : Sp) : Bool := decide (-70368744177664 ≤ s.lo ∧ s.lo ≤ s.hi ∧ s.hi ≤ 70368744177664)
theorem sval_true {s : Sp} (h : sval s = true) : -70368744177664 ≤ s.lo ∧ s.lo ≤ s.hi ∧ s.hi ≤ 70368744177664 := of_decide_eq_true h
theorem sval_cases (s : Sp) : (sval s = false ∧ (s.lo < -70368744177664 ∨ (-70368744177664 ≤ s.lo ∧ s.lo > s.hi) ∨ (-70368744177664 ≤ s.lo ∧ s.lo ≤ s.hi ∧ s.hi > 70368744177664))) ∨ (sval s = true ∧ -70368744177664 ≤ s.lo ∧ s.lo ≤ s.hi ∧ s.hi ≤ 70368744177664) := by
  unfold sval
  by_cases h : -70368744177664 ≤ s.lo ∧ s.lo ≤ s.hi ∧ s.hi ≤ 70368744177664
  · exact .inr ⟨decide_eq_true h, h⟩
  · exact .inl ⟨decide_eq_false h, by omega⟩
def allV (l : List Sp) : Bool := l.all sval
theorem allV_mem {l : List Sp} (h : allV l = true) {s : Sp} (hs : s ∈ l) : sval s = true := List.all_eq_true.1 h s hs
theorem allV_take {l : List Sp} {k : Nat} {x : Sp} (h : l[k]? = some x) : allV (l.take (k + 1)) = (allV (l.take k) && sval x) := by
  unfold allV
  rw [List.take_add_one, h, List.all_append]
  simp
theorem allV_le {l : List Sp} {k : Nat} (h : allV l = true) : allV (l.take k) = true := by
  unfold allV at *
  rw [List.all_eq_true] at *
  exact fun x hx => h x (List.mem_of_mem_take hx)
/-- The result of an interval: itself, or the error 2. -/
def resS (s : Sp) : Sp := if sval s = true then s else sp0
def resE (s : Sp) : Int := if sval s = true then 0 else 2
/-- Ends combined with a first one. -/
def endsV (f g : Int → Int → Int) (o : Sp) (l : List Sp) : Sp := l.foldl (fun o s => ⟨f o.lo s.lo, g o.hi s.hi⟩) o
theorem endsV_take (f g : Int → Int → Int) (o : Sp) {l : List Sp} {k : Nat} {x : Sp} (h : l[k]? = some x) : endsV f g o (l.take (k + 1)) = ⟨f (endsV f g o (l.take k)).lo x.lo, g (endsV f g o (l.take k)).hi x.hi⟩ := by
  unfold endsV
  rw [List.take_add_one, h]
  simp
def plus (a b : Int) : Int := a + b
def mini (a b : Int) : Int := if a ≤ b then a else b
def maxi (a b : Int) : Int := if a ≤ b then b else a
theorem sum_bd {o : Sp} {l : List Sp} (ho : sval o = true) (hl : allV l = true) : -(70368744177664 * (l.length + 1)) ≤ (endsV plus plus o l).lo ∧ (endsV plus plus o l).lo ≤ 70368744177664 * (l.length + 1) ∧
    -(70368744177664 * (l.length + 1)) ≤ (endsV plus plus o l).hi ∧ (endsV plus plus o l).hi ≤ 70368744177664 * (l.length + 1) := by
  have key : ∀ (l : List Sp) (o : Sp) (n : Int), 0 ≤ n → allV l = true → -n ≤ o.lo → o.lo ≤ n → -n ≤ o.hi → o.hi ≤ n →
      -(n + 70368744177664 * l.length) ≤ (endsV plus plus o l).lo ∧ (endsV plus plus o l).lo ≤ n + 70368744177664 * l.length ∧
      -(n + 70368744177664 * l.length) ≤ (endsV plus plus o l).hi ∧ (endsV plus plus o l).hi ≤ n + 70368744177664 * l.length := by
    intro l
    induction l with
    | nil => intro o n h0 _ h1 h2 h3 h4; simp [endsV]; omega
    | cons s l ih =>
      intro o n h0 hl h1 h2 h3 h4
      have hs := sval_true (allV_mem hl (s := s) (by simp))
      have hl' : allV l = true := by
        unfold allV at *; simp at hl ⊢; exact fun x hx => hl.2 x hx
      have := ih ⟨plus o.lo s.lo, plus o.hi s.hi⟩ (n + 70368744177664) (by omega) hl' (by simp only [plus]; omega) (by simp only [plus]; omega) (by simp only [plus]; omega) (by simp only [plus]; omega)
      have he : endsV plus plus o (s :: l) = endsV plus plus ⟨plus o.lo s.lo, plus o.hi s.hi⟩ l := rfl
      rw [he]
      simp only [List.length_cons]
      omega
  have h := sval_true ho
  have := key l o 70368744177664 (by omega) hl (by omega) (by omega) (by omega) (by omega)
  omega

end Go.Proofs.Ytapfihlfnaebhaa
