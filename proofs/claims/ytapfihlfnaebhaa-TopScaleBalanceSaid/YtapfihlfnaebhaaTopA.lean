/- Contract: the example of TopScaleBalance; rows of the call's own beside each other. -/
import Derived.Test.YtapfihlfnaebhaaTopP
import Derived.Test.YtapfihlfnaebhaaScaleG
import Derived.Test.YtapfihlfnaebhaaBalC
namespace Go.Proofs.Ytapfihlfnaebhaa
set_option linter.unusedVariables false
set_option linter.unusedSimpArgs false
open Go.RowKit

theorem own_lt {w : World} {base : Nat} {e : TypeId} {size n : Nat} {v : Value} {xs : List Value} (h : w.ownsRow base e size v n xs) : ∀ j, v.ownBlock = some j → j < w.heap.size := by
  intro j hj
  rcases ownsRow_open h with ⟨rfl, _⟩ | ⟨g, cap, cur, rfl, _, hB, _⟩
  · cases hj
  · simp only [Value.ownBlock, Option.some.injEq] at hj
    subst hj
    exact hB.lt
theorem own_ge' {W : World} {base n C : Nat} {e : TypeId} {v : Value} {xs : List Value} (h : W.ownsRow base e C v n xs) : ∀ j, Value.ownBlock v = some j → base ≤ j := fun j hj => by
  rcases ownsRow_open h with ⟨rfl, _⟩ | ⟨gg, cc, uu, rfl, hgg, _⟩
  · cases hj
  · have hj' := Option.some.inj hj; dsimp only at hj'; omega
/-- Rows in different blocks. -/
def Apart (u v : Value) : Prop := ∀ j, u.ownBlock = some j → v.ownBlock ≠ some j
theorem Apart.symm {u v : Value} (h : Apart u v) : Apart v u := fun j hj hu => h j hu hj
theorem Apart.nil_left (v : Value) : Apart (.slice none 0 0) v := fun j hj => by cases hj
theorem Apart.nil_right (v : Value) : Apart v (.slice none 0 0) := fun j _ h => by cases h
/-- One of them grows, and lies in its block still or in a new one. -/
theorem Apart.grow {W : World} {base n C : Nat} {e : TypeId} {u v v' : Value} {xs : List Value} (h : Apart u v) (hu : W.ownsRow base e C u n xs) (hat : v'.ownBlock = v.ownBlock ∨ v'.ownBlock = some W.heap.size) : Apart u v' := fun j hj hv => by
  rcases hat with h1 | h1
  · rw [h1] at hv; exact h j hj hv
  · rw [h1] at hv
    have := own_lt hu j hj
    injection hv with hv
    omega
theorem own_grown {W W' : World} {base n C : Nat} {e : TypeId} {u v : Value} {xs : List Value} (hu : W.ownsRow base e C u n xs) (hg : W.grownBy W' v.ownBlock) (h : Apart u v) : W'.ownsRow base e C u n xs := by
  refine ⟨hu.1, ?_⟩
  rcases hu.2 with h1 | ⟨g, cap, cur, h1, h2, h3, h4⟩
  · exact .inl h1
  · have hlt : g < W.heap.size := by
      rcases Nat.lt_or_ge g W.heap.size with h5 | h5
      · exact h5
      · simp [Array.getElem?_eq_none h5] at h3
    exact .inr ⟨g, cap, cur, h1, h2, (hg.block g hlt fun hh => h g (by rw [h1]; rfl) (hh.symm)).trans h3, h4⟩

theorem ex_true : TrueIs 500 200 0 0 0 12000 0 11550 12450 := by
  refine ⟨by omega, by omega, by omega, by omega, fun m h0 h1 => ?_⟩
  rw [nearB_iff]
  unfold bnd begun
  omega
theorem ex_t1 : trn 500 100000 200 0 0 0 12000 0 = 0 := by decide
theorem ex_t2 : trlo 500 100000 200 0 0 0 12000 0 = 11550 := by rw [trlo, if_pos ex_t1, (tSpan_eq ex_true).1]
theorem ex_t3 : trhi 500 100000 200 0 0 0 12000 0 = 12450 := by rw [trhi, if_pos ex_t1, (tSpan_eq ex_true).2]
theorem awake28_any (w : World) : Calls Try.prog 7 #[] w fun e w' => e = .returned (.bool true) ∧ Below w.heap.size w w' := by
  have h := fun w => true_any 500 100000 200 0 0 0 12000 0 w
  rw [ex_t1, ex_t2, ex_t3] at h
  go_enter Try.func7, Try.ntmps7
  go_wp2_with fail
  refine (h _).mono ?_
  rintro e w1 ⟨rfl, hb1⟩
  go_wp2_with fail
  go_ret
  exact ⟨by first | rfl | simp, hb1.alloc hb1.size _⟩

end Go.Proofs.Ytapfihlfnaebhaa
