/- The plain law of sums of items: adjacent windows, heavier emptyings. No program in sight. -/
import Derived.Test.YtaidcdcikjbjjaaTariffP
namespace Go.Proofs.Ytaidcdcikjbjjaa
set_option linter.unusedVariables false
set_option linter.unusedSimpArgs false

def tot : List Itm → Int
  | [] => 0
  | x :: l => x.amt + tot l
theorem tot_append (l m : List Itm) : tot (l ++ m) = tot l + tot m := by
  induction l with
  | nil => simp [tot]
  | cons x l ih => simp only [List.cons_append, tot, ih]; omega
theorem tot_take {l : List Itm} {k : Nat} {x : Itm} (h : l[k]? = some x) : tot (l.take (k + 1)) = tot (l.take k) + x.amt := by
  rw [List.take_add_one, h, tot_append]
  simp [tot]
theorem tot_bd {l : List Itm} {M : Int} (h : ∀ x ∈ l, 0 ≤ x.amt ∧ x.amt ≤ M) : 0 ≤ tot l ∧ tot l ≤ M * l.length := by
  induction l with
  | nil => simp [tot]
  | cons x l ih =>
    have h1 := h x (by simp)
    have h2 := ih fun y hy => h y (by simp [hy])
    simp only [tot, List.length_cons]
    rw [show ((l.length + 1 : Nat) : Int) = l.length + 1 by omega, Int.mul_add]
    omega

def pos (n : Int) : Int := if n > 0 then n else 0
theorem tot_itemAt (l : List Tf) (a b : Int) (i : Nat) : tot (itemAt l a b i) = pos (dOf l a b i) * (l.getD i tf0).base := by
  unfold itemAt pos
  split <;> simp [tot]
theorem pos_split (l : List Tf) {a m b : Int} (h1 : a ≤ m) (h2 : m ≤ b) (i : Nat) : pos (dOf l a b i) = pos (dOf l a m i) + pos (dOf l m b i) := by
  unfold dOf endOf pos
  generalize (l.getD i tf0).frm = f
  by_cases hi : i + 1 < l.length
  · simp only [if_pos hi]
    generalize (l.getD (i + 1) tf0).frm = e
    by_cases c1 : b < e <;> by_cases c2 : m < e <;> by_cases c3 : a < f <;> by_cases c4 : m < f <;> simp only [c1, c2, c3, c4, if_true, if_false] <;> (repeat' split) <;> omega
  · simp only [if_neg hi]
    by_cases c3 : a < f <;> by_cases c4 : m < f <;> simp only [c3, c4, if_true, if_false] <;> (repeat' split) <;> omega
theorem tot_split (l : List Tf) {a m b : Int} (h1 : a ≤ m) (h2 : m ≤ b) : ∀ k, tot (itemsTo l a m k) + tot (itemsTo l m b k) = tot (itemsTo l a b k)
  | 0 => by simp [itemsTo, tot]
  | k + 1 => by
    have ih := tot_split l h1 h2 k
    simp only [itemsTo, tot_append, tot_itemAt, pos_split l h1 h2 k, Int.add_mul]
    omega

theorem split_law {l : List Tf} {a m b : Int} (he : bE l a b = 0) (h1 : a ≤ m) (h2 : m ≤ b) : bE l a m = 0 ∧ bE l m b = 0 ∧ tot (bL l a m) + tot (bL l m b) = tot (bL l a b) := by
  have hb := he
  unfold bE at hb
  by_cases ht : tchk l = 0
  · rw [if_neg (by omega)] at hb
    by_cases hr : a < 0 ∨ a > b ∨ b > 36525
    · rw [if_pos hr] at hb; omega
    rw [if_neg hr] at hb
    by_cases h7 : a < b ∧ a < (l.getD 0 tf0).frm
    · rw [if_pos h7] at hb; omega
    have e1 : bE l a m = 0 := by unfold bE; rw [if_neg (by omega), if_neg (by omega), if_neg (by omega)]
    have e2 : bE l m b = 0 := by unfold bE; rw [if_neg (by omega), if_neg (by omega), if_neg (by omega)]
    refine ⟨e1, e2, ?_⟩
    unfold bL
    rw [if_pos e1, if_pos e2, if_pos he]
    exact tot_split l h1 h2 _
  · rw [if_pos ht] at hb; omega

theorem items_bd {l : List Tf} (h : TOk l) {a b : Int} (he : bE l a b = 0) : ∀ x ∈ bL l a b, 0 ≤ x.amt ∧ x.amt ≤ 3652500000 := by
  have hb := he
  unfold bE at hb
  by_cases ht : tchk l = 0
  · rw [if_neg (by omega)] at hb
    by_cases hr : a < 0 ∨ a > b ∨ b > 36525
    · rw [if_pos hr] at hb; omega
    have key : ∀ k, k ≤ l.length → ∀ x ∈ itemsTo l a b k, 0 ≤ x.amt ∧ x.amt ≤ 3652500000 := by
      intro k
      induction k with
      | zero => intro _ x hx; simp [itemsTo] at hx
      | succ k ih =>
        intro hk x hx
        simp only [itemsTo] at hx
        rcases List.mem_append.1 hx with hx | hx
        · exact ih (by omega) x hx
        · have hu := tok_bd (h.ok k (by omega))
          unfold itemAt at hx
          split at hx
          · rename_i hp
            obtain rfl := List.mem_singleton.1 hx
            have hd : dOf l a b k ≤ 36525 := by
              unfold dOf endOf
              have h2 : k + 1 < l.length → (l.getD (k + 1) tf0).frm ≤ 36524 := fun h3 => (tok_bd (h.ok (k + 1) h3)).2.1
              by_cases h3 : k + 1 < l.length
              · have := h2 h3
                simp only [if_pos h3]
                (repeat' split) <;> omega
              · simp only [if_neg h3]
                (repeat' split) <;> omega
            refine ⟨Int.mul_nonneg (by omega) (by omega), ?_⟩
            have := Int.mul_le_mul (a := dOf l a b k) (b := (l.getD k tf0).base) (c := 36525) (d := 100000) hd (by omega) (by omega) (by omega)
            simpa using this
          · simp at hx
    unfold bL
    rw [if_pos he]
    exact key _ (Nat.le_refl _)
  · rw [if_pos ht] at hb; omega
theorem bL_len {l : List Tf} (h : TOk l) (a b : Int) : (bL l a b).length ≤ 8 := by
  have key : ∀ k, (itemsTo l a b k).length ≤ k := by
    intro k
    induction k with
    | zero => exact Nat.le_refl _
    | succ k ih =>
      simp only [itemsTo, List.length_append, itemAt]
      split <;> simp <;> omega
  unfold bL
  split
  · exact Nat.le_trans (key _) h.len
  · simp

/-- A heavier emptying. -/
theorem heavier {t : Tf} (ht : tuse t = true) {id m n : Int} (hid : within 1 id 1000000 = true) (h1 : 0 ≤ m) (h2 : 0 ≤ n) (h3 : n ≤ 1073741824 - m) :
    itE t id m m = 0 ∧ itE t id (m + n) (m + n) = 0 ∧ 1 ≤ (itL t id m m).length ∧ (itL t id m m).length ≤ (itL t id (m + n) (m + n)).length ∧ (itL t id (m + n) (m + n)).length ≤ 2 ∧
      tot (itL t id m m) ≤ tot (itL t id (m + n) (m + n)) ∧ (∀ x ∈ itL t id m m, 0 ≤ x.amt ∧ x.amt ≤ 3652500000000) ∧ (∀ x ∈ itL t id (m + n) (m + n), 0 ≤ x.amt ∧ x.amt ≤ 3652500000000) := by
  have hb : 0 ≤ t.empty ∧ t.empty ≤ 100000 ∧ 0 ≤ t.kilo ∧ t.kilo ≤ 100000 ∧ 0 ≤ t.free := by
    simp [tuse, within] at ht; omega
  obtain ⟨b1, b2, b3, b4, b5⟩ := hb
  have w1 : wok m m = true := by simp [wok]; omega
  have w2 : wok (m + n) (m + n) = true := by simp [wok]; omega
  have e1 : wE t m m = 0 := by unfold wE; rw [if_pos ⟨ht, w1⟩]
  have e2 : wE t (m + n) (m + n) = 0 := by unfold wE; rw [if_pos ⟨ht, w2⟩]
  have i1 : itE t id m m = 0 := by unfold itE; rw [if_pos ⟨e1, hid⟩]
  have i2 : itE t id (m + n) (m + n) = 0 := by unfold itE; rw [if_pos ⟨e2, hid⟩]
  have v1 : 0 ≤ wV t m m ∧ wV t m m ≤ wV t (m + n) (m + n) ∧ wV t (m + n) (m + n) ≤ 1073742 := by
    unfold wV
    rw [if_pos e1, if_pos e2]
    (repeat' split) <;> omega
  obtain ⟨v1, v2, v3⟩ := v1
  refine ⟨i1, i2, ?_⟩
  unfold itL
  rw [if_pos i1, if_pos i2]
  generalize wV t m m = x at *
  generalize wV t (m + n) (m + n) = y at *
  have hk1 : 0 ≤ x * t.kilo := Int.mul_nonneg v1 b3
  have hk2 : x * t.kilo ≤ y * t.kilo := Int.mul_le_mul_of_nonneg_right v2 b3
  have hk3 : y * t.kilo ≤ 1073742 * 100000 := Int.mul_le_mul v3 b4 b3 (by omega)
  by_cases hx : x > 0
  · have hy : y > 0 := by omega
    simp [hx, hy, tot]
    omega
  · by_cases hy : y > 0
    · simp [hx, hy, tot]
      omega
    · simp [hx, hy, tot]
      omega

end Go.Proofs.Ytaidcdcikjbjjaa
