/- The plain law of the days of versions: each day of a window belongs to one version, and the base items count them. No program in sight. -/
import Derived.Test.YtaidcdcikjbjjaaTariffQ
namespace Go.Proofs.Ytaidcdcikjbjjaa
set_option linter.unusedVariables false
set_option linter.unusedSimpArgs false

theorem at_ok {l : List Tf} (h : TOk l) {d : Int} (h0 : 0 ≤ d) (h1 : d ≤ 36524) (ht : tchk l = 0) : (atE l d ≠ 0 ∧ d < (l.getD 0 tf0).frm) ∨
    (atE l d = 0 ∧ ∃ i : Nat, atV l d = i ∧ i < l.length ∧ (l.getD i tf0).frm ≤ d ∧ ∀ j, i < j → j < l.length → d < (l.getD j tf0).frm) := by
  have hE : atE l d = if lastTo l d l.length = -1 then 7 else 0 := by
    unfold atE; rw [if_neg (by omega), if_neg (by omega)]
  by_cases hl : lastTo l d l.length = -1
  · exact .inl ⟨by rw [hE, if_pos hl]; omega, (none_iff h d).1 hl⟩
  · rw [if_neg hl] at hE
    obtain ⟨b1, b2⟩ := lastTo_bd l d l.length
    obtain ⟨i, hi⟩ : ∃ i : Nat, lastTo l d l.length = i := ⟨(lastTo l d l.length).toNat, by omega⟩
    refine .inr ⟨hE, i, by unfold atV; rw [if_pos hE, hi], lastTo_spec hi⟩

theorem cnt_hit {l : List Tf} (h : TOk l) {i : Nat} (a : Int) (n : Nat) (hi : i < l.length) (h1 : (l.getD i tf0).frm ≤ a + n) (h2 : ∀ j, i < j → j < l.length → a + n < (l.getD j tf0).frm) {j : Nat} (hj : j < l.length) :
    cntTo l j a (n + 1) = cntTo l j a n + if j = i then 1 else 0 := by
  have e : cntTo l j a (n + 1) = cntTo l j a n + (if (l.getD j tf0).frm ≤ a + n ∧ (j + 1 = l.length ∨ a + n < (l.getD (j + 1) tf0).frm) then 1 else 0) := rfl
  rw [e]
  congr 1
  by_cases hji : j = i
  · subst hji
    rw [if_pos rfl, if_pos]
    refine ⟨h1, ?_⟩
    by_cases hl : j + 1 = l.length
    · exact .inl hl
    · exact .inr (h2 (j + 1) (by omega) (by omega))
  · rw [if_neg hji, if_neg]
    rintro ⟨c1, c2⟩
    by_cases hlt : i < j
    · have := h2 j hlt hj; omega
    · rcases c2 with c2 | c2
      · omega
      · by_cases he : j + 1 = i
        · subst he; omega
        · have := h.ord (j + 1) i (by omega) hi; omega
theorem cnt_miss {l : List Tf} (h : TOk l) (a : Int) (n : Nat) (h1 : a + n < (l.getD 0 tf0).frm) {j : Nat} (hj : j < l.length) : cntTo l j a (n + 1) = cntTo l j a n := by
  have e : cntTo l j a (n + 1) = cntTo l j a n + (if (l.getD j tf0).frm ≤ a + n ∧ (j + 1 = l.length ∨ a + n < (l.getD (j + 1) tf0).frm) then 1 else 0) := rfl
  rw [e, if_neg]
  · omega
  rintro ⟨c1, _⟩
  by_cases he : j = 0
  · subst he; omega
  · have := h.ord 0 j (by omega) hj; omega
theorem cnt_bd (l : List Tf) (j : Nat) (a : Int) : ∀ n, 0 ≤ cntTo l j a n ∧ cntTo l j a n ≤ n
  | 0 => by simp [cntTo]
  | n + 1 => by
    have := cnt_bd l j a n
    simp only [cntTo]
    split <;> omega

/-- The counts of the days. -/
def dayL (l : List Tf) (a : Int) (n : Nat) : List Int := (List.range l.length).map fun j => cntTo l j a n
theorem dayL_len (l : List Tf) (a : Int) (n : Nat) : (dayL l a n).length = l.length := by simp [dayL]
theorem dayL_get (l : List Tf) (a : Int) (n : Nat) {j : Nat} (hj : j < l.length) : (dayL l a n)[j]? = some (cntTo l j a n) := by simp [dayL, hj]
theorem dayL_zero (l : List Tf) (a : Int) : dayL l a 0 = List.replicate l.length 0 := by
  refine List.ext_getElem (by simp [dayL]) fun i h1 h2 => ?_
  simp [dayL, cntTo]
theorem dayL_hit {l : List Tf} (h : TOk l) {i : Nat} (a : Int) (n : Nat) (hi : i < l.length) (h1 : (l.getD i tf0).frm ≤ a + n) (h2 : ∀ j, i < j → j < l.length → a + n < (l.getD j tf0).frm) :
    dayL l a (n + 1) = (dayL l a n).set i (cntTo l i a n + 1) := by
  refine List.ext_getElem (by simp [dayL]) fun j hj _ => ?_
  have hj' : j < l.length := by simpa [dayL] using hj
  rw [List.getElem_set]
  simp only [dayL, List.getElem_map, List.getElem_range]
  rw [cnt_hit h a n hi h1 h2 hj']
  by_cases e : i = j
  · subst e; simp
  · rw [if_neg e, if_neg fun e' => e e'.symm]; omega
theorem dayL_miss {l : List Tf} (h : TOk l) (a : Int) (n : Nat) (h1 : a + n < (l.getD 0 tf0).frm) : dayL l a (n + 1) = dayL l a n := by
  refine List.ext_getElem (by simp [dayL]) fun j hj _ => ?_
  have hj' : j < l.length := by simpa [dayL] using hj
  simp only [dayL, List.getElem_map, List.getElem_range]
  exact cnt_miss h a n h1 hj'
def early (l : List Tf) (a : Int) (n : Nat) : Bool := decide (0 < n ∧ a < (l.getD 0 tf0).frm)
theorem early_hit {l : List Tf} (h : TOk l) {i : Nat} (a : Int) (n : Nat) (hi : i < l.length) (h1 : (l.getD i tf0).frm ≤ a + n) (he : n = 0 → (l.getD i tf0).frm ≤ a) : early l a (n + 1) = early l a n := by
  unfold early
  by_cases hn : n = 0
  · have h0 : (l.getD 0 tf0).frm ≤ (l.getD i tf0).frm := by
      by_cases e : i = 0
      · subst e; omega
      · have := h.ord 0 i (by omega) hi; omega
    have := he hn
    rw [decide_eq_false (by omega), decide_eq_false (by omega)]
  · rw [Bool.eq_iff_iff]; simp; omega
theorem early_miss {l : List Tf} (a : Int) (n : Nat) (h1 : a + n < (l.getD 0 tf0).frm) : early l a (n + 1) = true := by
  unfold early
  exact decide_eq_true (by omega)

/-- The items of a window: where the next one lies. -/
theorem itemsTo_at {l : List Tf} {a b : Int} {i : Nat} (hi : i < l.length) (h : dOf l a b i > 0) :
    (itemsTo l a b l.length)[(itemsTo l a b i).length]? = some ⟨1, i, dOf l a b i, (l.getD i tf0).base, dOf l a b i * (l.getD i tf0).base⟩ := by
  have key : ∀ k, i + 1 ≤ k → ∃ r, itemsTo l a b k = itemsTo l a b (i + 1) ++ r := by
    intro k
    induction k with
    | zero => intro h; omega
    | succ k ih =>
      intro hk
      by_cases e : i = k
      · subst e; exact ⟨[], by simp⟩
      · obtain ⟨r, hr⟩ := ih (by omega)
        exact ⟨r ++ itemAt l a b k, by rw [itemsTo, hr, List.append_assoc]⟩
  obtain ⟨r, hr⟩ := key l.length (by omega)
  rw [hr, itemsTo, itemAt, if_pos h]
  simp
theorem itemsTo_skip {l : List Tf} {a b : Int} {i : Nat} (h : ¬ dOf l a b i > 0) : itemsTo l a b (i + 1) = itemsTo l a b i := by
  rw [itemsTo, itemAt, if_neg h, List.append_nil]
theorem itemsTo_step {l : List Tf} {a b : Int} {i : Nat} (h : dOf l a b i > 0) : (itemsTo l a b (i + 1)).length = (itemsTo l a b i).length + 1 := by
  rw [itemsTo, itemAt, if_pos h]; simp
theorem itemsTo_le9 (l : List Tf) (a b : Int) : ∀ i, (itemsTo l a b i).length ≤ i
  | 0 => by simp [itemsTo]
  | i + 1 => by
    have := itemsTo_le9 l a b i
    simp only [itemsTo, itemAt, List.length_append]
    split <;> simp <;> omega

end Go.Proofs.Ytaidcdcikjbjjaa
