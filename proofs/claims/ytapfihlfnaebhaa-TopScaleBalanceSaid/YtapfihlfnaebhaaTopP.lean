/- The plain law of TopScaleBalance: stocks of scale intervals contain the true stocks. No program in sight. -/
import Derived.Test.YtapfihlfnaebhaaScaleQ
import Derived.Test.YtapfihlfnaebhaaBalL
import Derived.Test.YtapfihlfnaebhaaBalC
namespace Go.Proofs.Ytapfihlfnaebhaa
set_option linter.unusedVariables false
set_option linter.unusedSimpArgs false

theorem nd_in {N : Nat} {l : List Tr} {ms : List Int} {i : Nat} {s : Sp} (h0 : s.lo ≤ ms.getD i 0 ∧ ms.getD i 0 ≤ s.hi) : ∀ k, k ≤ l.length → (∀ j, j < k → (l.getD j tr0).mass.lo ≤ ms.getD (N + j) 0 ∧ ms.getD (N + j) 0 ≤ (l.getD j tr0).mass.hi) →
    (nodeS (l.take k) i s).lo ≤ nodeM N l ms i k ∧ nodeM N l ms i k ≤ (nodeS (l.take k) i s).hi
  | 0, _, _ => by simpa [nodeS, nodeM] using h0
  | k + 1, hk, hm => by
    have ih := nd_in h0 k (by omega) fun j hj => hm j (by omega)
    have hx := hm k (by omega)
    have hg : l[k]? = some (l.getD k tr0) := getD_t (by omega)
    rw [nodeS_take hg, nodeM]
    unfold stepS mstep
    generalize l.getD k tr0 = t at *
    generalize nodeS (l.take k) i s = S at *
    generalize ms.getD (N + k) 0 = x at *
    generalize nodeM N l ms i k = y at *
    (repeat' split) <;> (try dsimp only) <;> omega
theorem gen_holds {N : Nat} {o : List Sp} {l : List Tr} {ms : List Int} (h : bchk N o l = 0) (hv : allV (stkL o l) = true) (hlen : ms.length = N + l.length) (hin : ∀ i, i < N → (o.getD i sp0).lo ≤ ms.getD i 0 ∧ ms.getD i 0 ≤ (o.getD i sp0).hi)
    (hmv : ∀ j, j < l.length → (l.getD j tr0).mass.lo ≤ ms.getD (N + j) 0 ∧ ms.getD (N + j) 0 ≤ (l.getD j tr0).mass.hi) : holdsB N o l (stkL o l) ms = true := by
  have hB := bchk_ok h
  have hol : o.length = N := by have := hB.len; omega
  have hA : bchkA N o l (stkL o l) = 0 := by
    unfold bchkA
    rw [if_neg (by simp [h]), if_neg (by rw [stkL_len]; omega), if_neg (by rw [hv]; decide)]
  rw [holdsB_on hA (by omega), hol]
  have e1 : openIn o ms N = true := List.all_eq_true.2 fun i hi => by
    have hi' := List.mem_range.1 hi
    exact hasV_iff.2 ⟨opOk_val (opOk_getD hB.op (by omega)), hin i hi'⟩
  have e2 : movesIn N l ms l.length = true := List.all_eq_true.2 fun j hj => by
    have hj' := List.mem_range.1 hj
    exact hasV_iff.2 ⟨opOk_val (trE_iff.1 (hB.tr _ (List.mem_of_getElem? (getD_t hj')))).2.2.2.2.2, hmv j hj'⟩
  have e3 : closeIn N l (stkL o l) ms N = true := List.all_eq_true.2 fun i hi => by
    have hi' := List.mem_range.1 hi
    have hg : (stkL o l)[i]? = some (nodeS l i (o.getD i sp0)) := stkL_get o l (by omega)
    have hg2 : (stkL o l).getD i sp0 = nodeS l i (o.getD i sp0) := by rw [List.getD_eq_getElem?_getD, hg]; rfl
    have hn := nd_in (N := N) (hin i hi') l.length (Nat.le_refl _) hmv
    rw [List.take_length] at hn
    rw [hg2]
    exact hasV_iff.2 ⟨allV_mem hv (List.mem_of_getElem? hg), hn⟩
  rw [e1, e2, e3]
  rfl
theorem small_node {l : List Tr} (h : ∀ t ∈ l, 0 ≤ t.mass.lo ∧ t.mass.lo ≤ t.mass.hi ∧ t.mass.hi ≤ 1073741824) (i : Nat) {s : Sp} (hs : 0 ≤ s.lo ∧ s.lo ≤ s.hi ∧ s.hi ≤ 1073741824) : ∀ k, k ≤ l.length →
    -(1073741824 * k) ≤ (nodeS (l.take k) i s).lo ∧ (nodeS (l.take k) i s).lo ≤ (nodeS (l.take k) i s).hi ∧ (nodeS (l.take k) i s).hi ≤ 1073741824 * (k + 1)
  | 0, _ => by simp only [List.take_zero, nodeS, List.foldl_nil]; omega
  | k + 1, hk => by
    have ih := small_node h i hs k (by omega)
    have hg : l[k]? = some (l.getD k tr0) := getD_t (by omega)
    have hx := h _ (List.mem_of_getElem? hg)
    rw [nodeS_take hg]
    unfold stepS
    generalize l.getD k tr0 = t at *
    generalize nodeS (l.take k) i s = S at *
    (repeat' split) <;> (try dsimp only) <;> omega
theorem small_stk {o : List Sp} {l : List Tr} (h : ∀ t ∈ l, 0 ≤ t.mass.lo ∧ t.mass.lo ≤ t.mass.hi ∧ t.mass.hi ≤ 1073741824) (ho : ∀ s ∈ o, 0 ≤ s.lo ∧ s.lo ≤ s.hi ∧ s.hi ≤ 1073741824) (hl : l.length ≤ 30) : allV (stkL o l) = true := by
  refine List.all_eq_true.2 fun s hs => ?_
  obtain ⟨i, hi, rfl⟩ := List.getElem_of_mem hs
  rw [stkL_len] at hi
  have hg := stkL_get o l hi
  rw [List.getElem?_eq_getElem (by rw [stkL_len]; exact hi)] at hg
  injection hg with hg
  rw [hg]
  have hn := small_node h i (ho _ (List.mem_of_getElem? (getD_s hi))) l.length (Nat.le_refl _)
  rw [List.take_length] at hn
  rw [sval_iff]
  omega

/-- A mass that was moved, and what a scale showed for it. -/
structure Wd where
  frm : Int
  to : Int
  mass : Int
  shown : Int
def wd0 : Wd := ⟨0, 0, 0, 0⟩
noncomputable def mvAt (a b c d e f t : Int) (x : Wd) : Tr := ⟨x.frm, x.to, ⟨trlo a b c d e f x.shown t, trhi a b c d e f x.shown t⟩⟩
def fiAt (m : Int) : Sp := ⟨m, m⟩
theorem mv_ok {a b c d e f t : Int} {x : Wd} (h : cld a b c d e f x.mass x.shown t = true) : trn a b c d e f x.shown t = 0 ∧ 0 ≤ trlo a b c d e f x.shown t ∧ trlo a b c d e f x.shown t ≤ x.mass ∧ x.mass ≤ trhi a b c d e f x.shown t ∧ trhi a b c d e f x.shown t ≤ 1073741824 := by
  have h0 : trn a b c d e f x.shown t = 0 := by
    by_cases h0 : trn a b c d e f x.shown t = 0
    · exact h0
    · rw [cld_trn h0] at h; cases h
  obtain ⟨s1, _, _, s4, _, s6, _⟩ := sound_ok (m := x.mass) h0
  rw [h] at s6
  simp at s6
  exact ⟨h0, s1, s6.1, s6.2, s4⟩
theorem top_law {a b c d e f t : Int} {o : List Int} {l : List Wd} (ho : ∀ m ∈ o, 0 ≤ m ∧ m ≤ 1073741824) (hl : ∀ x ∈ l, cld a b c d e f x.mass x.shown t = true) (hn : l.length ≤ 30) (h : bchk (o.length : Nat) (o.map fiAt) (l.map (mvAt a b c d e f t)) = 0) :
    stkE (o.length : Nat) (o.map fiAt) (l.map (mvAt a b c d e f t)) = 0 ∧ holdsB (o.length : Nat) (o.map fiAt) (l.map (mvAt a b c d e f t)) (stkL (o.map fiAt) (l.map (mvAt a b c d e f t))) (o ++ l.map Wd.mass) = true := by
  have hv : allV (stkL (o.map fiAt) (l.map (mvAt a b c d e f t))) = true := by
    refine small_stk (fun u hu => ?_) (fun s hs => ?_) (by simpa using hn)
    · obtain ⟨x, hx, rfl⟩ := List.mem_map.1 hu
      have := mv_ok (hl x hx)
      dsimp only [mvAt]; omega
    · obtain ⟨m, hm, rfl⟩ := List.mem_map.1 hs
      have := ho m hm
      dsimp only [fiAt]; omega
  refine ⟨(stkE_ok h hv).1, gen_holds h hv (by simp) (fun i hi => ?_) fun j hj => ?_⟩
  · have h1 : (o.map fiAt).getD i sp0 = fiAt (o.getD i 0) := by
      rw [List.getD_eq_getElem?_getD, List.getElem?_map, getD_i hi]; rfl
    have h2 : (o ++ l.map Wd.mass).getD i 0 = o.getD i 0 := by
      rw [List.getD_eq_getElem?_getD, List.getElem?_append_left hi, getD_i hi]; rfl
    rw [h1, h2]
    exact ⟨Int.le_refl _, Int.le_refl _⟩
  · have hj' : j < l.length := by simpa using hj
    have hx : l[j]? = some l[j] := List.getElem?_eq_getElem hj'
    have h1 : (l.map (mvAt a b c d e f t)).getD j tr0 = mvAt a b c d e f t l[j] := by
      rw [List.getD_eq_getElem?_getD, List.getElem?_map, hx]; rfl
    have h2 : (o ++ l.map Wd.mass).getD (o.length + j) 0 = l[j].mass := by
      rw [List.getD_eq_getElem?_getD, List.getElem?_append_right (by omega), Nat.add_sub_cancel_left, List.getElem?_map, hx]; rfl
    have := mv_ok (hl _ (List.getElem_mem hj'))
    rw [h1, h2]
    exact ⟨this.2.2.1, this.2.2.2.1⟩

end Go.Proofs.Ytapfihlfnaebhaa
