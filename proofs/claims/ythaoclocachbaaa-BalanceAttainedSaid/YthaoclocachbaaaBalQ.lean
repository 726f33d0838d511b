/- The plain law of balances as circulations: assignments are circulations of the edges. No program in sight. -/
import Derived.Test.YthaoclocachbaaaFlowR
import Derived.Test.YthaoclocachbaaaBalP
namespace Go.Proofs.Ythaoclocachbaaa
set_option linter.unusedVariables false
set_option linter.unusedSimpArgs false

def sh (s : Sp) : Int := if s.lo < 0 then s.lo else 0
def closeEd (n i : Nat) (s : Sp) : List Ed := ⟨i, n, s.lo - sh s, s.hi - sh s⟩ :: (if s.lo < 0 then [⟨n, i, -sh s, -sh s⟩] else [])
def closeEds (n : Nat) (c : List Sp) : Nat → List Ed
  | 0 => []
  | k + 1 => closeEds n c k ++ closeEd n k (c.getD k sp0)
def trEd (t : Tr) : Ed := ⟨t.frm.toNat, t.to.toNat, t.mass.lo, t.mass.hi⟩
def openEds (n : Nat) (o : List Sp) : Nat → List Ed
  | 0 => []
  | k + 1 => openEds n o k ++ [⟨n, k, (o.getD k sp0).lo, (o.getD k sp0).hi⟩]
def edgesL (n : Nat) (o : List Sp) (l : List Tr) (c : List Sp) : List Ed := openEds n o n ++ (l.map trEd ++ closeEds n c n)
theorem openEds_len (n : Nat) (o : List Sp) : ∀ k, (openEds n o k).length = k
  | 0 => rfl
  | k + 1 => by simp [openEds, openEds_len n o k]

/-! ### Sums over lists -/
theorem wsum_append (p : Ed → Bool) : ∀ (a : List Ed) (xs : List Int) (b : List Ed) (ys : List Int), a.length = xs.length → wsum p (a ++ b) (xs ++ ys) = wsum p a xs + wsum p b ys
  | [], [], b, ys, _ => by simp [wsum]
  | [], x :: xs, _, _, h => by simp at h
  | e :: a, [], _, _, h => by simp at h
  | e :: a, x :: xs, b, ys, h => by
    simp only [List.cons_append, wsum, wsum_append p a xs b ys (by simpa using h)]
    omega
theorem Inside.len : ∀ {l : List Ed} {xs : List Int}, Inside l xs → l.length = xs.length
  | [], [], _ => rfl
  | [], x :: xs, h => h.elim
  | e :: l, [], h => h.elim
  | e :: l, x :: xs, h => by simp [Inside.len h.2.2]
theorem inside_append : ∀ (a : List Ed) (xs : List Int) (b : List Ed) (ys : List Int), a.length = xs.length → (Inside (a ++ b) (xs ++ ys) ↔ Inside a xs ∧ Inside b ys)
  | [], [], b, ys, _ => by simp [Inside]
  | [], x :: xs, _, _, h => by simp at h
  | e :: a, [], _, _, h => by simp at h
  | e :: a, x :: xs, b, ys, h => by
    simp only [List.cons_append, Inside, inside_append a xs b ys (by simpa using h)]
    constructor
    · rintro ⟨h1, h2, h3, h4⟩; exact ⟨⟨h1, h2, h3⟩, h4⟩
    · rintro ⟨⟨h1, h2, h3⟩, h4⟩; exact ⟨h1, h2, h3, h4⟩
theorem inside_split {a b : List Ed} {xs : List Int} (h : Inside (a ++ b) xs) : Inside a (xs.take a.length) ∧ Inside b (xs.drop a.length) := by
  have hl := h.len
  have : xs = xs.take a.length ++ xs.drop a.length := (List.take_append_drop _ _).symm
  rw [this] at h
  exact (inside_append _ _ _ _ (by simp at hl ⊢; omega)).1 h
theorem roomOf_append (T : Nat → Bool) : ∀ a b : List Ed, roomOf T (a ++ b) = roomOf T a + roomOf T b
  | [], b => by simp [roomOf]
  | e :: a, b => by simp only [List.cons_append, roomOf, roomOf_append T a b]; omega
theorem wsum_tot (n : Nat) : ∀ (l : List Ed) (xs : List Int), (∀ e ∈ l, e.u ≤ n ∧ e.v ≤ n) →
    sm (n + 1) (fun v => wsum (fun e => decide (e.v = v)) l xs) = sm (n + 1) (fun v => wsum (fun e => decide (e.u = v)) l xs)
  | [], xs, _ => by simp [wsum]
  | e :: l, [], _ => by simp [wsum]
  | e :: l, x :: xs, h => by
    have ih := wsum_tot n l xs fun y hy => h y (by simp [hy])
    obtain ⟨b1, b2⟩ := h e (by simp)
    have g1 : sm (n + 1) (fun v => wsum (fun e => decide (e.v = v)) (e :: l) (x :: xs)) = x + sm (n + 1) (fun v => wsum (fun e => decide (e.v = v)) l xs) := by
      have : ∀ v, v < n + 1 → wsum (fun e => decide (e.v = v)) (e :: l) (x :: xs) = (if v = e.v then x else 0) + wsum (fun e => decide (e.v = v)) l xs := by
        intro v _
        simp only [wsum, decide_eq_true_eq]
        by_cases hv : e.v = v
        · subst hv; simp
        · rw [if_neg hv, if_neg fun e => hv e.symm]
      rw [sm_congr this, sm_add, sm_one (by omega)]
    have g2 : sm (n + 1) (fun v => wsum (fun e => decide (e.u = v)) (e :: l) (x :: xs)) = x + sm (n + 1) (fun v => wsum (fun e => decide (e.u = v)) l xs) := by
      have : ∀ v, v < n + 1 → wsum (fun e => decide (e.u = v)) (e :: l) (x :: xs) = (if v = e.u then x else 0) + wsum (fun e => decide (e.u = v)) l xs := by
        intro v _
        simp only [wsum, decide_eq_true_eq]
        by_cases hv : e.u = v
        · subst hv; simp
        · rw [if_neg hv, if_neg fun e => hv e.symm]
      rw [sm_congr this, sm_add, sm_one (by omega)]
    rw [g1, g2, ih]

/-! ### The parts of the edges -/
theorem take_snoc' {xs : List Int} {k : Nat} (h : xs.length = k + 1) : xs = xs.take k ++ [xs.getD k 0] := by
  have hk : k < xs.length := by omega
  rw [List.getD_eq_getElem?_getD, List.getElem?_eq_getElem hk]
  simp only [Option.getD_some]
  rw [← List.take_succ_eq_append_getElem hk, List.take_of_length_le (by omega)]
theorem getD_take {xs : List Int} {k i : Nat} (h : i < k) : (xs.take k).getD i 0 = xs.getD i 0 := by
  simp [List.getD_eq_getElem?_getD, List.getElem?_take, h]
theorem open_in (n : Nat) (o : List Sp) (i : Nat) (hi : i < n) : ∀ (k : Nat) (xs : List Int), xs.length = k →
    wsum (fun e => decide (e.v = i)) (openEds n o k) xs = (if i < k then xs.getD i 0 else 0) ∧ wsum (fun e => decide (e.u = i)) (openEds n o k) xs = 0
  | 0, xs, h => by simp [openEds, wsum]
  | k + 1, xs, h => by
    have ih := open_in n o i hi k (xs.take k) (by simp; omega)
    rw [take_snoc' h, openEds, wsum_append _ _ _ _ _ (by simp [openEds_len]; omega), wsum_append _ _ _ _ _ (by simp [openEds_len]; omega), ih.1, ih.2]
    simp only [wsum, decide_eq_true_eq]
    rw [if_neg (c := n = i) (by omega)]
    refine ⟨?_, rfl⟩
    rw [← take_snoc' h]
    by_cases h1 : i < k
    · rw [if_pos h1, if_neg (by omega), if_pos (by omega), getD_take h1]; omega
    · by_cases h2 : k = i
      · subst h2; rw [if_neg h1, if_pos rfl, if_pos (by omega)]; omega
      · rw [if_neg h1, if_neg h2, if_neg (by omega)]; rfl
theorem open_inside (n : Nat) (o : List Sp) : ∀ (k : Nat) (xs : List Int), xs.length = k → (Inside (openEds n o k) xs ↔ ∀ i, i < k → (o.getD i sp0).lo ≤ xs.getD i 0 ∧ xs.getD i 0 ≤ (o.getD i sp0).hi)
  | 0, xs, h => by
    obtain rfl := List.eq_nil_of_length_eq_zero h
    simp [openEds, Inside]
  | k + 1, xs, h => by
    have ih := open_inside n o k (xs.take k) (by simp; omega)
    have e := take_snoc' h
    have : Inside (openEds n o (k + 1)) xs ↔ Inside (openEds n o k) (xs.take k) ∧ Inside [⟨n, k, (o.getD k sp0).lo, (o.getD k sp0).hi⟩] [xs.getD k 0] := by
      conv => lhs; rw [e]
      exact inside_append _ _ _ _ (by simp [openEds_len]; omega)
    rw [this, ih]
    constructor
    · rintro ⟨h1, h2, h3, _⟩ i hi
      by_cases he : i = k
      · subst he; exact ⟨h2, h3⟩
      · have := h1 i (by omega)
        rwa [getD_take (by omega)] at this
    · intro h1
      refine ⟨fun i hi => ?_, (h1 k (by omega)).1, (h1 k (by omega)).2, trivial⟩
      rw [getD_take hi]
      exact h1 i (by omega)
/-- Sums over transfers, by index. -/
theorem tr_sum (p : Ed → Bool) : ∀ (l : List Tr) (ys : List Int), ys.length = l.length → wsum p (l.map trEd) ys = sm l.length (fun k => if p (trEd (l.getD k tr0)) = true then ys.getD k 0 else 0) := by
  have key : ∀ (l : List Tr) (ys : List Int) (k : Nat), k ≤ l.length → ys.length = l.length → wsum p ((l.take k).map trEd) (ys.take k) = sm k (fun k => if p (trEd (l.getD k tr0)) = true then ys.getD k 0 else 0) := by
    intro l ys k
    induction k with
    | zero => intro _ _; simp [wsum, sm]
    | succ k ih =>
      intro hk hl
      have h1 : k < l.length := by omega
      have h2 : k < ys.length := by omega
      rw [List.take_succ_eq_append_getElem h1, List.take_succ_eq_append_getElem h2, List.map_append, wsum_append _ _ _ _ _ (by simp; omega), ih (by omega) hl]
      simp [wsum, sm, List.getD_eq_getElem?_getD, h1, h2]
  intro l ys h
  have := key l ys l.length (Nat.le_refl _) h
  rwa [List.take_of_length_le (Nat.le_refl _), List.take_of_length_le (by omega)] at this
theorem tr_inside : ∀ (l : List Tr) (ys : List Int), ys.length = l.length → (Inside (l.map trEd) ys ↔ ∀ i, i < l.length → (l.getD i tr0).mass.lo ≤ ys.getD i 0 ∧ ys.getD i 0 ≤ (l.getD i tr0).mass.hi)
  | [], ys, h => by
    obtain rfl := List.eq_nil_of_length_eq_zero h
    simp [Inside]
  | t :: l, [], h => by simp at h
  | t :: l, y :: ys, h => by
    simp only [List.map_cons, Inside, tr_inside l ys (by simpa using h)]
    constructor
    · rintro ⟨h1, h2, h3⟩ i hi
      cases i with
      | zero => exact ⟨h1, h2⟩
      | succ i => simpa using h3 i (by simpa using hi)
    · intro h1
      refine ⟨(h1 0 (by simp)).1, (h1 0 (by simp)).2, fun i hi => ?_⟩
      simpa using h1 (i + 1) (by simpa using hi)
/-- What flows to the closing stocks y. -/
def closeVals (c : List Sp) (y : Nat → Int) : Nat → List Int
  | 0 => []
  | k + 1 => closeVals c y k ++ ((y k - sh (c.getD k sp0)) :: (if (c.getD k sp0).lo < 0 then [-sh (c.getD k sp0)] else []))
theorem close_len (n : Nat) (c : List Sp) (y : Nat → Int) : ∀ k, (closeEds n c k).length = (closeVals c y k).length
  | 0 => rfl
  | k + 1 => by
    simp only [closeEds, closeVals, closeEd, List.length_append, List.length_cons, close_len n c y k]
    split <;> simp
theorem closeVals_congr (c : List Sp) {y z : Nat → Int} : ∀ k, (∀ i, i < k → y i = z i) → closeVals c y k = closeVals c z k
  | 0, _ => rfl
  | k + 1, h => by rw [closeVals, closeVals, closeVals_congr c k fun i hi => h i (by omega), h k (by omega)]
theorem close_one {n k : Nat} {s : Sp} {zs : List Int} (h : Inside (closeEd n k s) zs) : ∃ y, zs = (y - sh s) :: (if s.lo < 0 then [-sh s] else []) ∧ s.lo ≤ y ∧ y ≤ s.hi := by
  unfold closeEd at h
  match zs, h with
  | [], h => exact h.elim
  | x :: zs, h =>
    obtain ⟨h1, h2, h3⟩ := h
    dsimp only at h1 h2
    refine ⟨x + sh s, ?_, by omega, by omega⟩
    rw [show x + sh s - sh s = x by omega]
    congr 1
    by_cases hs : s.lo < 0
    · rw [if_pos hs] at h3 ⊢
      match zs, h3 with
      | [], h3 => exact h3.elim
      | [z], h3 =>
        obtain ⟨h4, h5, _⟩ := h3
        dsimp only at h4 h5
        rw [show z = -sh s by omega]
      | z :: z' :: zs, h3 => exact h3.2.2.elim
    · rw [if_neg hs] at h3 ⊢
      match zs, h3 with
      | [], _ => rfl
      | z :: zs, h3 => exact h3.elim
theorem close_vals {n : Nat} {c : List Sp} : ∀ (k : Nat) {zs : List Int}, Inside (closeEds n c k) zs → ∃ y : Nat → Int, zs = closeVals c y k ∧ ∀ i, i < k → (c.getD i sp0).lo ≤ y i ∧ y i ≤ (c.getD i sp0).hi
  | 0, zs, h => by
    have := h.len
    obtain rfl := List.eq_nil_of_length_eq_zero (by simpa [closeEds] using this.symm)
    exact ⟨fun _ => 0, rfl, fun i hi => absurd hi (Nat.not_lt_zero _)⟩
  | k + 1, zs, h => by
    obtain ⟨h1, h2⟩ := inside_split h
    obtain ⟨y, e1, hy⟩ := close_vals k h1
    obtain ⟨z, e2, hz1, hz2⟩ := close_one h2
    refine ⟨fun i => if i = k then z else y i, ?_, fun i hi => ?_⟩
    · rw [closeVals, closeVals_congr c (z := y) k fun i hi => if_neg (by omega), ← e1, if_pos rfl, ← e2, List.take_append_drop]
    · by_cases he : i = k
      · subst he; simp only [if_true]; exact ⟨hz1, hz2⟩
      · simp only [he, if_false]; exact hy i (by omega)
theorem close_inside {n : Nat} {c : List Sp} {y : Nat → Int} : ∀ (k : Nat), (∀ i, i < k → (c.getD i sp0).lo ≤ y i ∧ y i ≤ (c.getD i sp0).hi) → Inside (closeEds n c k) (closeVals c y k)
  | 0, _ => trivial
  | k + 1, h => by
    rw [closeEds, closeVals, inside_append _ _ _ _ (close_len n c y k)]
    refine ⟨close_inside k fun i hi => h i (by omega), ?_⟩
    have := h k (by omega)
    unfold closeEd
    refine ⟨by dsimp only; omega, by dsimp only; omega, ?_⟩
    split
    · exact ⟨Int.le_refl _, Int.le_refl _, trivial⟩
    · trivial
theorem close_sum (n : Nat) (c : List Sp) (y : Nat → Int) (i : Nat) (hi : i < n) : ∀ k : Nat, wsum (fun e => decide (e.v = i)) (closeEds n c k) (closeVals c y k) = (if i < k then -sh (c.getD i sp0) else 0) ∧
    wsum (fun e => decide (e.u = i)) (closeEds n c k) (closeVals c y k) = if i < k then y i - sh (c.getD i sp0) else 0
  | 0 => by simp [closeEds, wsum]
  | k + 1 => by
    obtain ⟨h1, h2⟩ := close_sum n c y i hi k
    rw [closeEds, closeVals, wsum_append _ _ _ _ _ (close_len n c y k), wsum_append _ _ _ _ _ (close_len n c y k), h1, h2]
    clear h1 h2
    have hsh : ¬ (c.getD k sp0).lo < 0 → sh (c.getD k sp0) = 0 := fun h => by unfold sh; rw [if_neg h]
    unfold closeEd
    by_cases hs : (c.getD k sp0).lo < 0
    · rw [if_pos hs, if_pos hs]
      simp only [wsum, decide_eq_true_eq]
      rw [if_neg (c := n = i) (by omega), if_neg (c := n = i) (by omega)]
      by_cases he : k = i
      · subst he; simp
      · simp only [he, if_false]
        by_cases hl : i < k
        · rw [if_pos hl, if_pos hl, if_pos (by omega), if_pos (by omega)]; omega
        · rw [if_neg hl, if_neg hl, if_neg (by omega), if_neg (by omega)]; simp
    · rw [if_neg hs, if_neg hs]
      simp only [wsum, decide_eq_true_eq]
      rw [if_neg (c := n = i) (by omega)]
      by_cases he : k = i
      · subst he
        rw [hsh hs]
        simp
      · simp only [he, if_false]
        by_cases hl : i < k
        · rw [if_pos hl, if_pos hl, if_pos (by omega), if_pos (by omega)]; omega
        · rw [if_neg hl, if_neg hl, if_neg (by omega), if_neg (by omega)]; simp

/-! ### Assignments are circulations -/
theorem edges_ok {n : Nat} {o : List Sp} {l : List Tr} {c : List Sp} (hB : BOk n o l) (hc : c.length = n) (hv : allV c = true) : ∀ e ∈ edgesL n o l c, EdOk n e := by
  have hn := hB.len
  have h1 : ∀ k, k ≤ n → ∀ e ∈ openEds n o k, EdOk n e := by
    intro k
    induction k with
    | zero => intro _ e he; simp [openEds] at he
    | succ k ih =>
      intro hk e he
      rcases List.mem_append.1 he with he | he
      · exact ih (by omega) e he
      · obtain rfl := List.mem_singleton.1 he
        have hk' : k < o.length := by omega
        have := opOk_iff.1 (hB.op (o.getD k sp0) (by rw [List.getD_eq_getElem?_getD, List.getElem?_eq_getElem hk']; exact List.getElem_mem hk'))
        exact ⟨Nat.le_refl _, by dsimp only; omega, this.1, this.2.1⟩
  have h2 : ∀ k, k ≤ n → ∀ e ∈ closeEds n c k, EdOk n e := by
    intro k
    induction k with
    | zero => intro _ e he; simp [closeEds] at he
    | succ k ih =>
      intro hk e he
      rcases List.mem_append.1 he with he | he
      · exact ih (by omega) e he
      · have hk' : k < c.length := by omega
        have hs := sval_true (allV_mem hv (s := c.getD k sp0) (by rw [List.getD_eq_getElem?_getD, List.getElem?_eq_getElem hk']; exact List.getElem_mem hk'))
        unfold closeEd at he
        rcases List.mem_cons.1 he with rfl | he
        · refine ⟨by dsimp only; omega, Nat.le_refl _, ?_, by dsimp only; omega⟩
          dsimp only; unfold sh; split <;> omega
        · split at he
          · obtain rfl := List.mem_singleton.1 he
            refine ⟨Nat.le_refl _, by dsimp only; omega, ?_, Int.le_refl _⟩
            dsimp only; unfold sh; split <;> omega
          · simp at he
  intro e he
  rcases List.mem_append.1 he with he | he
  · exact h1 n (Nat.le_refl _) e he
  rcases List.mem_append.1 he with he | he
  · obtain ⟨t, ht, rfl⟩ := List.mem_map.1 he
    obtain ⟨a1, a2, a3, a4, _, a5⟩ := trE_iff.1 (hB.tr t ht)
    have := opOk_iff.1 a5
    exact ⟨by show t.frm.toNat ≤ n; omega, by show t.to.toNat ≤ n; omega, this.1, this.2.1⟩
  · exact h2 n (Nat.le_refl _) e he
theorem nodeM_sum (n : Nat) (l : List Tr) (ms : List Int) (i : Nat) (h0 : ∀ t ∈ l, 0 ≤ t.frm ∧ 0 ≤ t.to) : ∀ k, k ≤ l.length → nodeM n l ms i k = ms.getD i 0 + sm k (fun k => if decide ((trEd (l.getD k tr0)).v = i) = true then ms.getD (n + k) 0 else 0) -
    sm k (fun k => if decide ((trEd (l.getD k tr0)).u = i) = true then ms.getD (n + k) 0 else 0)
  | 0, _ => by simp [nodeM, sm]
  | k + 1, hk => by
    have hk' : k < l.length := by omega
    have ht := h0 (l.getD k tr0) (by rw [List.getD_eq_getElem?_getD, List.getElem?_eq_getElem hk']; exact List.getElem_mem hk')
    rw [nodeM, nodeM_sum n l ms i h0 k (by omega)]
    have e1 : (decide ((trEd (l.getD k tr0)).v = i) = true) = ((l.getD k tr0).to = i) := propext (by rw [decide_eq_true_iff]; show (l.getD k tr0).to.toNat = i ↔ _; omega)
    have e2 : (decide ((trEd (l.getD k tr0)).u = i) = true) = ((l.getD k tr0).frm = i) := propext (by rw [decide_eq_true_iff]; show (l.getD k tr0).frm.toNat = i ↔ _; omega)
    simp only [sm, mstep, e1, e2]
    generalize sm k (fun k => if decide ((trEd (l.getD k tr0)).v = i) = true then ms.getD (n + k) 0 else 0) = X
    generalize sm k (fun k => if decide ((trEd (l.getD k tr0)).u = i) = true then ms.getD (n + k) 0 else 0) = Y
    (repeat' split) <;> omega
theorem getD_drop (xs : List Int) (n k : Nat) : (xs.drop n).getD k 0 = xs.getD (n + k) 0 := by
  simp [List.getD_eq_getElem?_getD]
/-- The sums at a node inside, for values that are put together. -/
theorem node_sums {n : Nat} {o : List Sp} {l : List Tr} {c : List Sp} {ms : List Int} {y : Nat → Int} (hms : ms.length = n + l.length) (h0 : ∀ t ∈ l, 0 ≤ t.frm ∧ 0 ≤ t.to) {i : Nat} (hi : i < n) :
    wsum (fun e => decide (e.v = i)) (edgesL n o l c) (ms ++ closeVals c y n) - wsum (fun e => decide (e.u = i)) (edgesL n o l c) (ms ++ closeVals c y n) = nodeM n l ms i l.length - y i := by
  have e : ms ++ closeVals c y n = ms.take n ++ (ms.drop n ++ closeVals c y n) := by rw [← List.append_assoc, List.take_append_drop]
  have l1 : (openEds n o n).length = (ms.take n).length := by rw [openEds_len]; simp; omega
  have l2 : (l.map trEd).length = (ms.drop n).length := by simp; omega
  unfold edgesL
  rw [e, wsum_append _ _ _ _ _ l1, wsum_append _ _ _ _ _ l1, wsum_append _ _ _ _ _ l2, wsum_append _ _ _ _ _ l2]
  obtain ⟨a1, a2⟩ := open_in n o i hi n (ms.take n) (by simp; omega)
  obtain ⟨b1, b2⟩ := close_sum n c y i hi n
  rw [a1, a2, b1, b2, tr_sum _ l _ (by simp; omega), tr_sum _ l _ (by simp; omega), nodeM_sum n l ms i h0 _ (Nat.le_refl _), if_pos hi, if_pos hi, if_pos hi, getD_take hi]
  simp only [getD_drop]
  omega
theorem circ_holds {n : Nat} {o : List Sp} {l : List Tr} {c : List Sp} (hA : bchkA n o l c = 0) {xs : List Int} (h : Circ n (edgesL n o l c) xs) : holdsB n o l c (xs.take (n + l.length)) = true ∧ n + l.length ≤ xs.length := by
  obtain ⟨hb, hc, hv⟩ := bchkA_ok hA
  have hB := bchk_ok hb
  have hn : o.length = n := by have := hB.len; omega
  have h0 : ∀ t ∈ l, 0 ≤ t.frm ∧ 0 ≤ t.to := fun t ht => by have := trE_iff.1 (hB.tr t ht); omega
  obtain ⟨hin, hc2⟩ := h
  obtain ⟨i1, i2⟩ := inside_split hin
  rw [openEds_len] at i1 i2
  obtain ⟨i3, i4⟩ := inside_split i2
  rw [List.drop_drop] at i4
  have L1 := i1.len
  have L3 := i3.len
  have L4 := i4.len
  rw [openEds_len, List.length_take] at L1
  simp only [List.length_map, List.length_take, List.length_drop] at L3 L4
  rw [List.length_map] at i3 i4
  obtain ⟨y, hy, hyb⟩ := close_vals n i4
  have hlen : n + l.length ≤ xs.length := by omega
  have hms : (xs.take (n + l.length)).length = n + l.length := by simp; omega
  have hxs : xs = xs.take (n + l.length) ++ closeVals c y n := by rw [← hy, List.take_append_drop]
  have hnode : ∀ i, i < n → nodeM n l (xs.take (n + l.length)) i l.length = y i := fun i hi => by
    have h1 := node_sums (o := o) (c := c) (y := y) hms h0 hi
    have h2 := hc2 i (by omega)
    rw [← hxs] at h1
    omega
  have hop := (open_inside n o n (xs.take n) (by simp; omega)).1 i1
  have htr := (tr_inside l ((xs.drop n).take l.length) (by simp; omega)).1 i3
  refine ⟨?_, hlen⟩
  unfold holdsB
  rw [decide_eq_true hA, decide_eq_true (by rw [hms]; omega), Bool.true_and, Bool.true_and]
  simp only [Bool.and_eq_true]
  have vmem : ∀ i, i < n → sval (c.getD i sp0) = true := fun i hi => by
    have hi' : i < c.length := by omega
    exact allV_mem hv (by rw [List.getD_eq_getElem?_getD, List.getElem?_eq_getElem hi']; exact List.getElem_mem hi')
  have omem : ∀ i, i < n → sval (o.getD i sp0) = true := fun i hi => by
    have hi' : i < o.length := by omega
    have := hB.op (o.getD i sp0) (by rw [List.getD_eq_getElem?_getD, List.getElem?_eq_getElem hi']; exact List.getElem_mem hi')
    unfold opOk at this; rw [Bool.and_eq_true] at this; exact this.1
  have tmem : ∀ i, i < l.length → sval (l.getD i tr0).mass = true := fun i hi => by
    have := (trE_iff.1 (hB.tr (l.getD i tr0) (by rw [List.getD_eq_getElem?_getD, List.getElem?_eq_getElem hi]; exact List.getElem_mem hi))).2.2.2.2.2
    unfold opOk at this; rw [Bool.and_eq_true] at this; exact this.1
  refine ⟨?_, ?_, ?_⟩
  · refine List.all_eq_true.2 fun i hi => ?_
    have hi := List.mem_range.1 hi
    have := hop i (by omega)
    rw [hasV_iff, getD_take (by omega)]
    rw [getD_take (by omega)] at this
    exact ⟨omem i (by omega), this⟩
  · refine List.all_eq_true.2 fun i hi => ?_
    have hi := List.mem_range.1 hi
    have := htr i hi
    rw [hasV_iff, hn, getD_take (by omega)]
    rw [getD_take hi, getD_drop] at this
    exact ⟨tmem i hi, this⟩
  · refine List.all_eq_true.2 fun i hi => ?_
    have hi := List.mem_range.1 hi
    rw [hasV_iff, hn, hnode i (by omega)]
    exact ⟨vmem i (by omega), hyb i (by omega)⟩
theorem holds_circ {n : Nat} {o : List Sp} {l : List Tr} {c : List Sp} {ms : List Int} (h : holdsB n o l c ms = true) : ∃ xs, Circ n (edgesL n o l c) xs ∧ xs.take (n + l.length) = ms := by
  unfold holdsB at h
  simp only [Bool.and_eq_true, decide_eq_true_eq] at h
  obtain ⟨hA, hms', h1, h2, h3⟩ := h
  obtain ⟨hb, hc, hv⟩ := bchkA_ok hA
  have hB := bchk_ok hb
  have hn : o.length = n := by have := hB.len; omega
  have h0 : ∀ t ∈ l, 0 ≤ t.frm ∧ 0 ≤ t.to := fun t ht => by have := trE_iff.1 (hB.tr t ht); omega
  have hms : ms.length = n + l.length := by omega
  rw [hn] at h1 h2 h3
  have hok := edges_ok hB (by omega) hv
  have hlen : (openEds n o n).length = (ms.take n).length := by rw [openEds_len]; simp; omega
  have hlen2 : (l.map trEd).length = (ms.drop n).length := by simp; omega
  refine ⟨ms ++ closeVals c (fun i => nodeM n l ms i l.length) n, ⟨?_, ?_⟩, by rw [← hms, List.take_left]⟩
  · have e : ms ++ closeVals c (fun i => nodeM n l ms i l.length) n = ms.take n ++ (ms.drop n ++ closeVals c (fun i => nodeM n l ms i l.length) n) := by rw [← List.append_assoc, List.take_append_drop]
    unfold edgesL
    rw [e, inside_append _ _ _ _ hlen, inside_append _ _ _ _ hlen2]
    refine ⟨(open_inside n o n _ (by simp; omega)).2 fun i hi => ?_, (tr_inside l _ (by simp; omega)).2 fun i hi => ?_, close_inside n fun i hi => ?_⟩
    · rw [getD_take hi]
      exact (hasV_iff.1 (List.all_eq_true.1 h1 i (List.mem_range.2 hi))).2
    · rw [getD_drop]
      exact (hasV_iff.1 (List.all_eq_true.1 h2 i (List.mem_range.2 hi))).2
    · exact (hasV_iff.1 (List.all_eq_true.1 h3 i (List.mem_range.2 hi))).2
  · have hlt : ∀ i, i < n → wsum (fun e => decide (e.v = i)) (edgesL n o l c) (ms ++ closeVals c (fun i => nodeM n l ms i l.length) n) = wsum (fun e => decide (e.u = i)) (edgesL n o l c) (ms ++ closeVals c (fun i => nodeM n l ms i l.length) n) := fun i hi => by
      have := node_sums (o := o) (c := c) (y := fun i => nodeM n l ms i l.length) hms h0 hi
      (try dsimp only at this)
      omega
    intro v hv2
    by_cases he : v = n
    · subst he
      have ht := wsum_tot v (edgesL v o l c) (ms ++ closeVals c (fun i => nodeM v l ms i l.length) v) fun e he => ⟨(hok e he).u, (hok e he).v⟩
      simp only [sm] at ht
      rw [sm_congr (g := fun i => wsum (fun e => decide (e.u = i)) (edgesL v o l c) (ms ++ closeVals c (fun i => nodeM v l ms i l.length) v)) fun i hi => hlt i hi] at ht
      omega
    · exact hlt v (by omega)

end Go.Proofs.Ythaoclocachbaaa
