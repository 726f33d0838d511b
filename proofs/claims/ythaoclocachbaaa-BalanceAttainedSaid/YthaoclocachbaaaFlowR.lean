/- The plain law of circulations, third part: a search tree, the push along its way, Hoffman's condition is sufficient. No program in sight. -/
import Derived.Test.YthaoclocachbaaaFlowQ
namespace Go.Proofs.Ythaoclocachbaaa
set_option linter.unusedVariables false
set_option linter.unusedSimpArgs false

/-- The nodes D that were reached from s, with the node B x before each, and ranks that fall on the way back. -/
structure Tree (N : Nat) (R : Nat → Nat → Int) (s : Nat) (D : Nat → Bool) (B : Nat → Nat) (rk : Nat → Nat) : Prop where
  root : D s = true
  lt : ∀ x, D x = true → x < N
  up : ∀ x, D x = true → x ≠ s → D (B x) = true ∧ rk (B x) < rk x ∧ 0 < R (B x) x
/-- The way back. -/
def itr (B : Nat → Nat) (x : Nat) : Nat → Nat
  | 0 => x
  | j + 1 => B (itr B x j)
theorem itr_succ (B : Nat → Nat) (x : Nat) : ∀ j, itr B x (j + 1) = itr B (B x) j
  | 0 => rfl
  | j + 1 => by show B (itr B x (j + 1)) = B (itr B (B x) j); rw [itr_succ B x j]
theorem Tree.way {N : Nat} {R : Nat → Nat → Int} {s : Nat} {D : Nat → Bool} {B rk : Nat → Nat} (h : Tree N R s D B rk) {t : Nat} (ht : D t = true) : ∃ q, itr B t q = s ∧ ∀ j, j < q → itr B t j ≠ s := by
  have key : ∀ k t, rk t ≤ k → D t = true → ∃ q, itr B t q = s ∧ ∀ j, j < q → itr B t j ≠ s := by
    intro k
    induction k with
    | zero =>
      intro t hk ht
      by_cases he : t = s
      · exact ⟨0, he, fun j hj => absurd hj (Nat.not_lt_zero _)⟩
      · have := h.up t ht he; omega
    | succ k ih =>
      intro t hk ht
      by_cases he : t = s
      · exact ⟨0, he, fun j hj => absurd hj (Nat.not_lt_zero _)⟩
      · obtain ⟨h1, h2, _⟩ := h.up t ht he
        obtain ⟨q, hq, hj⟩ := ih (B t) (by omega) h1
        refine ⟨q + 1, by rw [itr_succ]; exact hq, fun j hjq => ?_⟩
        cases j with
        | zero => exact he
        | succ j => rw [itr_succ]; exact hj j (by omega)
  exact key _ t (Nat.le_refl _) ht
theorem Tree.on {N : Nat} {R : Nat → Nat → Int} {s : Nat} {D : Nat → Bool} {B rk : Nat → Nat} (h : Tree N R s D B rk) {t : Nat} (ht : D t = true) {q : Nat} (hq : ∀ j, j < q → itr B t j ≠ s) : ∀ j, j ≤ q → D (itr B t j) = true
  | 0, _ => ht
  | j + 1, hj => (h.up _ (h.on ht hq j (by omega)) (hq j (by omega))).1
theorem Tree.down {N : Nat} {R : Nat → Nat → Int} {s : Nat} {D : Nat → Bool} {B rk : Nat → Nat} (h : Tree N R s D B rk) {t : Nat} (ht : D t = true) {q : Nat} (hq : ∀ j, j < q → itr B t j ≠ s) {i : Nat} : ∀ j, i < j → j ≤ q → rk (itr B t j) < rk (itr B t i)
  | 0, h1, _ => by omega
  | j + 1, h1, hj => by
    have h2 := (h.up _ (h.on ht hq j (by omega)) (hq j (by omega))).2.1
    by_cases he : i = j
    · subst he; exact h2
    · have := h.down ht hq (i := i) j (by omega) (by omega)
      exact Nat.lt_trans h2 this
theorem Tree.inj {N : Nat} {R : Nat → Nat → Int} {s : Nat} {D : Nat → Bool} {B rk : Nat → Nat} (h : Tree N R s D B rk) {t : Nat} (ht : D t = true) {q : Nat} (hq : ∀ j, j < q → itr B t j ≠ s) {i j : Nat} (hi : i < j) (hj : j ≤ q) : itr B t i ≠ itr B t j := by
  intro he
  have := h.down ht hq j hi hj
  rw [he] at this
  omega

/-- What is left behind j steps of a push of d. -/
def pushR (R : Nat → Nat → Int) (B : Nat → Nat) (t : Nat) (d : Int) : Nat → Nat → Nat → Int
  | 0 => R
  | j + 1 => stepR (pushR R B t d j) (itr B t (j + 1)) (itr B t j) d
theorem push_mid {n : Nat} {cap R : Nat → Nat → Int} {F d : Int} {D : Nat → Bool} {B rk : Nat → Nat} (h : ResOk n cap R F) (hT : Tree (n + 3) R (n + 1) D B rk) (ht : D (n + 2) = true) {q : Nat}
    (hq : ∀ j, j < q → itr B (n + 2) j ≠ n + 1) (hd : 0 ≤ d) (hle : ∀ j, j < q → d ≤ R (itr B (n + 2) (j + 1)) (itr B (n + 2) j)) :
    ∀ j, j ≤ q → ResMid n cap (pushR R B (n + 2) d j) F d (itr B (n + 2) j) ∧ ∀ i, j ≤ i → i < q → pushR R B (n + 2) d j (itr B (n + 2) (i + 1)) (itr B (n + 2) i) = R (itr B (n + 2) (i + 1)) (itr B (n + 2) i)
  | 0, _ => ⟨mid_start h, fun _ _ _ => rfl⟩
  | j + 1, hj => by
    obtain ⟨h1, h2⟩ := push_mid h hT ht hq hd hle j (by omega)
    have l1 := hT.lt _ (hT.on ht hq (j + 1) hj)
    have l0 := hT.lt _ (hT.on ht hq j (by omega))
    have n0 : itr B (n + 2) 0 ≠ itr B (n + 2) (j + 1) := hT.inj ht hq (by omega) hj
    have n0' : itr B (n + 2) 0 = n + 2 := rfl
    have n1 : itr B (n + 2) j ≠ itr B (n + 2) (j + 1) := hT.inj ht hq (by omega) hj
    refine ⟨mid_step h1 (by omega) l0 (fun e => n1 e.symm) hd (by rw [h2 j (Nat.le_refl _) (by omega)]; exact hle j (by omega)), fun i hi hiq => ?_⟩
    have m1 : itr B (n + 2) j ≠ itr B (n + 2) i := hT.inj ht hq (by omega) (by omega)
    have m2 : itr B (n + 2) j ≠ itr B (n + 2) (i + 1) := hT.inj ht hq (by omega) (by omega)
    show stepR (pushR R B (n + 2) d j) (itr B (n + 2) (j + 1)) (itr B (n + 2) j) d _ _ = _
    rw [stepR_other d (fun e => m1 e.2.symm) (fun e => m2 e.1.symm)]
    exact h2 i (by omega) hiq
theorem push_ok {n : Nat} {cap R : Nat → Nat → Int} {F d : Int} {D : Nat → Bool} {B rk : Nat → Nat} (h : ResOk n cap R F) (hT : Tree (n + 3) R (n + 1) D B rk) (ht : D (n + 2) = true) {q : Nat}
    (hs : itr B (n + 2) q = n + 1) (hq : ∀ j, j < q → itr B (n + 2) j ≠ n + 1) (hd : 0 ≤ d) (hle : ∀ j, j < q → d ≤ R (itr B (n + 2) (j + 1)) (itr B (n + 2) j)) : ResOk n cap (pushR R B (n + 2) d q) (F + d) := by
  have := (push_mid h hT ht hq hd hle q (Nat.le_refl _)).1
  rw [hs] at this
  exact mid_end this

/-- A tree grows by a node. -/
theorem Tree.grow {N : Nat} {R : Nat → Nat → Int} {s : Nat} {D : Nat → Bool} {B rk : Nat → Nat} (h : Tree N R s D B rk) {u v : Nat} (hu : D u = true) (hv : D v = false) (hN : v < N) (hR : 0 < R u v) :
    Tree N R s (fun x => if x = v then true else D x) (fun x => if x = v then u else B x) (fun x => if x = v then rk u + 1 else rk x) := by
  have huv : u ≠ v := by rintro rfl; rw [hu] at hv; cases hv
  refine ⟨?_, fun x hx => ?_, fun x hx hs => ?_⟩
  · show (if s = v then true else D s) = true
    split
    · rfl
    · exact h.root
  · by_cases he : x = v
    · subst he; exact hN
    · exact h.lt x (by simpa [he] using hx)
  · by_cases he : x = v
    · subst he
      simp only [if_true, huv, if_false]
      exact ⟨hu, by omega, hR⟩
    · simp only [he, if_false] at hx ⊢
      obtain ⟨h1, h2, h3⟩ := h.up x hx hs
      have hb : B x ≠ v := by rintro hb; rw [hb, hv] at h1; cases h1
      simp only [hb, if_false]
      exact ⟨h1, h2, h3⟩
/-- How many nodes below N are not reached. -/
def notIn (D : Nat → Bool) : Nat → Nat
  | 0 => 0
  | k + 1 => notIn D k + if D k = true then 0 else 1
theorem notIn_grow {D : Nat → Bool} {v : Nat} (hv : D v = false) : ∀ {N : Nat}, notIn (fun x => if x = v then true else D x) N + (if v < N then 1 else 0) = notIn D N
  | 0 => by simp [notIn]
  | N + 1 => by
    have := notIn_grow hv (N := N)
    simp only [notIn]
    by_cases he : N = v
    · subst he
      rw [if_neg (by omega)] at this
      rw [if_pos (c := (if N = N then true else D N) = true) (by simp), if_pos (by omega), hv, if_neg (by simp)]
      omega
    · have : (v < N + 1) = (v < N) := propext ⟨fun _ => by omega, fun _ => by omega⟩
      simp only [this, he, if_false]
      omega
theorem tree_closed {N : Nat} {R : Nat → Nat → Int} {s : Nat} : ∀ (k : Nat) {D : Nat → Bool} {B rk : Nat → Nat}, notIn D N ≤ k → Tree N R s D B rk →
    ∃ D' B' rk', Tree N R s D' B' rk' ∧ ∀ u v, D' u = true → v < N → D' v = false → ¬ 0 < R u v := by
  intro k
  induction k with
  | zero =>
    intro D B rk hk hT
    refine ⟨D, B, rk, hT, fun u v hu hv hD _ => ?_⟩
    have := notIn_grow (N := N) hD
    rw [if_pos hv] at this
    omega
  | succ k ih =>
    intro D B rk hk hT
    by_cases hc : ∃ u v, D u = true ∧ v < N ∧ D v = false ∧ 0 < R u v
    · obtain ⟨u, v, hu, hv, hD, hR⟩ := hc
      have := notIn_grow (N := N) hD
      rw [if_pos hv] at this
      exact ih (by omega) (hT.grow hu hD hv hR)
    · exact ⟨D, B, rk, hT, fun u v hu hv hD hR => hc ⟨u, v, hu, hv, hD, hR⟩⟩

theorem cap_nonneg {n s t : Nat} {l : List Ed} (hl : ∀ e ∈ l, EdOk n e) (u v : Nat) : 0 ≤ capOf s t l u v := by
  induction l with
  | nil => exact Int.le_refl _
  | cons e l ih =>
    have he := hl e (by simp)
    have := ih fun x hx => hl x (by simp [hx])
    have h1 := he.lo
    have h2 := he.hi
    simp only [capOf]
    (repeat' split) <;> omega
theorem res_start {n : Nat} {l : List Ed} (hl : ∀ e ∈ l, EdOk n e) : ResOk n (capOf (n + 1) (n + 2) l) (capOf (n + 1) (n + 2) l) 0 := by
  refine ⟨fun u v _ _ => cap_nonneg hl u v, fun u v _ _ => rfl, fun u _ => sm_zero fun v _ => by omega, sm_zero fun v _ => by omega⟩
theorem flow_le {n : Nat} {l : List Ed} {R : Nat → Nat → Int} {F : Int} (hl : ∀ e ∈ l, EdOk n e) (h : ResOk n (capOf (n + 1) (n + 2) l) R F) : F ≤ needOf l := by
  rw [← h.src, ← cap_src hl]
  exact sm_le fun v hv => by have := h.nonneg (n + 1) v (by omega) hv; omega
/-- Hoffman's condition is sufficient. -/
theorem hoffman {n : Nat} {l : List Ed} (hl : ∀ e ∈ l, EdOk n e) (hT : ∀ T : Nat → Bool, 0 ≤ roomOf T l) : ∃ xs, Circ n l xs := by
  have key : ∀ (k : Nat) (R : Nat → Nat → Int) (F : Int), needOf l - F ≤ k → ResOk n (capOf (n + 1) (n + 2) l) R F → ∃ R', ResOk n (capOf (n + 1) (n + 2) l) R' (needOf l) := by
    intro k
    induction k with
    | zero =>
      intro R F hk h
      have : F = needOf l := by have := flow_le hl h; omega
      exact ⟨R, this ▸ h⟩
    | succ k ih =>
      intro R F hk h
      by_cases hF : F = needOf l
      · exact ⟨R, hF ▸ h⟩
      have hF' := flow_le hl h
      have t0 : Tree (n + 3) R (n + 1) (fun x => decide (x = n + 1)) (fun x => x) (fun x => x) :=
        ⟨by simp, fun x hx => by have : x = n + 1 := by simpa using hx
                                 omega, fun x hx hs => absurd (by simpa using hx) hs⟩
      obtain ⟨D, B, rk, t1, hcl⟩ := tree_closed _ (Nat.le_refl _) t0
      cases ht : D (n + 2) with
      | true =>
        obtain ⟨q, hs, hq⟩ := t1.way ht
        refine ih _ (F + 1) (by omega) (push_ok h t1 ht hs hq (by omega) fun j hj => ?_)
        have := (t1.up _ (t1.on ht hq j (by omega)) (hq j hj)).2.2
        show 1 ≤ R (B (itr B (n + 2) j)) (itr B (n + 2) j)
        omega
      | false =>
        have := stuck_room hl h D t1.root ht (fun u v hu hv h1 h2 => by
          have h3 := hcl u v h1 hv h2
          have h4 := h.nonneg u v hu hv
          omega) (by omega)
        have := hT fun v => !D v
        omega
  obtain ⟨R, hR⟩ := key (needOf l).toNat _ 0 (by omega) (res_start hl)
  exact ⟨_, give_circ hl hR⟩

end Go.Proofs.Ythaoclocachbaaa
