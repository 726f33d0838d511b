/- The plain law of circulations, continued: one step of a push; the division of a maximal flow among the edges is a circulation; and a circulation meets Hoffman's condition. No program in sight. -/
import Derived.Test.YthaoclocachbaaaFlowP
namespace Go.Proofs.Ythaoclocachbaaa
set_option linter.unusedVariables false
set_option linter.unusedSimpArgs false

theorem upd_same (R : Nat → Nat → Int) (a b : Nat) (x : Int) : upd R a b x a b = x := by simp [upd]
theorem upd_other {R : Nat → Nat → Int} {a b u v : Nat} (x : Int) (h : ¬ (u = a ∧ v = b)) : upd R a b x u v = R u v := by simp [upd, h]

/-! ### One step of a push -/
/-- In the middle of a push of d: it has come (from the sink backwards) to the node c. -/
structure ResMid (n : Nat) (cap R : Nat → Nat → Int) (F d : Int) (c : Nat) : Prop where
  nonneg : ∀ u v, u < n + 3 → v < n + 3 → 0 ≤ R u v
  sym : ∀ u v, u < n + 3 → v < n + 3 → R u v + R v u = cap u v + cap v u
  out : ∀ u, u < n + 2 → sm (n + 3) (fun v => cap u v - R u v) = (if u = n + 1 then F else 0) + (if u = c then d else 0)
theorem mid_start {n : Nat} {cap R : Nat → Nat → Int} {F d : Int} (h : ResOk n cap R F) : ResMid n cap R F d (n + 2) := by
  refine ⟨h.nonneg, h.sym, fun u hu => ?_⟩
  rw [if_neg (c := u = n + 2) (by omega)]
  by_cases he : u = n + 1
  · subst he; rw [if_pos rfl, h.src]; omega
  · rw [if_neg he, h.node u (by omega)]; omega
theorem mid_end {n : Nat} {cap R : Nat → Nat → Int} {F d : Int} (h : ResMid n cap R F d (n + 1)) : ResOk n cap R (F + d) := by
  refine ⟨h.nonneg, h.sym, fun u hu => ?_, ?_⟩
  · rw [h.out u (by omega), if_neg (by omega), if_neg (by omega)]; rfl
  · rw [h.out (n + 1) (by omega), if_pos rfl, if_pos rfl]
theorem sm_change {n a : Nat} (ha : a < n) {f g : Nat → Int} {x : Int} (h : ∀ i, i < n → i ≠ a → g i = f i) (hx : g a = f a + x) : sm n g = sm n f + x := by
  have : ∀ i, i < n → g i = f i + if i = a then x else 0 := by
    intro i hi
    by_cases he : i = a
    · subst he; rw [if_pos rfl, hx]
    · rw [if_neg he, h i hi he]; omega
  rw [sm_congr this, sm_add, sm_one ha]
/-- The step: d along the edge from p to c. -/
def stepR (R : Nat → Nat → Int) (p c : Nat) (d : Int) : Nat → Nat → Int := upd (upd R p c (R p c - d)) c p (R c p + d)
theorem stepR_other {R : Nat → Nat → Int} {p c u v : Nat} (d : Int) (h1 : ¬ (u = p ∧ v = c)) (h2 : ¬ (u = c ∧ v = p)) : stepR R p c d u v = R u v := by
  unfold stepR; rw [upd_other _ h2, upd_other _ h1]
theorem mid_step {n : Nat} {cap R : Nat → Nat → Int} {F d : Int} {p c : Nat} (h : ResMid n cap R F d c) (hp : p < n + 2) (hc : c < n + 3) (hpc : p ≠ c) (hd : 0 ≤ d) (hr : d ≤ R p c) :
    ResMid n cap (stepR R p c d) F d p := by
  have e1 : stepR R p c d p c = R p c - d := by
    unfold stepR; rw [upd_other _ (by omega), upd_same]
  have e2 : stepR R p c d c p = R c p + d := by unfold stepR; rw [upd_same]
  refine ⟨fun u v hu hv => ?_, fun u v hu hv => ?_, fun u hu => ?_⟩
  · by_cases c1 : u = p ∧ v = c
    · obtain ⟨rfl, rfl⟩ := c1; rw [e1]; omega
    · by_cases c2 : u = c ∧ v = p
      · obtain ⟨rfl, rfl⟩ := c2; rw [e2]; have := h.nonneg u v hu hv; omega
      · rw [stepR_other d c1 c2]; exact h.nonneg u v hu hv
  · have hs := h.sym u v hu hv
    by_cases c1 : u = p ∧ v = c
    · obtain ⟨rfl, rfl⟩ := c1; rw [e1, e2]; omega
    · by_cases c2 : u = c ∧ v = p
      · obtain ⟨rfl, rfl⟩ := c2; rw [e2, e1]; omega
      · rw [stepR_other d c1 c2, stepR_other d (by omega) (by omega)]; exact hs
  · have ho := h.out u hu
    by_cases c1 : u = p
    · subst c1
      rw [sm_change (a := c) (x := d) hc (f := fun v => cap u v - R u v) (fun i hi hne => by rw [stepR_other d (by omega) (by omega)]) (by rw [e1]; omega), ho, if_neg (c := u = c) hpc, if_pos rfl]
      omega
    · by_cases c2 : u = c
      · subst c2
        rw [sm_change (a := p) (x := -d) (by omega) (f := fun v => cap u v - R u v) (fun i hi hne => by rw [stepR_other d (by omega) (by omega)]) (by rw [e2]; omega), ho, if_pos rfl, if_neg (c := u = p) c1]
        omega
      · rw [sm_congr (g := fun v => cap u v - R u v) fun v hv => by rw [stepR_other d (by omega) (by omega)], ho, if_neg c2, if_neg c1]

/-! ### The division of a maximal flow -/
/-- How much of w(u, v) the edges of a list from u to v can take. -/
def room2 : List Ed → Nat → Nat → Int
  | [], _, _ => 0
  | e :: l, u, v => (if u = e.u ∧ v = e.v then e.hi - e.lo else 0) + room2 l u v
theorem give_inside (w : Nat → Nat → Int) : ∀ (l : List Ed) (D : Nat → Nat → Int), (∀ e ∈ l, e.lo ≤ e.hi) → Inside l (give w l D) := by
  intro l
  induction l with
  | nil => intro _ _; trivial
  | cons e l ih =>
    intro D h
    have he := h e (by simp)
    simp only [give, Inside]
    refine ⟨?_, ?_, ih _ fun x hx => h x (by simp [hx])⟩
    · split <;> split <;> omega
    · split <;> split <;> omega
theorem room2_nonneg {l : List Ed} (h : ∀ e ∈ l, e.lo ≤ e.hi) (u v : Nat) : 0 ≤ room2 l u v := by
  induction l with
  | nil => exact Int.le_refl _
  | cons e l ih =>
    have he := h e (by simp)
    have := ih fun x hx => h x (by simp [hx])
    simp only [room2]
    split <;> omega
/-- What the edges from u to v get together, beyond their lower bounds. -/
def got : List Ed → List Int → Nat → Nat → Int
  | e :: l, x :: xs, u, v => (if u = e.u ∧ v = e.v then x - e.lo else 0) + got l xs u v
  | _, _, _, _ => 0
theorem give_got (w : Nat → Nat → Int) : ∀ (l : List Ed) (D : Nat → Nat → Int), (∀ e ∈ l, e.lo ≤ e.hi) → (∀ e ∈ l, 0 ≤ D e.u e.v) →
    ∀ u v, (∃ e ∈ l, e.u = u ∧ e.v = v) → (w u v ≤ D u v ∨ w u v - D u v ≤ room2 l u v) → got l (give w l D) u v = if w u v - D u v < 0 then 0 else w u v - D u v := by
  intro l
  induction l with
  | nil => rintro D _ _ u v ⟨e, he, _⟩; cases he
  | cons e l ih =>
    intro D h hD u v hex hr
    have he := h e (by simp)
    have hrn := room2_nonneg (l := l) (fun x hx => h x (List.mem_cons_of_mem _ hx)) u v
    simp only [give, got]
    generalize hk : (if (if w e.u e.v - D e.u e.v < 0 then 0 else w e.u e.v - D e.u e.v) < e.hi - e.lo then (if w e.u e.v - D e.u e.v < 0 then 0 else w e.u e.v - D e.u e.v) else e.hi - e.lo) = k
    have hk0 : 0 ≤ k := by rw [← hk]; split <;> split <;> omega
    have hD' : ∀ x ∈ l, 0 ≤ upd D e.u e.v (D e.u e.v + k) x.u x.v := fun x hx => by
      by_cases c : x.u = e.u ∧ x.v = e.v
      · rw [c.1, c.2, upd_same]; have := hD e (by simp); omega
      · rw [upd_other _ c]; exact hD x (by simp [hx])
    simp only [room2] at hr
    by_cases c : u = e.u ∧ v = e.v
    · obtain ⟨rfl, rfl⟩ := c
      simp only [and_self, if_true] at hr ⊢
      by_cases hin : ∃ x ∈ l, x.u = e.u ∧ x.v = e.v
      · rw [ih _ (fun x hx => h x (by simp [hx])) hD' e.u e.v hin (by rw [upd_same]; rw [← hk]; split <;> split <;> omega), upd_same]
        rw [← hk]
        (repeat' split) <;> omega
      · have hg : ∀ (l : List Ed) (xs : List Int), (¬ ∃ x ∈ l, x.u = e.u ∧ x.v = e.v) → got l xs e.u e.v = 0 := by
          intro l
          induction l with
          | nil => intro xs _; cases xs <;> rfl
          | cons y l ih2 =>
            intro xs hn
            cases xs with
            | nil => rfl
            | cons z xs =>
              simp only [got]
              rw [if_neg fun hh => hn ⟨y, by simp, hh.1.symm, hh.2.symm⟩, ih2 xs fun ⟨x, hx, h2⟩ => hn ⟨x, by simp [hx], h2⟩]
              rfl
        have hr2 : ∀ (l : List Ed), (¬ ∃ x ∈ l, x.u = e.u ∧ x.v = e.v) → room2 l e.u e.v = 0 := by
          intro l
          induction l with
          | nil => intro _; rfl
          | cons y l ih2 =>
            intro hn
            simp only [room2]
            rw [if_neg fun hh => hn ⟨y, by simp, hh.1.symm, hh.2.symm⟩, ih2 fun ⟨x, hx, h2⟩ => hn ⟨x, by simp [hx], h2⟩]
            rfl
        rw [hg l _ hin]
        rw [hr2 l hin] at hr
        rw [← hk]
        (repeat' split) <;> omega
    · rw [if_neg c] at hr ⊢
      have hex' : ∃ x ∈ l, x.u = u ∧ x.v = v := by
        obtain ⟨x, hx, h2⟩ := hex
        rcases List.mem_cons.1 hx with rfl | hx
        · exact absurd ⟨h2.1.symm, h2.2.symm⟩ c
        · exact ⟨x, hx, h2⟩
      rw [ih _ (fun x hx => h x (by simp [hx])) hD' u v hex' (by rw [upd_other _ c]; omega), upd_other _ c]
      omega

theorem got_none {l : List Ed} {u v : Nat} : ∀ (xs : List Int), (¬ ∃ x ∈ l, x.u = u ∧ x.v = v) → got l xs u v = 0 := by
  induction l with
  | nil => intro xs _; cases xs <;> rfl
  | cons y l ih2 =>
    intro xs hn
    cases xs with
    | nil => rfl
    | cons z xs =>
      simp only [got]
      rw [if_neg fun hh => hn ⟨y, by simp, hh.1.symm, hh.2.symm⟩, ih2 xs fun ⟨x, hx, h2⟩ => hn ⟨x, by simp [hx], h2⟩]
      rfl
theorem room2_cap {n : Nat} {l : List Ed} {u v : Nat} (hu : u ≤ n) (hv : v ≤ n) : room2 l u v = capOf (n + 1) (n + 2) l u v := by
  induction l with
  | nil => rfl
  | cons e l ih =>
    simp only [room2, capOf, ih]
    rw [if_neg (c := u = n + 1 ∧ v = e.v) (by omega), if_neg (c := u = e.u ∧ v = n + 2) (by omega)]
    omega
theorem room2_none {l : List Ed} {u v : Nat} (hn : ¬ ∃ x ∈ l, x.u = u ∧ x.v = v) : room2 l u v = 0 := by
  induction l with
  | nil => rfl
  | cons y l ih2 =>
    simp only [room2]
    rw [if_neg fun hh => hn ⟨y, by simp, hh.1.symm, hh.2.symm⟩, ih2 fun ⟨x, hx, h2⟩ => hn ⟨x, by simp [hx], h2⟩]
    rfl
theorem wsum_in {n : Nat} {v : Nat} (hv : v ≤ n) : ∀ {l : List Ed} {xs : List Int}, (∀ e ∈ l, EdOk n e) → Inside l xs →
    wsum (fun e => decide (e.v = v)) l xs = sm (n + 1) (fun u => got l xs u v) + sm (n + 3) (fun x => capOf (n + 1) (n + 2) l x v) - sm (n + 1) (fun u => room2 l u v) := by
  intro l
  induction l with
  | nil =>
    intro xs _ hi
    cases xs with
    | nil => simp [wsum, got, room2, capOf, sm_zero]
    | cons x xs => exact hi.elim
  | cons e l ih =>
    intro xs hok hi
    cases xs with
    | nil => exact hi.elim
    | cons x xs =>
      obtain ⟨_, _, hi'⟩ := hi
      have he := hok e (by simp)
      have b1 := he.u
      have b2 := he.v
      have ih := ih (fun y hy => hok y (by simp [hy])) hi'
      have g1 : sm (n + 1) (fun u => got (e :: l) (x :: xs) u v) = (if e.v = v then x - e.lo else 0) + sm (n + 1) (fun u => got l xs u v) := by
        have : ∀ u, u < n + 1 → got (e :: l) (x :: xs) u v = (if u = e.u then (if e.v = v then x - e.lo else 0) else 0) + got l xs u v := by
          intro u _
          simp only [got]
          by_cases c1 : u = e.u <;> by_cases c2 : e.v = v
          · subst c2; simp [c1]
          · have : ¬ v = e.v := fun h => c2 h.symm
            simp [c1, c2, this]
          · simp [c1]
          · simp [c1]
        rw [sm_congr this, sm_add, sm_one (by omega)]
      have g2 : sm (n + 1) (fun u => room2 (e :: l) u v) = (if e.v = v then e.hi - e.lo else 0) + sm (n + 1) (fun u => room2 l u v) := by
        have : ∀ u, u < n + 1 → room2 (e :: l) u v = (if u = e.u then (if e.v = v then e.hi - e.lo else 0) else 0) + room2 l u v := by
          intro u _
          simp only [room2]
          by_cases c1 : u = e.u <;> by_cases c2 : e.v = v
          · subst c2; simp [c1]
          · have : ¬ v = e.v := fun h => c2 h.symm
            simp [c1, c2, this]
          · simp [c1]
          · simp [c1]
        rw [sm_congr this, sm_add, sm_one (by omega)]
      have g3 : sm (n + 3) (fun u => capOf (n + 1) (n + 2) (e :: l) u v) = (if e.v = v then e.hi else 0) + sm (n + 3) (fun u => capOf (n + 1) (n + 2) l u v) := by
        have : ∀ u, u < n + 3 → capOf (n + 1) (n + 2) (e :: l) u v = (if u = e.u then (if e.v = v then e.hi - e.lo else 0) else 0) + ((if u = n + 1 then (if e.v = v then e.lo else 0) else 0) + capOf (n + 1) (n + 2) l u v) := by
          intro u _
          simp only [capOf]
          rw [if_neg (c := u = e.u ∧ v = n + 2) (by omega)]
          (repeat' split) <;> omega
        rw [sm_congr this, sm_add, sm_add, sm_one (by omega), sm_one (by omega)]
        split <;> omega
      rw [g1, g2, g3]
      simp only [wsum, decide_eq_true_eq]
      rw [ih]
      split <;> omega
theorem wsum_out {n : Nat} {v : Nat} (hv : v ≤ n) : ∀ {l : List Ed} {xs : List Int}, (∀ e ∈ l, EdOk n e) → Inside l xs →
    wsum (fun e => decide (e.u = v)) l xs = sm (n + 1) (fun u => got l xs v u) + sm (n + 3) (fun x => capOf (n + 1) (n + 2) l v x) - sm (n + 1) (fun u => room2 l v u) := by
  intro l
  induction l with
  | nil =>
    intro xs _ hi
    cases xs with
    | nil => simp [wsum, got, room2, capOf, sm_zero]
    | cons x xs => exact hi.elim
  | cons e l ih =>
    intro xs hok hi
    cases xs with
    | nil => exact hi.elim
    | cons x xs =>
      obtain ⟨_, _, hi'⟩ := hi
      have he := hok e (by simp)
      have b1 := he.u
      have b2 := he.v
      have ih := ih (fun y hy => hok y (by simp [hy])) hi'
      have g1 : sm (n + 1) (fun u => got (e :: l) (x :: xs) v u) = (if e.u = v then x - e.lo else 0) + sm (n + 1) (fun u => got l xs v u) := by
        have : ∀ u, u < n + 1 → got (e :: l) (x :: xs) v u = (if u = e.v then (if e.u = v then x - e.lo else 0) else 0) + got l xs v u := by
          intro u _
          simp only [got]
          by_cases c1 : u = e.v <;> by_cases c2 : e.u = v
          · subst c2; simp [c1]
          · have : ¬ v = e.u := fun h => c2 h.symm
            simp [c1, c2, this]
          · simp [c1]
          · simp [c1]
        rw [sm_congr this, sm_add, sm_one (by omega)]
      have g2 : sm (n + 1) (fun u => room2 (e :: l) v u) = (if e.u = v then e.hi - e.lo else 0) + sm (n + 1) (fun u => room2 l v u) := by
        have : ∀ u, u < n + 1 → room2 (e :: l) v u = (if u = e.v then (if e.u = v then e.hi - e.lo else 0) else 0) + room2 l v u := by
          intro u _
          simp only [room2]
          by_cases c1 : u = e.v <;> by_cases c2 : e.u = v
          · subst c2; simp [c1]
          · have : ¬ v = e.u := fun h => c2 h.symm
            simp [c1, c2, this]
          · simp [c1]
          · simp [c1]
        rw [sm_congr this, sm_add, sm_one (by omega)]
      have g3 : sm (n + 3) (fun u => capOf (n + 1) (n + 2) (e :: l) v u) = (if e.u = v then e.hi else 0) + sm (n + 3) (fun u => capOf (n + 1) (n + 2) l v u) := by
        have : ∀ u, u < n + 3 → capOf (n + 1) (n + 2) (e :: l) v u = (if u = e.v then (if e.u = v then e.hi - e.lo else 0) else 0) + ((if u = n + 2 then (if e.u = v then e.lo else 0) else 0) + capOf (n + 1) (n + 2) l v u) := by
          intro u _
          simp only [capOf]
          rw [if_neg (c := v = n + 1 ∧ u = e.v) (by omega)]
          (repeat' split) <;> omega
        rw [sm_congr this, sm_add, sm_add, sm_one (by omega), sm_one (by omega)]
        have eta : sm (n + 3) (fun u => capOf (n + 1) (n + 2) l v u) = sm (n + 3) (capOf (n + 1) (n + 2) l v) := rfl
        split <;> omega
      rw [g1, g2, g3]
      simp only [wsum, decide_eq_true_eq]
      rw [ih]
      split <;> omega

theorem sm_last3 (n : Nat) (f : Nat → Int) : sm (n + 3) f = sm (n + 1) f + f (n + 1) + f (n + 2) := rfl

/-- A maximal flow, divided among the edges, is a circulation. -/
theorem give_circ {n : Nat} {l : List Ed} {R : Nat → Nat → Int} (hl : ∀ e ∈ l, EdOk n e) (h : ResOk n (capOf (n + 1) (n + 2) l) R (needOf l)) :
    Circ n l (give (fun u v => capOf (n + 1) (n + 2) l u v - R u v) l (fun _ _ => 0)) := by
  have hlo : ∀ e ∈ l, e.lo ≤ e.hi := fun e he => (hl e he).hi
  have hin := give_inside (fun u v => capOf (n + 1) (n + 2) l u v - R u v) l (fun _ _ => 0) hlo
  obtain ⟨full1, full2⟩ := full hl h
  have hgot : ∀ u v, u ≤ n → v ≤ n → got l (give (fun u v => capOf (n + 1) (n + 2) l u v - R u v) l (fun _ _ => 0)) u v =
      if capOf (n + 1) (n + 2) l u v - R u v < 0 then 0 else capOf (n + 1) (n + 2) l u v - R u v := by
    intro u v hu hv
    have hR := h.nonneg u v (by omega) (by omega)
    by_cases hex : ∃ e ∈ l, e.u = u ∧ e.v = v
    · have := give_got (fun u v => capOf (n + 1) (n + 2) l u v - R u v) l (fun _ _ => 0) hlo (fun _ _ => Int.le_refl _) u v hex (.inr (by rw [room2_cap hu hv]; (try dsimp only); omega))
      simp only [Int.sub_zero] at this
      exact this
    · rw [got_none _ hex]
      have e0 : capOf (n + 1) (n + 2) l u v = 0 := by rw [← room2_cap hu hv, room2_none hex]
      rw [e0]
      split <;> omega
  refine ⟨hin, fun v hv => ?_⟩
  rw [wsum_in hv hl hin, wsum_out hv hl hin]
  have a1 : sm (n + 1) (fun u => room2 l u v) = sm (n + 1) (fun u => capOf (n + 1) (n + 2) l u v) := sm_congr fun u hu => room2_cap (by omega) hv
  have a2 : sm (n + 1) (fun u => room2 l v u) = sm (n + 1) (fun u => capOf (n + 1) (n + 2) l v u) := sm_congr fun u hu => room2_cap hv (by omega)
  rw [a1, a2, sm_last3, sm_last3]
  have a3 : sm (n + 1) (fun u => got l (give (fun u v => capOf (n + 1) (n + 2) l u v - R u v) l (fun _ _ => 0)) u v) - sm (n + 1) (fun u => got l (give (fun u v => capOf (n + 1) (n + 2) l u v - R u v) l (fun _ _ => 0)) v u) =
      - sm (n + 1) (fun u => capOf (n + 1) (n + 2) l v u - R v u) := by
    rw [← sm_sub, ← sm_neg]
    refine sm_congr fun u hu => ?_
    have := h.sym u v (by omega) (by omega)
    rw [hgot u v (by omega) hv, hgot v u hv (by omega)]
    split <;> split <;> omega
  have a4 := h.node v hv
  rw [sm_last3] at a4
  have f1 := full1 v (by omega)
  have f2 := full2 v (by omega)
  have s1 := h.sym v (n + 1) (by omega) (by omega)
  have z1 : capOf (n + 1) (n + 2) l v (n + 1) = 0 := by
    have : ∀ (m : List Ed), (∀ e ∈ m, EdOk n e) → capOf (n + 1) (n + 2) m v (n + 1) = 0 := by
      intro m
      induction m with
      | nil => intro _; rfl
      | cons e m ih =>
        intro hm
        have he := hm e (by simp)
        have b1 := he.u
        have b2 := he.v
        simp only [capOf, ih fun x hx => hm x (by simp [hx])]
        rw [if_neg (by omega), if_neg (by omega), if_neg (by omega)]
        rfl
    exact this l hl
  have z2 : capOf (n + 1) (n + 2) l (n + 2) v = 0 := by
    have : ∀ (m : List Ed), (∀ e ∈ m, EdOk n e) → capOf (n + 1) (n + 2) m (n + 2) v = 0 := by
      intro m
      induction m with
      | nil => intro _; rfl
      | cons e m ih =>
        intro hm
        have he := hm e (by simp)
        have b1 := he.u
        have b2 := he.v
        simp only [capOf, ih fun x hx => hm x (by simp [hx])]
        rw [if_neg (by omega), if_neg (by omega), if_neg (by omega)]
        rfl
    exact this l hl
  omega

/-! ### Hoffman's condition is necessary -/
theorem circ_room {n : Nat} {l : List Ed} {xs : List Int} (hl : ∀ e ∈ l, EdOk n e) (h : Circ n l xs) (T : Nat → Bool) : 0 ≤ roomOf T l := by
  have key : ∀ (l : List Ed) (xs : List Int), (∀ e ∈ l, EdOk n e) → Inside l xs →
      sm (n + 1) (fun v => if T v = true then wsum (fun e => decide (e.v = v)) l xs else 0) - sm (n + 1) (fun v => if T v = true then wsum (fun e => decide (e.u = v)) l xs else 0) ≤ roomOf T l := by
    intro l
    induction l with
    | nil =>
      intro xs _ hi
      cases xs with
      | nil =>
        rw [sm_zero fun v _ => by simp [wsum], sm_zero fun v _ => by simp [wsum]]
        exact Int.le_refl _
      | cons x xs => exact hi.elim
    | cons e l ih =>
      intro xs hok hi
      cases xs with
      | nil => exact hi.elim
      | cons x xs =>
        obtain ⟨i1, i2, hi'⟩ := hi
        have he := hok e (by simp)
        have b1 := he.u
        have b2 := he.v
        have ih := ih xs (fun y hy => hok y (by simp [hy])) hi'
        have g1 : sm (n + 1) (fun v => if T v = true then wsum (fun e => decide (e.v = v)) (e :: l) (x :: xs) else 0) = (if T e.v = true then x else 0) + sm (n + 1) (fun v => if T v = true then wsum (fun e => decide (e.v = v)) l xs else 0) := by
          have : ∀ v, v < n + 1 → (if T v = true then wsum (fun e => decide (e.v = v)) (e :: l) (x :: xs) else 0) = (if v = e.v then (if T e.v = true then x else 0) else 0) + (if T v = true then wsum (fun e => decide (e.v = v)) l xs else 0) := by
            intro v _
            simp only [wsum, decide_eq_true_eq]
            by_cases c : v = e.v
            · subst c; simp; split <;> omega
            · have : ¬ e.v = v := fun h => c h.symm
              simp [c, this]
          rw [sm_congr this, sm_add, sm_one (by omega)]
        have g2 : sm (n + 1) (fun v => if T v = true then wsum (fun e => decide (e.u = v)) (e :: l) (x :: xs) else 0) = (if T e.u = true then x else 0) + sm (n + 1) (fun v => if T v = true then wsum (fun e => decide (e.u = v)) l xs else 0) := by
          have : ∀ v, v < n + 1 → (if T v = true then wsum (fun e => decide (e.u = v)) (e :: l) (x :: xs) else 0) = (if v = e.u then (if T e.u = true then x else 0) else 0) + (if T v = true then wsum (fun e => decide (e.u = v)) l xs else 0) := by
            intro v _
            simp only [wsum, decide_eq_true_eq]
            by_cases c : v = e.u
            · subst c; simp; split <;> omega
            · have : ¬ e.u = v := fun h => c h.symm
              simp [c, this]
          rw [sm_congr this, sm_add, sm_one (by omega)]
        rw [g1, g2]
        simp only [roomOf]
        by_cases c1 : T e.u = true <;> by_cases c2 : T e.v = true <;> simp [c1, c2] <;> omega
  have hk := key l xs hl h.1
  have e : sm (n + 1) (fun v => if T v = true then wsum (fun e => decide (e.v = v)) l xs else 0) = sm (n + 1) (fun v => if T v = true then wsum (fun e => decide (e.u = v)) l xs else 0) :=
    sm_congr fun v hv => by rw [h.2 v (by omega)]
  omega

end Go.Proofs.Ythaoclocachbaaa
