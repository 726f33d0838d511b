/- The plain law of circulations: what a maximal flow says of bounds on edges (Hoffman's condition), and how a flow is divided among edges. No program in sight. -/
import Init
namespace Go.Proofs.Ythaoclocachbaaa
set_option linter.unusedVariables false
set_option linter.unusedSimpArgs false

/-! ### Finite sums -/
def sm : Nat → (Nat → Int) → Int
  | 0, _ => 0
  | n + 1, f => sm n f + f n
theorem sm_congr {n : Nat} {f g : Nat → Int} (h : ∀ i, i < n → f i = g i) : sm n f = sm n g := by
  induction n with
  | zero => rfl
  | succ n ih => simp only [sm]; rw [ih fun i hi => h i (by omega), h n (by omega)]
theorem sm_zero {n : Nat} {f : Nat → Int} (h : ∀ i, i < n → f i = 0) : sm n f = 0 := by
  induction n with
  | zero => rfl
  | succ n ih => simp only [sm]; rw [ih fun i hi => h i (by omega), h n (by omega)]; rfl
theorem sm_add (n : Nat) (f g : Nat → Int) : sm n (fun i => f i + g i) = sm n f + sm n g := by
  induction n with
  | zero => rfl
  | succ n ih => simp only [sm, ih]; omega
theorem sm_sub (n : Nat) (f g : Nat → Int) : sm n (fun i => f i - g i) = sm n f - sm n g := by
  induction n with
  | zero => rfl
  | succ n ih => simp only [sm, ih]; omega
theorem sm_neg (n : Nat) (f : Nat → Int) : sm n (fun i => - f i) = - sm n f := by
  induction n with
  | zero => rfl
  | succ n ih => simp only [sm, ih]; omega
theorem sm_le {n : Nat} {f g : Nat → Int} (h : ∀ i, i < n → f i ≤ g i) : sm n f ≤ sm n g := by
  induction n with
  | zero => exact Int.le_refl _
  | succ n ih => have := ih fun i hi => h i (by omega); have := h n (by omega); simp only [sm]; omega
theorem sm_eq_of_le {n : Nat} {f g : Nat → Int} (h : ∀ i, i < n → f i ≤ g i) (hs : sm n f = sm n g) : ∀ i, i < n → f i = g i := by
  induction n with
  | zero => intro i hi; omega
  | succ n ih =>
    have h1 := sm_le fun i (hi : i < n) => h i (by omega)
    have h2 := h n (by omega)
    simp only [sm] at hs
    intro i hi
    by_cases he : i = n
    · subst he; omega
    · exact ih (fun i hi => h i (by omega)) (by omega) i (by omega)
theorem sm_swap (n m : Nat) (f : Nat → Nat → Int) : sm n (fun i => sm m (fun j => f i j)) = sm m (fun j => sm n (fun i => f i j)) := by
  induction n with
  | zero => exact (sm_zero fun _ _ => rfl).symm
  | succ n ih => simp only [sm, ih]; rw [← sm_add]
theorem sm_one {n a : Nat} (ha : a < n) (c : Int) : sm n (fun i => if i = a then c else 0) = c := by
  induction n with
  | zero => omega
  | succ n ih =>
    simp only [sm]
    by_cases he : a = n
    · subst he
      rw [sm_zero fun i hi => if_neg (by omega)]
      simp
    · rw [ih (by omega), if_neg (by omega)]; omega
theorem sm_mul (n : Nat) (c : Int) (f : Nat → Int) : sm n (fun i => c * f i) = c * sm n f := by
  induction n with
  | zero => simp [sm]
  | succ n ih => simp only [sm, ih, Int.mul_add]

/-! ### Edges with bounds -/
structure Ed where
  u : Nat
  v : Nat
  lo : Int
  hi : Int

/-- 1 or 0. -/
def ind (b : Bool) : Int := if b then 1 else 0

def needOf : List Ed → Int
  | [] => 0
  | e :: l => e.lo + needOf l
/-- The capacities of the network: s is its source, t its sink. -/
def capOf (s t : Nat) : List Ed → Nat → Nat → Int
  | [], _, _ => 0
  | e :: l, u, v => (if u = e.u ∧ v = e.v then e.hi - e.lo else 0) + (if u = s ∧ v = e.v then e.lo else 0) + (if u = e.u ∧ v = t then e.lo else 0) + capOf s t l u v
/-- What enters a set at most minus what leaves it at least (Hoffman). -/
def roomOf (T : Nat → Bool) : List Ed → Int
  | [] => 0
  | e :: l => (if T e.u = false ∧ T e.v = true then e.hi else 0) - (if T e.u = true ∧ T e.v = false then e.lo else 0) + roomOf T l

structure EdOk (n : Nat) (e : Ed) : Prop where
  u : e.u ≤ n
  v : e.v ≤ n
  lo : 0 ≤ e.lo
  hi : e.lo ≤ e.hi

/-- The sum over a cut. -/
def cutSum (N : Nat) (S : Nat → Bool) (f : Nat → Nat → Int) : Int := sm N fun u => sm N fun v => if S u = true ∧ S v = false then f u v else 0
theorem cutSum_add (N : Nat) (S : Nat → Bool) (f g : Nat → Nat → Int) : cutSum N S (fun u v => f u v + g u v) = cutSum N S f + cutSum N S g := by
  unfold cutSum
  rw [← sm_add]
  refine sm_congr fun u _ => ?_
  rw [← sm_add]
  refine sm_congr fun v _ => ?_
  show (if S u = true ∧ S v = false then f u v + g u v else 0) = _
  split <;> omega
theorem cutSum_one {N a b : Nat} (ha : a < N) (hb : b < N) (S : Nat → Bool) (c : Int) : cutSum N S (fun u v => if u = a ∧ v = b then c else 0) = if S a = true ∧ S b = false then c else 0 := by
  unfold cutSum
  have h1 : ∀ u, u < N → sm N (fun v => if S u = true ∧ S v = false then (if u = a ∧ v = b then c else 0) else 0) = if u = a then (if S a = true ∧ S b = false then c else 0) else 0 := by
    intro u _
    by_cases hu : u = a
    · subst hu
      have : ∀ v, v < N → (if S u = true ∧ S v = false then (if u = u ∧ v = b then c else 0) else 0) = if v = b then (if S u = true ∧ S b = false then c else 0) else 0 := by
        intro v _
        by_cases hv : v = b
        · subst hv; simp
        · simp [hv]
      rw [sm_congr this, sm_one hb]; simp
    · rw [if_neg hu]
      refine sm_zero fun v _ => ?_
      simp [hu]
  rw [sm_congr h1, sm_one ha]
theorem cut_cap {n s t N : Nat} (hs : s = n + 1) (ht : t = n + 2) (hN : N = n + 3) (S : Nat → Bool) (h1 : S s = true) (h2 : S t = false) : ∀ (l : List Ed), (∀ e ∈ l, EdOk n e) →
    cutSum N S (capOf s t l) = needOf l + roomOf (fun v => !S v) l := by
  intro l
  induction l with
  | nil =>
    intro _
    refine (sm_zero fun u _ => sm_zero fun v _ => ?_)
    simp [capOf]
  | cons e l ih =>
    intro h
    have he := h e (by simp)
    have hi := ih fun x hx => h x (by simp [hx])
    have e1 : capOf s t (e :: l) = fun u v => (if u = e.u ∧ v = e.v then e.hi - e.lo else 0) + ((if u = s ∧ v = e.v then e.lo else 0) + ((if u = e.u ∧ v = t then e.lo else 0) + capOf s t l u v)) := by
      funext u v; simp only [capOf]; omega
    have b1 := he.u
    have b2 := he.v
    rw [e1, cutSum_add, cutSum_add, cutSum_add, hi, cutSum_one (by omega) (by omega), cutSum_one (by omega) (by omega), cutSum_one (by omega) (by omega), h1, h2]
    simp only [needOf, roomOf]
    by_cases c1 : S e.u = true <;> by_cases c2 : S e.v = true <;> simp [c1, c2] <;> omega

/-! ### What is left of the capacities behind some pushes -/
structure ResOk (n : Nat) (cap R : Nat → Nat → Int) (F : Int) : Prop where
  nonneg : ∀ u v, u < n + 3 → v < n + 3 → 0 ≤ R u v
  sym : ∀ u v, u < n + 3 → v < n + 3 → R u v + R v u = cap u v + cap v u
  node : ∀ u, u ≤ n → sm (n + 3) (fun v => cap u v - R u v) = 0
  src : sm (n + 3) (fun v => cap (n + 1) v - R (n + 1) v) = F

/-- Antisymmetric values cancel inside a set. -/
theorem anti_zero {N : Nat} (S : Nat → Bool) (f : Nat → Nat → Int) (hf : ∀ u v, u < N → v < N → f u v = - f v u) :
    sm N (fun u => sm N fun v => if S u = true ∧ S v = true then f u v else 0) = 0 := by
  have h : sm N (fun u => sm N fun v => if S u = true ∧ S v = true then f u v else 0) = - sm N (fun u => sm N fun v => if S u = true ∧ S v = true then f u v else 0) := by
    conv => lhs; rw [sm_swap]
    rw [← sm_neg]
    refine sm_congr fun v hv => ?_
    rw [← sm_neg]
    refine sm_congr fun u hu => ?_
    by_cases h1 : S u = true <;> by_cases h2 : S v = true <;> simp [h1, h2]
    exact hf u v hu hv
  omega
theorem flow_anti {n : Nat} {cap R : Nat → Nat → Int} {F : Int} (h : ResOk n cap R F) {u v : Nat} (hu : u < n + 3) (hv : v < n + 3) : cap u v - R u v = - (cap v u - R v u) := by
  have := h.sym u v hu hv
  omega
/-- What flows out of a set that holds the source and not the sink is what was pushed. -/
theorem cut_flow {n : Nat} {cap R : Nat → Nat → Int} {F : Int} (h : ResOk n cap R F) (S : Nat → Bool) (h1 : S (n + 1) = true) (h2 : S (n + 2) = false) :
    cutSum (n + 3) S (fun u v => cap u v - R u v) = F := by
  have e1 : sm (n + 3) (fun u => if S u = true then sm (n + 3) (fun v => cap u v - R u v) else 0) = F := by
    have : ∀ u, u < n + 3 → (if S u = true then sm (n + 3) (fun v => cap u v - R u v) else 0) = if u = n + 1 then F else 0 := by
      intro u hu
      by_cases hs : u = n + 1
      · subst hs; rw [if_pos h1, if_pos rfl, h.src]
      · rw [if_neg hs]
        by_cases ht : u = n + 2
        · subst ht; rw [h2]; simp
        · rw [h.node u (by omega)]; simp
    rw [sm_congr this, sm_one (by omega)]
  have e2 : sm (n + 3) (fun u => if S u = true then sm (n + 3) (fun v => cap u v - R u v) else 0) =
      sm (n + 3) (fun u => sm (n + 3) fun v => if S u = true ∧ S v = true then cap u v - R u v else 0) + cutSum (n + 3) S (fun u v => cap u v - R u v) := by
    unfold cutSum
    rw [← sm_add]
    refine sm_congr fun u _ => ?_
    rw [← sm_add]
    by_cases hu : S u = true
    · rw [if_pos hu]
      refine sm_congr fun v _ => ?_
      cases hv : S v <;> simp [hu]
    · rw [if_neg hu]
      exact (sm_zero fun v _ => by simp [hu]).symm
  rw [anti_zero S _ fun u v hu hv => flow_anti h hu hv] at e2
  omega
/-- No way on from the set S: Hoffman's condition fails for what is not in S. -/
theorem stuck_room {n : Nat} {l : List Ed} {R : Nat → Nat → Int} {F : Int} (hl : ∀ e ∈ l, EdOk n e) (h : ResOk n (capOf (n + 1) (n + 2) l) R F) (S : Nat → Bool) (h1 : S (n + 1) = true) (h2 : S (n + 2) = false)
    (hst : ∀ u v, u < n + 3 → v < n + 3 → S u = true → S v = false → R u v = 0) (hF : F < needOf l) : roomOf (fun v => !S v) l < 0 := by
  have a := cut_flow h S h1 h2
  have b := cut_cap (n := n) rfl rfl rfl S h1 h2 l hl
  have e : cutSum (n + 3) S (fun u v => capOf (n + 1) (n + 2) l u v - R u v) = cutSum (n + 3) S (capOf (n + 1) (n + 2) l) := by
    unfold cutSum
    refine sm_congr fun u hu => sm_congr fun v hv => ?_
    by_cases hc : S u = true ∧ S v = false
    · rw [if_pos hc, if_pos hc]
      show capOf (n + 1) (n + 2) l u v - R u v = _
      rw [hst u v hu hv hc.1 hc.2]; omega
    · rw [if_neg hc, if_neg hc]
  omega

/-! ### All is pushed -/
theorem cap_src {n : Nat} : ∀ {l : List Ed}, (∀ e ∈ l, EdOk n e) → sm (n + 3) (fun v => capOf (n + 1) (n + 2) l (n + 1) v) = needOf l := by
  intro l
  induction l with
  | nil => intro _; exact sm_zero fun _ _ => rfl
  | cons e l ih =>
    intro h
    have he := h e (by simp)
    have b1 := he.u
    have b2 := he.v
    have : ∀ v, v < n + 3 → capOf (n + 1) (n + 2) (e :: l) (n + 1) v = (if v = e.v then e.lo else 0) + capOf (n + 1) (n + 2) l (n + 1) v := by
      intro v _
      simp only [capOf]
      rw [if_neg (by omega), if_neg (c := n + 1 = e.u ∧ v = n + 2) (by omega)]
      simp
    rw [sm_congr this, sm_add, sm_one (by omega), ih fun x hx => h x (by simp [hx])]
    rfl
theorem cap_sink {n : Nat} : ∀ {l : List Ed}, (∀ e ∈ l, EdOk n e) → sm (n + 3) (fun v => capOf (n + 1) (n + 2) l v (n + 2)) = needOf l := by
  intro l
  induction l with
  | nil => intro _; exact sm_zero fun _ _ => rfl
  | cons e l ih =>
    intro h
    have he := h e (by simp)
    have b1 := he.u
    have b2 := he.v
    have : ∀ v, v < n + 3 → capOf (n + 1) (n + 2) (e :: l) v (n + 2) = (if v = e.u then e.lo else 0) + capOf (n + 1) (n + 2) l v (n + 2) := by
      intro v _
      simp only [capOf]
      rw [if_neg (c := v = e.u ∧ n + 2 = e.v) (by omega), if_neg (c := v = n + 1 ∧ n + 2 = e.v) (by omega)]
      simp
    rw [sm_congr this, sm_add, sm_one (by omega), ih fun x hx => h x (by simp [hx])]
    rfl
/-- The source's and the sink's edges are full. -/
theorem full {n : Nat} {l : List Ed} {R : Nat → Nat → Int} (hl : ∀ e ∈ l, EdOk n e) (h : ResOk n (capOf (n + 1) (n + 2) l) R (needOf l)) :
    (∀ v, v < n + 3 → R (n + 1) v = 0) ∧ ∀ v, v < n + 3 → R v (n + 2) = 0 := by
  constructor
  · intro v hv
    have := sm_eq_of_le (f := fun v => capOf (n + 1) (n + 2) l (n + 1) v - R (n + 1) v) (g := fun v => capOf (n + 1) (n + 2) l (n + 1) v)
      (fun v hv => by have := h.nonneg (n + 1) v (by omega) hv; omega) (by rw [h.src, cap_src hl]) v hv
    omega
  · intro v hv
    have hc := cut_flow h (fun u => decide (u ≠ n + 2)) (by simp) (by simp)
    have e : cutSum (n + 3) (fun u => decide (u ≠ n + 2)) (fun u v => capOf (n + 1) (n + 2) l u v - R u v) = sm (n + 3) (fun u => capOf (n + 1) (n + 2) l u (n + 2) - R u (n + 2)) := by
      unfold cutSum
      refine sm_congr fun u hu => ?_
      by_cases hut : u = n + 2
      · subst hut
        rw [sm_zero fun v _ => by simp]
        have := flow_anti h (u := n + 2) (v := n + 2) (by omega) (by omega)
        omega
      · have : ∀ v, v < n + 3 → (if decide (u ≠ n + 2) = true ∧ decide (v ≠ n + 2) = false then capOf (n + 1) (n + 2) l u v - R u v else 0) = if v = n + 2 then capOf (n + 1) (n + 2) l u (n + 2) - R u (n + 2) else 0 := by
          intro v _
          by_cases hvt : v = n + 2
          · subst hvt; simp [hut]
          · simp [hvt]
        rw [sm_congr this, sm_one (by omega)]
    rw [e] at hc
    have := sm_eq_of_le (f := fun v => capOf (n + 1) (n + 2) l v (n + 2) - R v (n + 2)) (g := fun v => capOf (n + 1) (n + 2) l v (n + 2))
      (fun v hv => by have := h.nonneg v (n + 2) hv (by omega); omega) (by rw [hc, cap_sink hl]) v hv
    omega

/-! ### One step of a push: d goes from u to v -/
def upd (R : Nat → Nat → Int) (a b : Nat) (x : Int) : Nat → Nat → Int := fun u v => if u = a ∧ v = b then x else R u v

/-! ### Division among the edges -/
/-- What the edges of the list carry, in order: w(u, v) is what flows from u to v, D what was given to earlier edges. -/
def give (w : Nat → Nat → Int) : List Ed → (Nat → Nat → Int) → List Int
  | [], _ => []
  | e :: l, D => let used := if w e.u e.v - D e.u e.v < 0 then 0 else w e.u e.v - D e.u e.v
                 let k := if used < e.hi - e.lo then used else e.hi - e.lo
                 (e.lo + k) :: give w l (upd D e.u e.v (D e.u e.v + k))

/-- The sum over the edges of a list with their values. -/
def wsum (p : Ed → Bool) : List Ed → List Int → Int
  | e :: l, x :: xs => (if p e then x else 0) + wsum p l xs
  | _, _ => 0
/-- Values within their bounds. -/
def Inside : List Ed → List Int → Prop
  | [], [] => True
  | e :: l, x :: xs => e.lo ≤ x ∧ x ≤ e.hi ∧ Inside l xs
  | _, _ => False
/-- A circulation: inside the bounds, and at each node as much comes as goes. -/
def Circ (n : Nat) (l : List Ed) (xs : List Int) : Prop := Inside l xs ∧ ∀ v, v ≤ n → wsum (fun e => decide (e.v = v)) l xs = wsum (fun e => decide (e.u = v)) l xs

end Go.Proofs.Ythaoclocachbaaa
