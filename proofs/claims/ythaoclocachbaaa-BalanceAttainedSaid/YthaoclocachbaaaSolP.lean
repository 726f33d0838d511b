/- Plain law of solve: capacities entry by entry, cells of the two arrays. -/
import Derived.Test.YthaoclocachbaaaFlowR
import Derived.Test.YthaoclocachbaaaPushP
namespace Go.Proofs.Ythaoclocachbaaa
set_option linter.unusedVariables false
set_option linter.unusedSimpArgs false

theorem capOf_snoc (s t : Nat) (e : Ed) (u v : Nat) : ∀ l : List Ed, capOf s t (l ++ [e]) u v = capOf s t l u v + ((if u = e.u ∧ v = e.v then e.hi - e.lo else 0) + (if u = s ∧ v = e.v then e.lo else 0) + (if u = e.u ∧ v = t then e.lo else 0))
  | [] => by simp [capOf]
  | x :: l => by
    have := capOf_snoc s t e u v l
    simp only [List.cons_append, capOf, this]
    omega
theorem needOf_snoc (e : Ed) : ∀ l : List Ed, needOf (l ++ [e]) = needOf l + e.lo
  | [] => by simp [needOf]
  | x :: l => by
    have := needOf_snoc e l
    simp only [List.cons_append, needOf, this]
    omega
/-- Bounds of one edge. -/
structure EdB (n : Nat) (e : Ed) : Prop where
  ok : EdOk n e
  le : e.hi ≤ 562949953421312
theorem capOf_le {n s t : Nat} {l : List Ed} (h : ∀ e ∈ l, EdB n e) (u v : Nat) : capOf s t l u v ≤ l.length * 1688849860263936 := by
  induction l with
  | nil => simp [capOf]
  | cons e l ih =>
    have h1 := ih fun x hx => h x (by simp [hx])
    have h2 := h e (by simp)
    have h3 := h2.ok.lo
    have h4 := h2.ok.hi
    have h5 := h2.le
    simp only [capOf, List.length_cons]
    (repeat' split) <;> omega
theorem needOf_le {n : Nat} {l : List Ed} (h : ∀ e ∈ l, EdB n e) : 0 ≤ needOf l ∧ needOf l ≤ l.length * 562949953421312 := by
  induction l with
  | nil => simp [needOf]
  | cons e l ih =>
    have h1 := ih fun x hx => h x (by simp [hx])
    have h2 := h e (by simp)
    have h3 := h2.ok.lo
    have h4 := h2.ok.hi
    have h5 := h2.le
    simp only [needOf, List.length_cons]
    omega
theorem netL_congr {n : Int} {R S : Nat → Nat → Int} (h : ∀ u v, u < 11 → v < 11 → R u v = S u v) : netL n R = netL n S := by
  unfold netL
  congr 1
  refine List.map_congr_left fun i hi => ?_
  have := List.mem_range.1 hi
  exact h _ _ (by omega) (by omega)
def capUp (n : Nat) (e : Ed) (R : Nat → Nat → Int) : Nat → Nat → Int :=
  upd (upd (upd R e.u e.v (R e.u e.v + (e.hi - e.lo))) (n + 1) e.v (R (n + 1) e.v + e.lo)) e.u (n + 2) (R e.u (n + 2) + e.lo)
theorem cap_step {n : Nat} {e : Ed} (he : EdOk n e) (l : List Ed) (u v : Nat) : capUp n e (capOf (n + 1) (n + 2) l) u v = capOf (n + 1) (n + 2) (l ++ [e]) u v := by
  have h1 := he.u
  have h2 := he.v
  rw [capOf_snoc]
  unfold capUp upd
  by_cases a1 : u = e.u
  · subst a1
    by_cases a2 : v = n + 2
    · subst a2
      have : ¬ n + 2 = e.v := by omega
      simp [this]
    · by_cases a3 : v = e.v
      · subst a3
        have : ¬ e.u = n + 1 := by omega
        simp [a2, this]
      · simp [a2, a3]
  · by_cases a3 : v = e.v
    · subst a3
      by_cases a4 : u = n + 1
      · subst a4; simp [a1]
      · simp [a1, a4]
    · simp [a1, a3]
/-- The array of arrays alone. -/
def arrL (R : Nat → Nat → Int) : List Int := (List.range 121).map fun i => R (i / 11) (i % 11)
theorem arrL_get (R : Nat → Nat → Int) {u v : Nat} (hu : u < 11) (hv : v < 11) : (arrL R)[u * 11 + v]? = some (R u v) := by
  have := netL_get 0 R hu hv
  have e : 1 + u * 11 + v = (u * 11 + v) + 1 := by omega
  rw [e, netL, List.getElem?_cons_succ] at this
  exact this
theorem arrL_set (R : Nat → Nat → Int) {u v : Nat} (hu : u < 11) (hv : v < 11) (x : Int) : (arrL R).set (u * 11 + v) x = arrL (upd R u v x) := by
  have := netL_set 0 R hu hv x
  have e : 1 + u * 11 + v = (u * 11 + v) + 1 := by omega
  rw [e, netL, netL, List.set_cons_succ] at this
  exact List.cons.inj this |>.2
theorem arrL_congr {R S : Nat → Nat → Int} (h : ∀ u v, u < 11 → v < 11 → R u v = S u v) : arrL R = arrL S := by
  unfold arrL
  refine List.map_congr_left fun i hi => ?_
  have := List.mem_range.1 hi
  exact h _ _ (by omega) (by omega)
theorem arrL_len (R : Nat → Nat → Int) : (arrL R).length = 121 := by simp [arrL]
/-- One step of the division. -/
def giveK (w : Nat → Nat → Int) (e : Ed) (D : Nat → Nat → Int) : Int :=
  let used := if w e.u e.v - D e.u e.v < 0 then 0 else w e.u e.v - D e.u e.v
  if used < e.hi - e.lo then used else e.hi - e.lo
theorem giveK_le {w : Nat → Nat → Int} {e : Ed} {D : Nat → Nat → Int} (h : e.lo ≤ e.hi) : 0 ≤ giveK w e D ∧ giveK w e D ≤ e.hi - e.lo := by
  unfold giveK
  dsimp only
  (repeat' split) <;> omega
structure GiveAt (w : Nat → Nat → Int) (E : List Ed) (k : Nat) (pre : List Int) (D : Nat → Nat → Int) : Prop where
  len : pre.length = k
  eq : give w E (fun _ _ => 0) = pre ++ give w (E.drop k) D
  rng : ∀ u v, 0 ≤ D u v ∧ D u v ≤ k * 562949953421312
theorem GiveAt.start (w : Nat → Nat → Int) (E : List Ed) : GiveAt w E 0 [] (fun _ _ => 0) := ⟨rfl, rfl, fun _ _ => by simp⟩
theorem GiveAt.step {w : Nat → Nat → Int} {E : List Ed} {k : Nat} {pre : List Int} {D : Nat → Nat → Int} (h : GiveAt w E k pre D) {e : Ed} (he : E[k]? = some e) (h0 : 0 ≤ e.lo) (h1 : e.lo ≤ e.hi) (h2 : e.hi ≤ 562949953421312) :
    GiveAt w E (k + 1) (pre ++ [e.lo + giveK w e D]) (upd D e.u e.v (D e.u e.v + giveK w e D)) := by
  obtain ⟨hk, hke⟩ := List.getElem?_eq_some_iff.1 he
  have hd : E.drop k = e :: E.drop (k + 1) := by rw [List.drop_eq_getElem_cons hk, hke]
  refine ⟨by simp [h.len], ?_, fun u v => ?_⟩
  · rw [h.eq, hd, List.append_assoc]; rfl
  · have hb := giveK_le (w := w) (D := D) h1
    have hr := h.rng
    have hr1 := hr e.u e.v
    have hr2 := hr u v
    unfold upd
    split <;> omega
theorem GiveAt.done {w : Nat → Nat → Int} {E : List Ed} {pre : List Int} {D : Nat → Nat → Int} (h : GiveAt w E E.length pre D) : give w E (fun _ _ => 0) = pre := by
  rw [h.eq]; simp [give]

end Go.Proofs.Ythaoclocachbaaa
