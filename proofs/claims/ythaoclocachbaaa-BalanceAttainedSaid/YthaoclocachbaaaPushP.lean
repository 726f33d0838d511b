/- The plain law of a search in a network, and of the cells that hold it. No program in sight. -/
import Derived.Test.YthaoclocachbaaaFlowR
namespace Go.Proofs.Ythaoclocachbaaa
set_option linter.unusedVariables false
set_option linter.unusedSimpArgs false

/-! ### Lists of the cells -/
def befL (B : Nat → Int) : List Int := (List.range 11).map B
theorem befL_get (B : Nat → Int) {k : Nat} (h : k < 11) : (befL B)[k]? = some (B k) := by simp [befL, h]
theorem befL_set (B : Nat → Int) {k : Nat} (h : k < 11) (x : Int) : (befL B).set k x = befL (fun i => if i = k then x else B i) := by
  refine List.ext_getElem (by simp [befL]) fun i h1 h2 => ?_
  simp only [List.getElem_set, befL, List.getElem_map, List.getElem_range]
  by_cases he : k = i
  · subst he; simp
  · rw [if_neg he, if_neg fun e => he e.symm]
def netL (n : Int) (R : Nat → Nat → Int) : List Int := n :: (List.range 121).map fun i => R (i / 11) (i % 11)
theorem netL_zero (n : Int) (R : Nat → Nat → Int) : (netL n R)[0]? = some n := rfl
theorem netL_get (n : Int) (R : Nat → Nat → Int) {u v : Nat} (hu : u < 11) (hv : v < 11) : (netL n R)[1 + u * 11 + v]? = some (R u v) := by
  have h1 : u * 11 + v < 121 := by omega
  have e : 1 + u * 11 + v = (u * 11 + v) + 1 := by omega
  rw [e, netL, List.getElem?_cons_succ, List.getElem?_map, List.getElem?_range h1]
  have a1 : (u * 11 + v) / 11 = u := by omega
  have a2 : (u * 11 + v) % 11 = v := by omega
  simp [a1, a2]
theorem netL_set (n : Int) (R : Nat → Nat → Int) {u v : Nat} (hu : u < 11) (hv : v < 11) (x : Int) : (netL n R).set (1 + u * 11 + v) x = netL n (upd R u v x) := by
  have e : 1 + u * 11 + v = (u * 11 + v) + 1 := by omega
  rw [e, netL, netL, List.set_cons_succ]
  congr 1
  refine List.ext_getElem (by simp) fun i h1 h2 => ?_
  have hi : i < 121 := by simpa using h2
  simp only [List.getElem_set, List.getElem_map, List.getElem_range, upd]
  by_cases he : u * 11 + v = i
  · subst he
    rw [if_pos rfl, if_pos (by omega)]
  · rw [if_neg he, if_neg (by omega)]

/-! ### The search -/
def Dn (B : Nat → Int) (x : Nat) : Bool := decide (x < 11 ∧ 0 ≤ B x)
def Bn (B : Nat → Int) (x : Nat) : Nat := (B x).toNat
def setB (B : Nat → Int) (k : Nat) (x : Int) : Nat → Int := fun i => if i = k then x else B i
theorem Dn_set {B : Nat → Int} {k c : Nat} (hk : k < 11) : Dn (setB B k c) = fun x => if x = k then true else Dn B x := by
  funext x
  unfold Dn setB
  by_cases he : x = k
  · subst he; simp [hk]
  · simp [he]
theorem Bn_set {B : Nat → Int} {k c : Nat} : Bn (setB B k c) = fun x => if x = k then c else Bn B x := by
  funext x
  unfold Bn setB
  by_cases he : x = k
  · subst he; simp
  · simp [he]
structure BfsO (N : Nat) (R : Nat → Nat → Int) (s t : Nat) (B : Nat → Int) (Q : List Nat) : Prop where
  tree : ∃ rk, Tree N R s (Dn B) (Bn B) rk
  mem : ∀ x ∈ Q, Dn B x = true
  goal : Dn B t = false
  done : ∀ x, Dn B x = true → x ∈ Q ∨ ∀ v, v < N → Dn B v = false → R x v = 0
  rng : ∀ x, x < 11 → B x = -1 ∨ (0 ≤ B x ∧ B x < N)
  few : Q.length + notIn (Dn B) N ≤ N
structure BfsI (N : Nat) (R : Nat → Nat → Int) (s t : Nat) (B : Nat → Int) (Q : List Nat) (c j : Nat) : Prop where
  tree : ∃ rk, Tree N R s (Dn B) (Bn B) rk
  mem : ∀ x ∈ Q, Dn B x = true
  goal : Dn B t = false
  cur : Dn B c = true
  done : ∀ x, Dn B x = true → x ∈ Q ∨ x = c ∨ ∀ v, v < N → Dn B v = false → R x v = 0
  seen : ∀ v, v < j → Dn B v = true ∨ R c v = 0
  rng : ∀ x, x < 11 → B x = -1 ∨ (0 ≤ B x ∧ B x < N)
  few : Q.length + notIn (Dn B) N ≤ N
theorem BfsO.pop {N : Nat} {R : Nat → Nat → Int} {s t : Nat} {B : Nat → Int} {c : Nat} {Q : List Nat} (h : BfsO N R s t B (c :: Q)) : BfsI N R s t B Q c 0 ∧ Q.length + 1 + notIn (Dn B) N ≤ N := by
  refine ⟨⟨h.tree, fun x hx => h.mem x (by simp [hx]), h.goal, h.mem c (by simp), fun x hx => ?_, fun v hv => absurd hv (Nat.not_lt_zero _), h.rng, by have := h.few; simp at this; omega⟩, by have := h.few; simp at this; omega⟩
  rcases h.done x hx with h1 | h1
  · rcases List.mem_cons.1 h1 with rfl | h1
    · exact .inr (.inl rfl)
    · exact .inl h1
  · exact .inr (.inr h1)
theorem BfsI.skip {N : Nat} {R : Nat → Nat → Int} {s t : Nat} {B : Nat → Int} {c j : Nat} {Q : List Nat} (h : BfsI N R s t B Q c j) (hj : 0 ≤ B j ∧ j < 11 ∨ R c j = 0) : BfsI N R s t B Q c (j + 1) := by
  refine ⟨h.tree, h.mem, h.goal, h.cur, h.done, fun v hv => ?_, h.rng, h.few⟩
  by_cases he : v = j
  · subst he
    rcases hj with hj | hj
    · exact .inl (by simp [Dn, hj])
    · exact .inr hj
  · exact h.seen v (by omega)
theorem BfsI.found {N : Nat} {R : Nat → Nat → Int} {s t : Nat} {B : Nat → Int} {c j : Nat} {Q : List Nat} (h : BfsI N R s t B Q c j) (hN : N ≤ 11) (hj : j < N) (hB : B j < 0) (hR : 0 < R c j) :
    (∃ rk, Tree N R s (Dn (setB B j c)) (Bn (setB B j c)) rk) ∧ Dn (setB B j c) j = true ∧ (∀ x, x < 11 → setB B j c x = -1 ∨ (0 ≤ setB B j c x ∧ setB B j c x < N)) ∧ notIn (Dn (setB B j c)) N + 1 = notIn (Dn B) N := by
  have hD : Dn B j = false := by simp [Dn]; omega
  obtain ⟨rk, hT⟩ := h.tree
  have hc := hT.lt c h.cur
  refine ⟨⟨_, by rw [Dn_set (by omega), Bn_set]; exact hT.grow h.cur hD hj hR⟩, by rw [Dn_set (by omega)]; simp, fun x hx => ?_, ?_⟩
  · unfold setB
    by_cases he : x = j
    · rw [if_pos he]; omega
    · rw [if_neg he]; exact h.rng x hx
  · have := notIn_grow (N := N) hD
    rw [if_pos hj] at this
    rw [Dn_set (by omega)]; exact this
theorem BfsI.grow {N : Nat} {R : Nat → Nat → Int} {s t : Nat} {B : Nat → Int} {c j : Nat} {Q : List Nat} (h : BfsI N R s t B Q c j) (hN : N ≤ 11) (hj : j < N) (hB : B j < 0) (hR : 0 < R c j) (ht : j ≠ t) :
    BfsI N R s t (setB B j c) (Q ++ [j]) c (j + 1) ∧ notIn (Dn (setB B j c)) N + 1 = notIn (Dn B) N := by
  obtain ⟨h1, h2, h3, h4⟩ := h.found hN hj hB hR
  have hmono : ∀ x, Dn B x = true → Dn (setB B j c) x = true := fun x hx => by
    rw [Dn_set (by omega)]
    dsimp only
    split
    · rfl
    · exact hx
  have hback : ∀ x, Dn (setB B j c) x = false → Dn B x = false := fun x hx => by
    cases hq : Dn B x
    · rfl
    · rw [hmono x hq] at hx; cases hx
  refine ⟨⟨h1, fun x hx => ?_, ?_, hmono c h.cur, fun x hx => ?_, fun v hv => ?_, h3, ?_⟩, h4⟩
  · rcases List.mem_append.1 hx with hx | hx
    · exact hmono x (h.mem x hx)
    · obtain rfl := List.mem_singleton.1 hx; exact h2
  · rw [Dn_set (by omega)]
    dsimp only
    rw [if_neg fun e => ht e.symm]; exact h.goal
  · rw [Dn_set (by omega)] at hx
    dsimp only at hx
    by_cases he : x = j
    · subst he; exact .inl (by simp)
    · rw [if_neg he] at hx
      rcases h.done x hx with h5 | h5 | h5
      · exact .inl (by simp [h5])
      · exact .inr (.inl h5)
      · exact .inr (.inr fun v hv hD => h5 v hv (hback v hD))
  · by_cases he : v = j
    · subst he; exact .inl h2
    · rcases h.seen v (by omega) with h5 | h5
      · exact .inl (hmono v h5)
      · exact .inr h5
  · have := h.few; simp; omega
theorem BfsI.close {N : Nat} {R : Nat → Nat → Int} {s t : Nat} {B : Nat → Int} {c : Nat} {Q : List Nat} (h : BfsI N R s t B Q c N) : BfsO N R s t B Q := by
  refine ⟨h.tree, h.mem, h.goal, fun x hx => ?_, h.rng, h.few⟩
  rcases h.done x hx with h1 | rfl | h1
  · exact .inl h1
  · refine .inr fun v hv hD => ?_
    rcases h.seen v hv with h2 | h2
    · rw [h2] at hD; cases hD
    · exact h2
  · exact .inr h1
theorem BfsO.start {N : Nat} {R : Nat → Nat → Int} {s t : Nat} (hN : N ≤ 11) (hs : s < N) (hst : s ≠ t) : BfsO N R s t (setB (fun _ => -1) s s) [s] := by
  have hD : Dn (setB (fun _ => -1) s s) = fun x => decide (x = s) := by
    rw [Dn_set (by omega)]
    funext x
    by_cases he : x = s
    · simp [he]
    · simp [he, Dn]
  have h0 : notIn (fun x => decide (x = s)) N + 1 ≤ N := by
    have := notIn_grow (D := fun _ => false) (v := s) (N := N) rfl
    rw [if_pos hs] at this
    have hall : ∀ N, notIn (fun _ => false) N = N := by
      intro N
      induction N with
      | zero => rfl
      | succ N ih => simp [notIn, ih]
    have e : (fun x => if x = s then true else (fun _ : Nat => false) x) = fun x => decide (x = s) := by funext x; by_cases he : x = s <;> simp [he]
    rw [e, hall] at this
    omega
  refine ⟨⟨fun x => x, ?_⟩, fun x hx => ?_, ?_, fun x hx => ?_, fun x hx => ?_, ?_⟩
  · rw [hD]
    exact ⟨by simp, fun x hx => by have : x = s := by simpa using hx
                                   omega, fun x hx he => absurd (by simpa using hx) he⟩
  · rw [hD]; simpa using hx
  · rw [hD]; simpa using fun e => hst e.symm
  · rw [hD] at hx
    exact .inl (by simpa using hx)
  · unfold setB
    split
    · right; omega
    · exact .inl rfl
  · rw [hD]; simp; omega

end Go.Proofs.Ythaoclocachbaaa
