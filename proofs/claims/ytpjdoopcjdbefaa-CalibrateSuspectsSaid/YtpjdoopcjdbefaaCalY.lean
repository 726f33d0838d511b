/- The walk of CalibrateFinds. -/
import Derived.Test.YtpjdoopcjdbefaaCalX
namespace Go.Proofs.Ytpjdoopcjdbefaa
set_option linter.unusedVariables false
set_option linter.unusedSimpArgs false
open Go.RowKit

theorem mems_none : ∀ (S : Nat → Bool) (n s : Nat), (∀ i, S i = false) → mems S s n = []
  | _, 0, _, _ => rfl
  | S, n + 1, s, h => by
    unfold mems
    rw [h s, if_neg (by simp)]
    exact mems_none S n (s + 1) h
theorem sus_same {S : List Sc} {l : List Pr} (h : conE S l = 0) : (bestR S.length (conP S l)).getD [] = susL S l := by
  obtain ⟨h1, h2, h3, h4⟩ := best_same (conP_ok S l)
  rw [h1]
  unfold susL
  split
  · rename_i hC
    have hP : conP S l = [] := by unfold conP; rw [hC]; rfl
    have := h4 (fun _ => false) (by rw [hP]; rfl)
    rw [mems_none _ _ _ fun _ => rfl] at this
    show mems _ _ _ = []
    generalize mems (setP S.length (bestP S.length (conP S l))) 0 S.length = x at *
    unfold lessL at this
    cases x with
    | nil => rfl
    | cons y x => simp at this
  · rfl
theorem sus_no {S : List Sc} {l : List Pr} (h : conE S l ≠ 0) : susL S l = [] := by unfold susL; rw [if_pos (conL_no h)]
set_option maxRecDepth 100000 in
set_option maxHeartbeats 8000000 in
theorem rsus_any {w : World} {vs vl : Value} {S : List Sc} {l : List Pr} (hs : RowIn w vs 6 encS S) (hl : RowIn w vl 5 encQ l) : Calls Try.prog 17 #[vs, vl] w (natOut w (susL S l) (conE S l)) := by
  by_cases h0 : conE S l = 0
  · have := rsuspects_any hs hl h0
    rw [sus_same h0] at this
    rw [h0]
    exact this
  have hco := fun w hs hl => rconflicts_any (w := w) (vs := vs) (vl := vl) (S := S) (l := l) hs hl
  have h0' : (conE S l != 0) = true := by simpa using h0
  rw [sus_no h0]
  rw [conL_no h0] at hco
  clear h0
  generalize conE S l = E at *
  go_enter Try.func17, Try.ntmps17
  go_wp2_with fail
  refine (hco _ hs hl).mono ?_
  rintro e w1 ⟨v1, rfl, R1, hb1⟩
  go_wp2_with fail
  refine bodyPost_ret (v := .tuple #[.slice none 0 0, .int .i64 E]) (by simp only [results, Try.results17]; go_simp; first | done | rfl) rfl ?_
  exact ⟨_, rfl, .nil _ _ _, hb1⟩

set_option maxRecDepth 100000 in
set_option maxHeartbeats 8000000 in
theorem law_finds {w : World} {vs vl : Value} {S : List Sc} {l : List Pr} (hs : RowIn w vs 6 encS S) (hl : RowIn w vl 5 encQ l) : Calls Try.prog 4 #[vs, vl] w fun e w' => e = .returned (.bool true) ∧ Below w.heap.size w w' := by
  have hs' := hs
  have hl' := hl
  obtain ⟨sa, cs, rfl, s1, s2, _, _⟩ := hs.at_
  obtain ⟨la, cl, rfl, l1, l2, _, _⟩ := hl.at_
  have hfew := fun w => few_any (w := w) (oa := sa) (ob := la) S.length l.length cs cl s1 s2 l1 l2
  clear s1 s2 l1 l2 hs hl
  by_cases hf : S.length ≤ 20 ∧ l.length ≤ 100
  case neg =>
    rw [decide_eq_false hf] at hfew
    clear hf
    have hb := Below.refl w.heap.size w
    go_enter Try.func4, Try.ntmps4
    go_wp2_with fail
    refine (hfew _).mono ?_
    rintro e w1 ⟨rfl, rfl⟩
    go_wp2_with fail
    refine (awake29_any _).mono ?_
    rintro e w9 ⟨rfl, hb9⟩
    go_wp2_with fail
    go_ret
    exact ⟨by first | rfl | simp, hb.trans (hb9.mono hb.size)⟩
  rw [decide_eq_true hf] at hfew
  have hc1 := fun w hs hl => suspects_any (w := w) (vs := .slice sa S.length cs) (vl := .slice la l.length cl) (S := S) (l := l) hs hl
  have hc2 := fun w hs hl => rsus_any (w := w) (vs := .slice sa S.length cs) (vl := .slice la l.length cl) (S := S) (l := l) hs hl
  clear hf
  generalize susL S l = C at *
  generalize conE S l = E at *
  have hb := Below.refl w.heap.size w
  go_enter Try.func4, Try.ntmps4
  go_wp2_with fail
  refine (hfew _).mono ?_
  rintro e w1 ⟨rfl, rfl⟩
  go_wp2_with fail
  refine (hc1 _ hs' hl').mono ?_
  rintro e w2 ⟨v2, rfl, R2, hb2⟩
  replace hs' := hs'.step hb2
  replace hl' := hl'.step hb2
  replace hb := hb.trans (hb2.mono hb.size)
  go_wp2_with fail
  refine (hc2 _ hs' hl').mono ?_
  rintro e w3 ⟨v3, rfl, R3, hb3⟩
  replace R2 := R2.step hb3
  replace hb := hb.trans (hb3.mono hb.size)
  have hi := rints_any R2 R3
  rw [decide_eq_true rfl] at hi
  clear hs' hl' hc1 hc2 hfew hb2 hb3
  go_wp2_with fail
  refine hi.mono ?_
  rintro e w4 ⟨rfl, hb4⟩
  replace hb := hb.trans (hb4.mono hb.size)
  clear hi R2 R3
  go_wp2_with fail
  refine (awake29_any _).mono ?_
  rintro e w9 ⟨rfl, hb9⟩
  go_wp2_with fail
  go_ret
  exact ⟨by first | rfl | simp, hb.trans (hb9.mono hb.size)⟩

end Go.Proofs.Ytpjdoopcjdbefaa
