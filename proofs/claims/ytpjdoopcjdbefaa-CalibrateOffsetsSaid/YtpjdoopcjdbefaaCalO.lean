/- The walks of CalibrateConflicts, CalibrateTrue, CalibrateTimes. -/
import Derived.Test.YtpjdoopcjdbefaaCalF
import Derived.Test.YtpjdoopcjdbefaaCalN
namespace Go.Proofs.Ytpjdoopcjdbefaa
set_option linter.unusedVariables false
set_option linter.unusedSimpArgs false
open Go.RowKit

set_option maxRecDepth 100000 in
set_option maxHeartbeats 8000000 in
theorem law_conf {w : World} {vs vl : Value} {S : List Sc} {l : List Pr} (hs : RowIn w vs 6 encS S) (hl : RowIn w vl 5 encQ l) : Calls Try.prog 3 #[vs, vl] w fun e w' => e = .returned (.bool true) ∧ Below w.heap.size w w' := by
  have hs' := hs
  have hl' := hl
  obtain ⟨sa, cs, rfl, s1, s2, _, _⟩ := hs.at_
  obtain ⟨la, cl, rfl, l1, l2, _, _⟩ := hl.at_
  have hfew := fun w => few_any (w := w) (oa := sa) (ob := la) S.length l.length cs cl s1 s2 l1 l2
  clear s1 s2 l1 l2 hs hl
  by_cases hf : S.length ≤ 20 ∧ l.length ≤ 100
  case neg =>
    rw [decide_eq_false hf] at hfew
    clear hf
    have hb := Below.refl w.heap.size w
    go_enter Try.func3, Try.ntmps3
    go_wp2_with fail
    refine (hfew _).mono ?_
    rintro e w1 ⟨rfl, rfl⟩
    go_wp2_with fail
    refine (awake29_any _).mono ?_
    rintro e w9 ⟨rfl, hb9⟩
    go_wp2_with fail
    go_ret
    exact ⟨by first | rfl | simp, hb.trans (hb9.mono hb.size)⟩
  rw [decide_eq_true hf] at hfew
  have hc1 := fun w hs hl => conflicts_any (w := w) (vs := .slice sa S.length cs) (vl := .slice la l.length cl) (S := S) (l := l) hs hl
  have hc2 := fun w hs hl => rconflicts_any (w := w) (vs := .slice sa S.length cs) (vl := .slice la l.length cl) (S := S) (l := l) hs hl
  clear hf
  generalize conL S l = C at *
  generalize conE S l = E at *
  have hb := Below.refl w.heap.size w
  go_enter Try.func3, Try.ntmps3
  go_wp2_with fail
  refine (hfew _).mono ?_
  rintro e w1 ⟨rfl, rfl⟩
  go_wp2_with fail
  refine (hc1 _ hs' hl').mono ?_
  rintro e w2 ⟨v2, rfl, R2, hb2⟩
  replace hs' := hs'.step hb2
  replace hl' := hl'.step hb2
  replace hb := hb.trans (hb2.mono hb.size)
  go_wp2_with fail
  refine (hc2 _ hs' hl').mono ?_
  rintro e w3 ⟨v3, rfl, R3, hb3⟩
  replace R2 := R2.step hb3
  replace hb := hb.trans (hb3.mono hb.size)
  have hi := rints_any R2 R3
  rw [decide_eq_true rfl] at hi
  clear hs' hl' hc1 hc2 hfew hb2 hb3
  go_wp2_with fail
  refine hi.mono ?_
  rintro e w4 ⟨rfl, hb4⟩
  replace hb := hb.trans (hb4.mono hb.size)
  clear hi R2 R3
  go_wp2_with fail
  refine (awake29_any _).mono ?_
  rintro e w9 ⟨rfl, hb9⟩
  go_wp2_with fail
  go_ret
  exact ⟨by first | rfl | simp, hb.trans (hb9.mono hb.size)⟩

set_option maxRecDepth 100000 in
set_option maxHeartbeats 8000000 in
theorem law_times {w : World} (s : Sc) (t lim : Int) : Calls Try.prog 9 #[.agg #[.int .i64 (s).a, .int .i64 (s).b, .int .i64 (s).c, .int .i64 (s).d, .int .i64 (s).e, .int .i64 (s).f], .int .i64 t, .int .i64 lim] w fun e w' => e = .returned (.bool true) ∧ Below w.heap.size w w' := by
  have h1 := fun w => needs_any s t lim w
  have h2 := fun w => rneeds_any s t lim w
  have h3 := fun w => until_any s lim w
  have h4 := fun w => runtil_any s lim w
  generalize neeB s t lim = B at *
  generalize neeE s t lim = E at *
  generalize untV s lim = V at *
  generalize untE s lim = F at *
  have hb : Below w.heap.size w (w.alloc (.cells (#[.int .i64 (s).a, .int .i64 (s).b, .int .i64 (s).c, .int .i64 (s).d, .int .i64 (s).e, .int .i64 (s).f]) 32)) := by repeat (first | (with_reducible exact Below.refl _ _) | (with_reducible assumption) | (with_reducible refine Below.drew ?_) | ((with_reducible refine Below.alloc ?_ ?_ _); rotate_left; (first | (with_reducible exact Nat.zero_le _) | (with_reducible exact Nat.le_refl _) | omega | (dsimp only; omega) | (simp only [World.size_alloc, World.size_setCell, World.size_drew]; omega))) | ((with_reducible refine Below.setCell ?_ ?_ _); rotate_left; (first | (with_reducible exact Nat.zero_le _) | (with_reducible exact Nat.le_refl _) | omega | (dsimp only; omega) | (simp only [World.size_alloc, World.size_setCell, World.size_drew]; omega))))
  have BS := Blk.new w 32 (#[.int .i64 (s).a, .int .i64 (s).b, .int .i64 (s).c, .int .i64 (s).d, .int .i64 (s).e, .int .i64 (s).f])
  go_enter Try.func9, Try.ntmps9
  go_wp2_with fail
  refine (h1 _).mono ?_
  rintro e w1 ⟨rfl, hb1⟩
  replace BS := BS.step hb1
  replace hb := hb.trans (hb1.mono hb.size)
  have c1 := BS.cell
  have l1 := BS.lt
  go_wp2_with fail
  refine (h2 _).mono ?_
  rintro e w2 ⟨rfl, hb2⟩
  replace BS := BS.step hb2
  replace hb := hb.trans (hb2.mono hb.size)
  clear c1 l1
  have c1 := BS.cell
  have l1 := BS.lt
  go_wp2_with fail
  refine (h3 _).mono ?_
  rintro e w3 ⟨rfl, hb3⟩
  replace BS := BS.step hb3
  replace hb := hb.trans (hb3.mono hb.size)
  clear c1 l1
  have c1 := BS.cell
  have l1 := BS.lt
  go_wp2_with fail
  refine (h4 _).mono ?_
  rintro e w4 ⟨rfl, hb4⟩
  replace hb := hb.trans (hb4.mono hb.size)
  clear c1 l1 BS h1 h2 h3 h4
  go_wp2_with fail
  refine (awake29_any _).mono ?_
  rintro e w9 ⟨rfl, hb9⟩
  go_wp2_with fail
  go_ret
  exact ⟨by first | rfl | simp, hb.trans (hb9.mono hb.size)⟩

end Go.Proofs.Ytpjdoopcjdbefaa
