/- Contracts: checks with closing intervals; members of intervals. -/
import Derived.Test.YthaoclocachbaaaBalB
namespace Go.Proofs.Ythaoclocachbaaa
set_option linter.unusedVariables false
set_option linter.unusedSimpArgs false
open Go.RowKit

def ClRel (w : World) (c : List Sp) (i : Value) (wr : World) : Prop := ∃ k : Nat, k ≤ c.length ∧ i = .int .i64 k ∧ allV (c.take k) = true ∧ Below w.heap.size w wr

set_option maxRecDepth 100000 in
set_option maxHeartbeats 4000000 in
theorem bcheckA_any {w : World} {vo vl vc : Value} (n : Int) {o : List Sp} {l : List Tr} {c : List Sp} (ho : RowIn w vo 2 encP o) (hl : RowIn w vl 4 encR l) (hc : RowIn w vc 2 encP c) : Calls Try.prog 29 #[.int .i64 n, vo, vl, vc] w fun e w' => e = .returned (.int .i64 (bchkA n o l c)) ∧ Below w.heap.size w w' := by
  have hck := fun w ho hl => bcheck_any (w := w) (vo := vo) (vl := vl) n (o := o) (l := l) ho hl
  obtain ⟨ca, cc, rfl, c1, c2, _, hc5⟩ := hc.at_
  unfold maxLen at c2
  have HC := Lib.hid hc5
  clear hc5
  by_cases h0 : bchk n o l = 0
  · have hE : bchkA n o l c = if (c.length : Int) ≠ n then 1 else if allV c = false then 1 else 0 := by unfold bchkA; rw [if_neg (by simp [h0])]
    rw [h0] at hck
    have HE := Lib.hid hE
    clear hE h0
    by_cases hcl : (c.length : Int) = n
    · obtain rfl := hcl
      go_enter Try.func29, Try.ntmps29
      go_wp2_with fail
      refine (hck _ ho hl).mono ?_
      rintro e w1 ⟨rfl, hb1⟩
      have hs1 := hb1.size
      go_wp2_with fail
      go_loopw [25] (fun i wr => ClRel w c i wr) (fun i _ => (c.length - intOf i).toNat)
      case atStart => exact ⟨0, Nat.zero_le _, rfl, rfl, hb1⟩
      case round =>
        obtain ⟨k, hk, rfl, hok, hb⟩ := hrel
        have hwz := hb.size
        by_cases hlt : k < c.length
        · obtain ⟨x, hx⟩ : ∃ x, c[k]? = some x := ⟨_, List.getElem?_eq_getElem hlt⟩
          obtain ⟨ob, oo, hoo, hoz, hoc⟩ := HC.out (by rintro rfl; simp at hlt)
          rw [hoo]
          have hkl : (k : Int) < c.length := by omega
          have e0 : World.cell? wr ⟨ob, oo + k * 2, none⟩ = some (.int .i64 x.lo) := (hb.cell (p := ⟨ob, oo + k * 2, none⟩) hoz).trans (hoc k x hx 0 (by omega))
          have e1 : World.cell? wr ⟨ob, oo + k * 2 + 1, none⟩ = some (.int .i64 x.hi) := (hb.cell (p := ⟨ob, oo + k * 2 + 1, none⟩) hoz).trans (hoc k x hx 1 (by omega))
          have hv := fun w => valid1_any x w
          have hb2 : Below w.heap.size w (wr.alloc (.cells (#[.int .i64 (x).lo, .int .i64 (x).hi]) 41)) := by repeat (first | (with_reducible exact Below.refl _ _) | (with_reducible assumption) | (with_reducible refine Below.drew ?_) | ((with_reducible refine Below.alloc ?_ ?_ _); rotate_left; (first | (with_reducible exact Nat.zero_le _) | (with_reducible exact Nat.le_refl _) | omega | (dsimp only; omega) | (simp only [World.size_alloc, World.size_setCell, World.size_drew]; omega))) | ((with_reducible refine Below.setCell ?_ ?_ _); rotate_left; (first | (with_reducible exact Nat.zero_le _) | (with_reducible exact Nat.le_refl _) | omega | (dsimp only; omega) | (simp only [World.size_alloc, World.size_setCell, World.size_drew]; omega))))
          have hs := allV_take hx
          rw [hok, Bool.true_and] at hs
          cases hsv : sval x with
          | false =>
            have hfin : allV c = false := Bool.eq_false_iff.2 fun h => by
              have := allV_le (k := k + 1) h
              rw [hs, hsv] at this; cases this
            rw [hsv] at hv
            have HF := Lib.hid hfin
            clear hfin hs hsv
            go_wp2_with fail
            refine (hv _).mono ?_
            rintro e w5 ⟨rfl, hb5⟩
            go_wp2_with fail
            go_ret
            exact ⟨by rw [HE.out, if_neg (by simp), if_pos HF.out]; rfl, hb2.trans (hb5.mono hb2.size)⟩
          | true =>
            rw [hsv] at hv
            have HS := Lib.hid (hs.trans hsv)
            clear hs hsv
            go_wp2_with fail
            refine (hv _).mono ?_
            rintro e w5 ⟨rfl, hb5⟩
            go_wp2_with fail
            go_roundw
            case rel => exact ⟨k + 1, hlt, by simp, HS.out, hb2.trans (hb5.mono hb2.size)⟩
            case measure => simp [intOf]; omega
        · obtain rfl : k = c.length := by omega
          rw [List.take_length] at hok
          have HF := Lib.hid hok
          clear hok
          go_wp2_with fail
          go_ret
          exact ⟨by rw [HE.out, if_neg (by simp), if_neg (by rw [HF.out]; decide)]; rfl, hb⟩
    · have hcl' : ((c.length : Int) != n) = true := by simpa using hcl
      have HN := Lib.hid hcl
      clear hcl
      go_enter Try.func29, Try.ntmps29
      go_wp2_with fail
      refine (hck _ ho hl).mono ?_
      rintro e w1 ⟨rfl, hb1⟩
      go_wp2_with fail
      go_ret
      exact ⟨by rw [HE.out, if_pos HN.out]; rfl, hb1⟩
  · have hE : bchkA n o l c = bchk n o l := by unfold bchkA; rw [if_pos h0]
    have h0' : (bchk n o l != 0) = true := by simpa using h0
    rw [hE]
    clear hE h0
    generalize bchk n o l = E at *
    go_enter Try.func29, Try.ntmps29
    go_wp2_with fail
    refine (hck _ ho hl).mono ?_
    rintro e w1 ⟨rfl, hb1⟩
    go_wp2_with fail
    go_ret
    exact ⟨rfl, hb1⟩
set_option maxRecDepth 100000 in
set_option maxHeartbeats 4000000 in
theorem rcheckA_any {w : World} {vo vl vc : Value} (n : Int) {o : List Sp} {l : List Tr} {c : List Sp} (ho : RowIn w vo 2 encP o) (hl : RowIn w vl 4 encR l) (hc : RowIn w vc 2 encP c) : Calls Try.prog 12 #[.int .i64 n, vo, vl, vc] w fun e w' => e = .returned (.int .i64 (bchkA n o l c)) ∧ Below w.heap.size w w' := by
  have hck := fun w ho hl => rcheckB_any (w := w) (vo := vo) (vl := vl) n (o := o) (l := l) ho hl
  obtain ⟨ca, cc, rfl, c1, c2, _, hc5⟩ := hc.at_
  unfold maxLen at c2
  have HC := Lib.hid hc5
  clear hc5
  by_cases h0 : bchk n o l = 0
  · have hE : bchkA n o l c = if (c.length : Int) ≠ n then 1 else if allV c = false then 1 else 0 := by unfold bchkA; rw [if_neg (by simp [h0])]
    rw [h0] at hck
    have HE := Lib.hid hE
    clear hE h0
    by_cases hcl : (c.length : Int) = n
    · obtain rfl := hcl
      go_enter Try.func12, Try.ntmps12
      go_wp2_with fail
      refine (hck _ ho hl).mono ?_
      rintro e w1 ⟨rfl, hb1⟩
      have hs1 := hb1.size
      go_wp2_with fail
      go_loopw [10] (fun i wr => ClRel w c i wr) (fun i _ => (c.length - intOf i).toNat)
      case atStart => exact ⟨0, Nat.zero_le _, rfl, rfl, hb1⟩
      case round =>
        obtain ⟨k, hk, rfl, hok, hb⟩ := hrel
        have hwz := hb.size
        by_cases hlt : k < c.length
        · obtain ⟨x, hx⟩ : ∃ x, c[k]? = some x := ⟨_, List.getElem?_eq_getElem hlt⟩
          obtain ⟨ob, oo, hoo, hoz, hoc⟩ := HC.out (by rintro rfl; simp at hlt)
          rw [hoo]
          have hkl : (k : Int) < c.length := by omega
          have e0 : World.cell? wr ⟨ob, oo + k * 2, none⟩ = some (.int .i64 x.lo) := (hb.cell (p := ⟨ob, oo + k * 2, none⟩) hoz).trans (hoc k x hx 0 (by omega))
          have e1 : World.cell? wr ⟨ob, oo + k * 2 + 1, none⟩ = some (.int .i64 x.hi) := (hb.cell (p := ⟨ob, oo + k * 2 + 1, none⟩) hoz).trans (hoc k x hx 1 (by omega))
          have hv := fun w => rvalid_any x w
          have hb2 : Below w.heap.size w (wr) := by repeat (first | (with_reducible exact Below.refl _ _) | (with_reducible assumption) | (with_reducible refine Below.drew ?_) | ((with_reducible refine Below.alloc ?_ ?_ _); rotate_left; (first | (with_reducible exact Nat.zero_le _) | (with_reducible exact Nat.le_refl _) | omega | (dsimp only; omega) | (simp only [World.size_alloc, World.size_setCell, World.size_drew]; omega))) | ((with_reducible refine Below.setCell ?_ ?_ _); rotate_left; (first | (with_reducible exact Nat.zero_le _) | (with_reducible exact Nat.le_refl _) | omega | (dsimp only; omega) | (simp only [World.size_alloc, World.size_setCell, World.size_drew]; omega))))
          have hs := allV_take hx
          rw [hok, Bool.true_and] at hs
          cases hsv : sval x with
          | false =>
            have hfin : allV c = false := Bool.eq_false_iff.2 fun h => by
              have := allV_le (k := k + 1) h
              rw [hs, hsv] at this; cases this
            rw [hsv] at hv
            have HF := Lib.hid hfin
            clear hfin hs hsv
            go_wp2_with fail
            refine (hv _).mono ?_
            rintro e w5 ⟨rfl, hb5⟩
            go_wp2_with fail
            go_ret
            exact ⟨by rw [HE.out, if_neg (by simp), if_pos HF.out]; rfl, hb2.trans (hb5.mono hb2.size)⟩
          | true =>
            rw [hsv] at hv
            have HS := Lib.hid (hs.trans hsv)
            clear hs hsv
            go_wp2_with fail
            refine (hv _).mono ?_
            rintro e w5 ⟨rfl, hb5⟩
            go_wp2_with fail
            go_roundw
            case rel => exact ⟨k + 1, hlt, by simp, HS.out, hb2.trans (hb5.mono hb2.size)⟩
            case measure => simp [intOf]; omega
        · obtain rfl : k = c.length := by omega
          rw [List.take_length] at hok
          have HF := Lib.hid hok
          clear hok
          go_wp2_with fail
          go_ret
          exact ⟨by rw [HE.out, if_neg (by simp), if_neg (by rw [HF.out]; decide)]; rfl, hb⟩
    · have hcl' : ((c.length : Int) != n) = true := by simpa using hcl
      have HN := Lib.hid hcl
      clear hcl
      go_enter Try.func12, Try.ntmps12
      go_wp2_with fail
      refine (hck _ ho hl).mono ?_
      rintro e w1 ⟨rfl, hb1⟩
      go_wp2_with fail
      go_ret
      exact ⟨by rw [HE.out, if_pos HN.out]; rfl, hb1⟩
  · have hE : bchkA n o l c = bchk n o l := by unfold bchkA; rw [if_pos h0]
    have h0' : (bchk n o l != 0) = true := by simpa using h0
    rw [hE]
    clear hE h0
    generalize bchk n o l = E at *
    go_enter Try.func12, Try.ntmps12
    go_wp2_with fail
    refine (hck _ ho hl).mono ?_
    rintro e w1 ⟨rfl, hb1⟩
    go_wp2_with fail
    go_ret
    exact ⟨rfl, hb1⟩

theorem hasV_cases (s : Sp) (m : Int) : (hasV s m = false ∧ (sval s = false ∨ (sval s = true ∧ ¬ s.lo ≤ m) ∨ (sval s = true ∧ s.lo ≤ m ∧ ¬ m ≤ s.hi))) ∨ (hasV s m = true ∧ sval s = true ∧ s.lo ≤ m ∧ m ≤ s.hi) := by
  unfold hasV
  cases sval s
  · exact .inl ⟨rfl, .inl rfl⟩
  · by_cases h1 : s.lo ≤ m
    · by_cases h2 : m ≤ s.hi
      · exact .inr ⟨by simp [h1, h2], rfl, h1, h2⟩
      · exact .inl ⟨by simp [h2], .inr (.inr ⟨rfl, h1, h2⟩)⟩
    · exact .inl ⟨by simp [h1], .inr (.inl ⟨rfl, h1⟩)⟩
theorem has_any (s : Sp) (m : Int) (w : World) : Calls Try.prog 33 #[.agg #[.int .i64 (s).lo, .int .i64 (s).hi], .int .i64 m] w fun e w' => e = .returned (.bool (hasV s m)) ∧ Below w.heap.size w w' := by
  have hv := fun w => valid1_any s w
  have BX := Blk.new w 41 (#[.int .i64 (s).lo, .int .i64 (s).hi])
  have hb0 : Below w.heap.size w (w.alloc (.cells (#[.int .i64 (s).lo, .int .i64 (s).hi]) 41)) := Below.alloc (Below.refl _ _) (Nat.le_refl _) _
  rcases hasV_cases s m with ⟨h, hc⟩ | ⟨h, h0, h1, h2⟩
  · rw [h]
    clear h
    rcases hc with h0 | ⟨h0, h1⟩ | ⟨h0, h1, h2⟩
    all_goals (
      rw [h0] at hv
      clear h0
      go_enter Try.func33, Try.ntmps33
      go_wp2_with fail
      refine (hv _).mono ?_
      rintro e w1 ⟨rfl, hb1⟩
      replace BX := BX.step hb1
      have cx := BX.cell
      go_wp2_with fail
      go_ret
      exact ⟨by first | rfl | (simp; try omega), hb0.trans (hb1.mono hb0.size)⟩)
  · rw [h]
    rw [h0] at hv
    clear h h0
    go_enter Try.func33, Try.ntmps33
    go_wp2_with fail
    refine (hv _).mono ?_
    rintro e w1 ⟨rfl, hb1⟩
    replace BX := BX.step hb1
    have cx := BX.cell
    go_wp2_with fail
    go_ret
    exact ⟨by first | rfl | (simp; try omega), hb0.trans (hb1.mono hb0.size)⟩

end Go.Proofs.Ythaoclocachbaaa
